-- Made by a program (the kit's print with additions of this session: wip/tools/patch_print.py, ext.py).
-- (turned)
import Derived.RangeFuncBox
import Derived.RangeFuncLeaves
import Derived.Shelf.Abstract
import Derived.OwnWalkIn
import Derived.TacticsInMore
import Derived.LoopNIn
import Derived.LoopIn
import Derived.Lib.SlKeysI
import Derived.Test.YtmodgiingohphaaGreatPFnExactFromRecordsx0
import Derived.Test.YtmodgiingohphaaGreatPFnExactFromRecordsx1
namespace Go.Proofs.YtmodgiingohphaaGreat.PFnExactFromRecords
open Go.RowKit Go.Proofs.YtmodgiingohphaaGreatW.PrintWords Go.Proofs.YtmodgiingohphaaGreatW.PrintLast Go.Proofs.YtmodgiingohphaaGreatW.PrintMore
attribute [local go_sem] max2_int min2_int max_two min_two max_three min_three max_four min_four   -- for this text's walks alone
set_option linter.unusedVariables false
set_option linter.unusedSimpArgs false

attribute [local go_sem high] eqA48
/-! ### slices_Index_int_int: function 60 -/
def slices_Index_int_int.l0 : Nat → List Int → Int → Int → Int → Option (Int)
  | 0, _, _, _, _ => none
  | k + 1, x0, x1, x7, x8 => if x8 < x7 then (if 0 ≤ x8 then (if x8 < (x0.length : Int) then (if x1 = (rd x0 x8) then (some x8) else (slices_Index_int_int.l0 k x0 x1 x7 (wrap64 (x8 + 1)))) else (none)) else (none)) else (some (-1))
def slices_Index_int_int.f (k : Nat) (l0 : List Int) (a1 : Int) : Option (Int) := slices_Index_int_int.l0 k l0 a1 (l0.length : Int) 0
theorem slices_Index_int_int.mono_l : ∀ k, (∀ y0 y1 y2 y3, LeO (slices_Index_int_int.l0 k y0 y1 y2 y3) (slices_Index_int_int.l0 (k + 1) y0 y1 y2 y3))
  | 0 => by intros; exact LeO.none _
  | k + 1 => by
    have ih0 := slices_Index_int_int.mono_l k; intros ; unfold slices_Index_int_int.l0 ; repeat' with_reducible first | exact LeO.refl _ | exact LeO.none _ | refine LeO.ite ?_ ?_ | refine LeO.bind ?_ (fun _ => ?_) | exact ih0 _ _ _ _
theorem slices_Index_int_int.mono : ∀ a0 a1 k, LeO (slices_Index_int_int.f k a0 a1) (slices_Index_int_int.f (k + 1) a0 a1) := by
  intro a0 a1 k; have ih0 := slices_Index_int_int.mono_l k; unfold slices_Index_int_int.f
  repeat' with_reducible first | exact LeO.refl _ | exact LeO.none _ | refine LeO.ite ?_ ?_ | refine LeO.bind ?_ (fun _ => ?_) | exact ih0 _ _ _ _
set_option maxHeartbeats 8000000 in
set_option maxRecDepth 100000 in
theorem slices_Index_int_int.calls (k : Nat) (A0 : Option Addr) (c0 : Nat) (l0 : List Int) (a1 : Int) (r : Int) (w : World) (hr0 : Kd.C (Kd.int .i64) w A0 l0.length l0) (hc0 : l0.length ≤ c0) (h : slices_Index_int_int.f k l0 a1 = some r) :
    Calls Tryz.prog 60 #[.slice A0 l0.length c0, .int .i64 a1] w fun e w' => e = .returned (.int .i64 r) ∧ Drawn0 w w' := by
  have HR0 := Aside0.mk hr0; have HC0 := Aside0.mk hc0; clear hr0 hc0; have H : (slices_Index_int_int.l0 k l0 a1 (l0.length : Int) 0) = some r := h; clear h; have H' := Aside0.mk H; clear H; go_enter Tryz.func60, Tryz.ntmps60; go_wp2; go_loopg [8] k (fun kq v8 w' => ∃ (x8_1 : Int), v8 = .int .i64 x8_1 ∧ Aside0 (slices_Index_int_int.l0 kq l0 a1 (l0.length : Int) x8_1 = some r) ∧ Aside0 (kq ≤ k) ∧ Drawn0 w w')
  case atStart => exact ⟨(0), q4_, H', ⟨Nat.le_refl _⟩, by repeat (first | exact Drawn0.refl _ | apply Drawn0.step)⟩
  case round =>
    clear H'; (try clear p2); obtain ⟨x8_1, rfl, HA, HK1, ⟨m1, rfl⟩⟩ := hrel
    cases gk with
    | zero => exact absurd HA.out (by simp [slices_Index_int_int.l0])
    | succ k1 =>
     have H := HA.out; clear HA; simp only [slices_Index_int_int.l0] at H; by_cases c3 : x8_1 < (l0.length : Int)
     ·rw [if_pos c3] at H; have c3b0 : decide (x8_1 < (l0.length : Int)) = true := decide_eq_true c3; clear c3; obtain ⟨c4b0, H⟩ := ifd_ H; obtain ⟨c5b0, H⟩ := ifd_ H; by_cases c6 : a1 = (rd l0 x8_1)
      ·rw [if_pos c6] at H; have c6b0 : (a1 == (rd l0 x8_1)) = true := beq_iff_eq.mpr c6; have c6b1 : (a1 != (rd l0 x8_1)) = false := bne_eq_false_iff_eq.mpr c6; clear c6; obtain rfl := Option.some.inj H; have p167 : 0 ≤ (x8_1 : Int) := of_decide_eq_true q1_; have q167 : x8_1 < (l0.length : Int) := of_decide_eq_true q1_; obtain ⟨ad167, e167, hx167_0⟩ := Kd.at_int HR0.out x8_1 p167 q167; cases e167; replace p167 := eq_true p167; replace q167 := eq_true q167; go_wp2; go_ret; exact ⟨by first | rfl | (simp; done) | (simp [*]; done), by repeat (first | exact Drawn0.refl _ | apply Drawn0.step)⟩
      ·rw [if_neg c6] at H; have c6b0 : (a1 == (rd l0 x8_1)) = false := beq_eq_false_iff_ne.mpr c6; have c6b1 : (a1 != (rd l0 x8_1)) = true := bne_iff_ne.mpr c6; have H' := Aside0.mk H; clear H; have p167 : 0 ≤ (x8_1 : Int) := of_decide_eq_true q1_; have q167 : x8_1 < (l0.length : Int) := of_decide_eq_true q1_; obtain ⟨ad167, e167, hx167_0⟩ := Kd.at_int HR0.out x8_1 p167 q167; cases e167; replace p167 := eq_true p167; replace q167 := eq_true q167; go_wp2; go_roundg k1
       case measure => have := HK1.out; omega
       case rel => exact ⟨(wrap64 (x8_1 + 1)), q4_, H', ⟨by have := HK1.out; omega⟩, by repeat (first | exact Drawn0.refl _ | apply Drawn0.step)⟩
     ·rw [if_neg c3] at H; have c3b0 : decide (x8_1 < (l0.length : Int)) = false := decide_eq_false c3; clear c3; obtain rfl := Option.some.inj H; go_wp2; go_ret; exact ⟨by first | rfl | (simp; done) | (simp [*]; done), by repeat (first | exact Drawn0.refl _ | apply Drawn0.step)⟩

/-! ### impl_walker_mark: function 34 -/
def St (w0 W : World) (g : Nat) (o : Bool) (i : Int) (v : Value) (d : List Int) : Prop := W.heap[g]? = some (.cells #[.bool o, .int .i64 i, v] 61 (0, 0)) ∧ w0.heap.size ≤ g ∧ Kd.R (Kd.int .i64) 3 W w0.heap.size (fun _ => True) v d ∧ Below w0.heap.size w0 W
theorem St.below {w0 W W1 : World} {g : Nat} {o : Bool} {i : Int} {v : Value} {d : List Int} (h : St w0 W g o i v d) (hb : Below W.heap.size W W1) : St w0 W1 g o i v d :=
  ⟨(hb.block g (blk_lt h.1)).trans h.1, h.2.1, Kd.R_below h.2.2.1 hb, below_step h.2.2.2 hb⟩
theorem St.drewN {w0 W : World} {g : Nat} {o : Bool} {i : Int} {v : Value} {d : List Int} (h : St w0 W g o i v d) (n : Nat) : St w0 (W.drewN n) g o i v d := h.below (pw_below_drewN (Below.refl _ _) n)
theorem St.drew {w0 W : World} {g : Nat} {o : Bool} {i : Int} {v : Value} {d : List Int} (h : St w0 W g o i v d) : St w0 W.drew g o i v d := h.below (below_drew1 (Below.refl _ _))
theorem St.alloc {w0 W : World} {g : Nat} {o : Bool} {i : Int} {v : Value} {d : List Int} (h : St w0 W g o i v d) (x : Obj) : St w0 (W.alloc x) g o i v d := h.below (below_alloc (Below.refl _ _) x)
theorem St.off {w0 W : World} {g : Nat} {o : Bool} {i : Int} {v : Value} {d : List Int} (h : St w0 W g o i v d) : Kd.R (Kd.int .i64) 3 W w0.heap.size (fun k => True ∧ k ≠ g) v d := Kd.R_types h.2.2.1 h.1 (by decide)
theorem St.set0 {w0 W : World} {g : Nat} {o : Bool} {i : Int} {v : Value} {d : List Int} (h : St w0 W g o i v d) (x : Bool) : St w0 (W.setCell ⟨g, 0, none⟩ (.bool x)) g x i v d :=
  ⟨by simpa using blk_set h.1 0 (.bool x), h.2.1, Kd.R_mono (Kd.R_far (p := ⟨g, 0, none⟩) h.off (fun _ hk => hk.2) _) (fun _ _ => trivial), below_set h.2.2.2 h.2.1⟩
theorem St.set1 {w0 W : World} {g : Nat} {o : Bool} {i : Int} {v : Value} {d : List Int} (h : St w0 W g o i v d) (x : Int) : St w0 (W.setCell ⟨g, 1, none⟩ (.int .i64 x)) g o x v d :=
  ⟨by simpa using blk_set h.1 1 (.int .i64 x), h.2.1, Kd.R_mono (Kd.R_far (p := ⟨g, 1, none⟩) h.off (fun _ hk => hk.2) _) (fun _ _ => trivial), below_set h.2.2.2 h.2.1⟩
/-- A new row for the walker's dels: made apart from its own block, then stored. -/
theorem St.set2 {w0 W : World} {g : Nat} {o : Bool} {i : Int} {v : Value} (h0 : W.heap[g]? = some (.cells #[.bool o, .int .i64 i, v] 61 (0, 0))) (hg : w0.heap.size ≤ g) (hb : Below w0.heap.size w0 W) {v' : Value} {d' : List Int} (h : Kd.R (Kd.int .i64) 3 W w0.heap.size (fun _ => True) v' d') : St w0 (W.setCell ⟨g, 2, none⟩ v') g o i v' d' :=
  ⟨by simpa using blk_set h0 2 v', hg, Kd.R_mono (Kd.R_far (p := ⟨g, 2, none⟩) (Kd.R_types h h0 (by decide)) (fun _ hk => hk.2) _) (fun _ _ => trivial), below_set hb hg⟩
/-- slices.Delete of one element of a row of the call's own. -/
theorem del_row {W : World} {base g c q j : Nat} {d : List Int} (h : Kd.R (Kd.int .i64) 3 W base (fun _ => True) (.slice (some ⟨g, 0, none⟩) d.length c) d) (hj : j < d.length) :
    Kd.R (Kd.int .i64) 3 ((W.drewN q).setCells g 0 (((d.take d.length).take j ++ (d.take d.length).drop (j + 1) ++ List.replicate (j + 1 - j) 0).map (Value.int .i64))) base (fun _ => True) (.slice (some ⟨g, 0, none⟩) (d.eraseIdx j).length c) (d.eraseIdx j) ∧
    W.grownBy ((W.drewN q).setCells g 0 (((d.take d.length).take j ++ (d.take d.length).drop (j + 1) ++ List.replicate (j + 1 - j) 0).map (Value.int .i64))) (some g) := by
  rw [List.take_length]; have hl : (d.eraseIdx j).length = d.length - 1 := List.length_eraseIdx_of_lt hj; obtain ⟨vs, hvs⟩ : ∃ vs, (d.take j ++ d.drop (j + 1) ++ List.replicate (j + 1 - j) 0).map (Value.int .i64) = vs := ⟨_, rfl⟩
  have hvl : vs.length = d.length := by
    rw [← hvs]; simp only [List.length_map, List.length_append, List.length_take, List.length_drop, List.length_replicate]; omega
  have hvt : vs.take (d.length - 1) = (d.eraseIdx j).map (Value.int .i64) := by
    rw [← hvs, ← List.map_take, List.take_append_of_le_length (by simp only [List.length_append, List.length_take, List.length_drop]; omega), List.take_of_length_le (by simp only [List.length_append, List.length_take, List.length_drop]; omega), List.eraseIdx_eq_take_drop_succ]
  rw [hvs]; obtain ⟨h1, h2⟩ := Kd.own_of_R h; rcases h2 with ⟨h2, _⟩ | ⟨g', cap, cur, he, hb, hh, hnc, hcm, hcs, ht⟩
  · cases h2
  · cases he; rw [Nat.mul_one] at hcs ht; obtain ⟨cur', h3, h4, h5⟩ := setCells_row vs 0 (W.drewN q) cur hh (by omega); have hs := setCells_same g vs 0 (W.drewN q); refine ⟨Kd.R_of_own ⟨by simp [encs], .inr ⟨g, c, cur', rfl, hb, h3, by omega, hcm, by omega, ?_⟩⟩ (fun _ _ => trivial), ⟨hs.1, hs.2.1, hs.2.2.1, by rw [hs.2.2.2]; exact Nat.le_refl _, fun k _ hk => setCells_far vs 0 k (fun e => hk (by rw [e]))⟩⟩; rw [h5, List.take_zero, List.nil_append, Nat.mul_one, hl, List.take_append_of_le_length (by omega), hvt]; rfl
theorem row_cap {W : World} {base c : Nat} {a : Addr} {d : List Int} (h : Kd.R (Kd.int .i64) 3 W base (fun _ => True) (.slice (some a) d.length c) d) : c ≤ 9223372036854775807 := by
  obtain ⟨_, h2⟩ := Kd.own_of_R h; rcases h2 with ⟨h2, _⟩ | ⟨g', cap, cur, he, hb, hh, hnc, hcm, _⟩
  · cases h2
  · cases he; exact hcm
def impl_walker_mark.f (k : Nat) (o : Bool) (i : Int) (d : List Int) (kind ver : Int) : Option (Bool × Bool × Int × List Int) :=
  (slices_Index_int_int.f k d ver).bind fun at_ =>
  if kind = 2 then (if o = true then some (false, o, i, d) else some (true, true, ver, d)) else
  if kind = 3 then (if o = true then (if i = ver then some (true, false, i, d) else some (false, o, i, d)) else some (false, o, i, d)) else
  if kind = 4 then (if 0 ≤ at_ then some (false, o, i, d) else some (true, o, i, d ++ [ver])) else
  if kind = 5 then (if at_ < 0 then some (false, o, i, d) else if at_.toNat < d.length then some (true, o, i, d.eraseIdx at_.toNat) else none) else
  if kind = 1 then some (o, o, i, d) else some (false, o, i, d)
theorem impl_walker_mark.mono : ∀ o i d kind ver k, LeO (impl_walker_mark.f k o i d kind ver) (impl_walker_mark.f (k + 1) o i d kind ver) := by
  intro o i d kind ver k; unfold impl_walker_mark.f; exact LeO.bind (slices_Index_int_int.mono d ver k) (fun _ => LeO.refl _)
theorem impl_walker_mark.info : (Tryz.prog.info? 3).map (fun i => (i.zero, i.size, i.bytes)) = some (some (.int .i64 0), 1, 8) := by kernel_rfl
set_option maxHeartbeats 8000000 in
set_option maxRecDepth 100000 in
theorem impl_walker_mark.calls (k : Nat) (g : Nat) (o : Bool) (i : Int) (v : Value) (d : List Int) (kind ver : Int) (line : ByteArray) (r o' : Bool) (i' : Int) (d' : List Int) (w0 w : World) (hS : St w0 w g o i v d) (hl : d.length < 4000000) (h : impl_walker_mark.f k o i d kind ver = some (r, o', i', d')) :
    Calls Tryz.prog 34 #[.pointer (some ⟨g, 0, none⟩), .agg #[.int .i64 kind, .int .i64 ver, .string line]] w fun e w' => ∃ v', e = .returned (.bool r) ∧ St w0 w' g o' i' v' d' ∧ KeepBut w w' g v.ownBlock ∧ (v'.ownBlock = v.ownBlock ∨ ∃ b, v'.ownBlock = some b ∧ w.heap.size ≤ b) := by
  unfold impl_walker_mark.f at h; replace h := Option.bind_eq_some_iff.mp h; obtain ⟨at_, ha, h⟩ := h; obtain ⟨A, c, rfl, hdc, hD⟩ := Kd.R_reads hS.2.2.1; have HA := Aside0.mk ha; have HD := Aside0.mk hD; have HC := Aside0.mk hdc; have HS := Aside0.mk hS; clear ha hD hdc hS; go_enter Tryz.func34, Tryz.ntmps34; go_upto_region 1 with (fail); have hbk : (w.alloc (.cells #[.int .i64 kind, .int .i64 ver, .string line] 48)).heap[w.heap.size]? = some (.cells #[.int .i64 kind, .int .i64 ver, .string line] 48 (0, 0)) := heap_alloc_new w _; have hbw : Below w.heap.size w (w.alloc (.cells #[.int .i64 kind, .int .i64 ver, .string line] 48)) := below_alloc (Below.refl _ _) _; generalize w.alloc (.cells #[.int .i64 kind, .int .i64 ver, .string line] 48) = w5 at hbk hbw ⊢; have HS5 := Aside0.mk (HS.out.below hbw); have HD5 := Aside0.mk (Kd.C_below HD.out hbw); have HK5 := Aside0.mk (KeepBut.of_below hbw g (Value.slice A d.length c).ownBlock); generalize w.heap.size = gb at hbk ⊢; have k0 : w5.cell? ⟨gb, 0, none⟩ = some (.int .i64 kind) := (blk_cell hbk 0).trans rfl; have k1 : w5.cell? ⟨gb, 1, none⟩ = some (.int .i64 ver) := (blk_cell hbk 1).trans rfl; have g0 : w5.cell? ⟨g, 0, none⟩ = some (.bool o) := (blk_cell HS5.out.1 0).trans rfl; have g1 : w5.cell? ⟨g, 1, none⟩ = some (.int .i64 i) := (blk_cell HS5.out.1 1).trans rfl; have g2 : w5.cell? ⟨g, 2, none⟩ = some (.slice A d.length c) := (blk_cell HS5.out.1 2).trans rfl; have f0 : w5.frozen? ⟨g, 0, none⟩ = false := blk_frozen HS5.out.1 0; have f1 : w5.frozen? ⟨g, 1, none⟩ = false := blk_frozen HS5.out.1 1; have f2 : w5.frozen? ⟨g, 2, none⟩ = false := blk_frozen HS5.out.1 2; clear hbw HS HD; go_quiet (first | (go_at_call 60; (try simp only [i64_w]); (with_reducible refine (slices_Index_int_int.calls k _ _ d ver at_ _ ?side1 ?side2 HA.out).mono ?_); (case side1 => exact HD5.out); (case side2 => exact HC.out); rintro e w' ⟨rfl, ⟨nd, rfl⟩⟩; (try first | exact ⟨rfl, _, World.drewN_drewN _ _ _⟩))); have HS6 := Aside0.mk (HS5.out.below (pw_below_drewN (Below.refl _ _) nq)); have HD6 : Aside0 (Kd.C (Kd.int .i64) (w5.drewN nq) A d.length d) := ⟨HD5.out⟩; have HK6 := Aside0.mk (HK5.out.trans (KeepBut.of_below (pw_below_drewN (Below.refl w5.heap.size w5) nq) g (Value.slice A d.length c).ownBlock) (.inl rfl)); replace hbk : (w5.drewN nq).heap[gb]? = some (.cells #[.int .i64 kind, .int .i64 ver, .string line] 48 (0, 0)) := hbk; clear k0 k1 g0 g1 g2 f0 f1 f2 HS5 HD5 HK5; generalize w5.drewN nq = w6 at HS6 HD6 HK6 hbk ⊢; have k0 : w6.cell? ⟨gb, 0, none⟩ = some (.int .i64 kind) := (blk_cell hbk 0).trans rfl; have k1 : w6.cell? ⟨gb, 1, none⟩ = some (.int .i64 ver) := (blk_cell hbk 1).trans rfl; have g0 : w6.cell? ⟨g, 0, none⟩ = some (.bool o) := (blk_cell HS6.out.1 0).trans rfl; have g1 : w6.cell? ⟨g, 1, none⟩ = some (.int .i64 i) := (blk_cell HS6.out.1 1).trans rfl; have g2 : w6.cell? ⟨g, 2, none⟩ = some (.slice A d.length c) := (blk_cell HS6.out.1 2).trans rfl; have f0 : w6.frozen? ⟨g, 0, none⟩ = false := blk_frozen HS6.out.1 0; have f1 : w6.frozen? ⟨g, 1, none⟩ = false := blk_frozen HS6.out.1 1; have f2 : w6.frozen? ⟨g, 2, none⟩ = false := blk_frozen HS6.out.1 2; by_cases h2 : kind = 2
  · subst h2; rw [if_pos rfl] at h
    cases o with
    | true =>
     rw [if_pos rfl] at h; simp only [Option.some.injEq, Prod.mk.injEq] at h; obtain ⟨rfl, rfl, rfl, rfl⟩ := h; go_wp2; go_ret; exact ⟨_, rfl, by (with_reducible repeat (first | exact HS6.out | apply St.drewN | apply St.drew | apply St.set0 | apply St.set1)), by (with_reducible repeat (first | exact HK6.out | apply KeepBut.set_ | apply keep_drewN | apply keep_drew | apply keep_alloc)), .inl rfl⟩
    | false =>
     rw [if_neg (by decide)] at h; simp only [Option.some.injEq, Prod.mk.injEq] at h; obtain ⟨rfl, rfl, rfl, rfl⟩ := h; go_upto_region 7 with (fail); go_region; go_wp2; go_ret; exact ⟨_, rfl, by (with_reducible repeat (first | exact HS6.out | apply St.drewN | apply St.drew | apply St.set0 | apply St.set1)), by (with_reducible repeat (first | exact HK6.out | apply KeepBut.set_ | apply keep_drewN | apply keep_drew | apply keep_alloc)), .inl rfl⟩
  rw [if_neg h2] at h; have e2 : (kind == 2) = false := (by simpa using h2); by_cases h3 : kind = 3
  · subst h3; rw [if_pos rfl] at h
    cases o with
    | true =>
     rw [if_pos rfl] at h; by_cases hi : i = ver
     ·rw [if_pos hi] at h; subst hi; simp only [Option.some.injEq, Prod.mk.injEq] at h; obtain ⟨rfl, rfl, rfl, rfl⟩ := h; go_upto_region 9 with (fail); go_quiet (fail); go_wp2; go_ret; exact ⟨_, rfl, by (with_reducible repeat (first | exact HS6.out | apply St.drewN | apply St.drew | apply St.set0 | apply St.set1)), by (with_reducible repeat (first | exact HK6.out | apply KeepBut.set_ | apply keep_drewN | apply keep_drew | apply keep_alloc)), .inl rfl⟩
     ·rw [if_neg hi] at h; have ei : (i != ver) = true := (by simpa using hi); simp only [Option.some.injEq, Prod.mk.injEq] at h; obtain ⟨rfl, rfl, rfl, rfl⟩ := h; go_upto_region 9 with (fail); go_quiet (fail); go_wp2; go_ret; exact ⟨_, rfl, by (with_reducible repeat (first | exact HS6.out | apply St.drewN | apply St.drew | apply St.set0 | apply St.set1)), by (with_reducible repeat (first | exact HK6.out | apply KeepBut.set_ | apply keep_drewN | apply keep_drew | apply keep_alloc)), .inl rfl⟩
    | false =>
     rw [if_neg (by decide)] at h; simp only [Option.some.injEq, Prod.mk.injEq] at h; obtain ⟨rfl, rfl, rfl, rfl⟩ := h; go_upto_region 9 with (fail); go_quiet (fail); go_wp2; go_ret; exact ⟨_, rfl, by (with_reducible repeat (first | exact HS6.out | apply St.drewN | apply St.drew | apply St.set0 | apply St.set1)), by (with_reducible repeat (first | exact HK6.out | apply KeepBut.set_ | apply keep_drewN | apply keep_drew | apply keep_alloc)), .inl rfl⟩
  rw [if_neg h3] at h; have e3 : (kind == 3) = false := (by simpa using h3); by_cases h4 : kind = 4
  · subst h4; rw [if_pos rfl] at h; by_cases h0 : 0 ≤ at_
    ·rw [if_pos h0] at h; have e0 : decide (at_ ≥ 0) = true := (by simpa using h0); simp only [Option.some.injEq, Prod.mk.injEq] at h; obtain ⟨rfl, rfl, rfl, rfl⟩ := h; go_wp2; go_ret; exact ⟨_, rfl, by (with_reducible repeat (first | exact HS6.out | apply St.drewN | apply St.drew | apply St.set0 | apply St.set1)), by (with_reducible repeat (first | exact HK6.out | apply KeepBut.set_ | apply keep_drewN | apply keep_drew | apply keep_alloc)), .inl rfl⟩
    ·rw [if_neg h0] at h; have e0 : decide (at_ ≥ 0) = false := (by simpa using h0); simp only [Option.some.injEq, Prod.mk.injEq] at h; obtain ⟨rfl, rfl, rfl, rfl⟩ := h; go_upto_region 15 with (fail); have a2 : (w6.alloc (.cells #[.int .i64 ver] 3)).cell? ⟨g, 2, none⟩ = some (.slice A d.length c) := ((below_alloc (Below.refl w6.heap.size w6) _).cell (World.block_lt_of_cell? w6 _ g2)).trans g2; go_region_law (refine Kd.R_append_step (W := w6.drew) (Kd.int .i64) (w0 := w0) w0.heap.size rfl (.tmp 56) (.tmp 59) 50 3 (.int .i64 0) 8 rfl Tryz.underlying50 impl_walker_mark.info rfl (by decide) (by omega) (.slice A d.length c) d ver [.int .i64 ver] (fun _ => True) (fun _ => False) rfl rfl ?aP (fun _ hk => hk.elim) ?aF ?aO ?aB ?aS ?aL ?_; (case aP => exact rfl); (case aB => exact (by repeat (first | (with_reducible first | exact HS6.out.2.2.2 | apply below_alloc | apply pw_below_drewN | apply below_drew1) | exact HS6.out.2.2.2))); (case aF => exact (fun _ _ => trivial)); (case aO => exact (by (with_reducible repeat (first | apply Kd.R_alloc | apply Kd.R_drewN | apply Kd.R_drew)); exact HS6.out.2.2.1)); (case aS => exact (below_size (by repeat (first | (with_reducible first | exact HS6.out.2.2.2 | apply below_alloc | apply pw_below_drewN | apply below_drew1) | exact HS6.out.2.2.2)))); (case aL => omega); intro v7 w7 ho hb hg hat; obtain ⟨A7, cp7, rfl⟩ := Kd.R_slice ho; have b7 := blk_grown (o := .cells #[.bool o, .int .i64 i, .slice A d.length c] 61 (0, 0)) (by exact HS6.out.1) hg (Kd.R_ne HS6.out.2.2.1 HS6.out.1 (by decide)); have hk7 := Aside0.mk (KeepBut.of_grown hg g); have c7 := (blk_cell b7 2); have f7 := blk_frozen b7 2; have B7 := Aside0.mk b7; have O7 := Aside0.mk ho; have HB7 := Aside0.mk hb; have HAT7 := Aside0.mk hat; clear b7 ho hb hg hat)
     all_goals
      go_wp2
      go_ret
      have hs7 := St.set2 B7.out HS6.out.2.1 HB7.out O7.out
      have hk8 := KeepBut.set_ (HK6.out.trans hk7.out (.inl rfl)) 2 (.slice A7 (d ++ [ver]).length cp7)
      have hat8 : (Value.slice A7 (d ++ [ver]).length cp7).ownBlock = (Value.slice A d.length c).ownBlock ∨ ∃ b, (Value.slice A7 (d ++ [ver]).length cp7).ownBlock = some b ∧ w.heap.size ≤ b := HAT7.out.imp id (fun ⟨b, e, hb⟩ => ⟨b, e, Nat.le_trans HK6.out.1 hb⟩)
      simp only [List.length_append, List.length_cons, List.length_nil, Nat.zero_add] at hs7 hk8 hat8
      exact ⟨rfl, _, hs7, hk8, hat8⟩
  rw [if_neg h4] at h; have e4 : (kind == 4) = false := (by simpa using h4); by_cases h5 : kind = 5
  · subst h5; rw [if_pos rfl] at h; by_cases h0 : at_ < 0
    ·rw [if_pos h0] at h; have e0 : decide (at_ < 0) = true := (by simpa using h0); simp only [Option.some.injEq, Prod.mk.injEq] at h; obtain ⟨rfl, rfl, rfl, rfl⟩ := h; go_wp2; go_ret; exact ⟨_, rfl, by (with_reducible repeat (first | exact HS6.out | apply St.drewN | apply St.drew | apply St.set0 | apply St.set1)), by (with_reducible repeat (first | exact HK6.out | apply KeepBut.set_ | apply keep_drewN | apply keep_drew | apply keep_alloc)), .inl rfl⟩
    ·rw [if_neg h0] at h; have e0 : decide (at_ < 0) = false := (by simpa using h0); by_cases h6 : at_.toNat < d.length
     case neg => rw [if_neg h6] at h; exact absurd h (by simp)
     rw [if_pos h6] at h; simp only [Option.some.injEq, Prod.mk.injEq] at h; obtain ⟨rfl, rfl, rfl, rfl⟩ := h; obtain ⟨j, rfl⟩ := Int.eq_ofNat_of_zero_le (show 0 ≤ at_ by omega); rw [Int.toNat_natCast] at h6; obtain ⟨gd, cq, ed, hgd, _, _⟩ := Kd.R_form HS6.out.2.2.1 (by omega); cases ed; have hw0 : wrap64 ((j : Int) + 1) = (j : Int) + 1 := (by unfold wrap64; omega); have HW1 : Aside0 ((j : Int) + 1 = ((j + 1 : Nat) : Int)) := ⟨by omega⟩; have hcc := fun i (hi : i < d.length) => Kd.R_cell (0 : Int) HS6.out.2.2.1 (i : Int) (by omega) (by omega)
     have HCC := Aside0.mk hcc; clear hcc; have hle : d.length - (j + 1 - j) = (d.eraseIdx j).length := (by rw [List.length_eraseIdx_of_lt h6]; omega); go_wp2_with (first | (go_at_call 61; rw [HW1.out]; (with_reducible refine (Tryz.slices_Delete_int_cells gd 0 d.length c j (j + 1) d _ ?side1 ?side2 ?side3 ?side4 ?side5 ?side6 ?side7).mono ?_); (case side1 => exact Nat.le_refl _); (case side2 => exact HC.out); (case side3 => exact row_cap HS6.out.2.2.1); (case side4 => omega); (case side5 => exact h6); (case side6 => intro i hi; have := (HCC.out i hi).1; simpa [rdOf] using this); (case side7 => intro i hi; have := (HCC.out i hi).2; simpa using this); rintro e w7 ⟨rfl, q, rfl⟩; rw [hle]; obtain ⟨ho, hg⟩ := del_row (q := q) HS6.out.2.2.1 h6; have b7 := blk_grown HS6.out.1 hg (Kd.R_ne HS6.out.2.2.1 HS6.out.1 (by decide)); have hk7 := Aside0.mk (KeepBut.of_grown hg g); have hb7 := pw_below_grown HS6.out.2.2.2 (some gd) (below_size HS6.out.2.2.2) hg (by intro k e; cases e; exact hgd); generalize ((w6.drewN q).setCells gd 0 (((d.take d.length).take j ++ (d.take d.length).drop (j + 1) ++ List.replicate (j + 1 - j) 0).map (Value.int .i64))) = w7 at ho hg b7 hk7 hb7 ⊢; have c7 := (blk_cell b7 2); have f7 := blk_frozen b7 2; have B7 := Aside0.mk b7; have O7 := Aside0.mk ho; have HB7 := Aside0.mk hb7; clear b7 ho hb7 hg)); go_ret; exact ⟨_, rfl, St.set2 B7.out HS6.out.2.1 HB7.out O7.out, KeepBut.set_ (HK6.out.trans hk7.out (.inl rfl)) 2 _, .inl rfl⟩
  rw [if_neg h5] at h; have e5 : (kind == 5) = false := (by simpa using h5); by_cases h1 : kind = 1
  · subst h1; rw [if_pos rfl] at h; simp only [Option.some.injEq, Prod.mk.injEq] at h; obtain ⟨rfl, rfl, rfl, rfl⟩ := h; go_wp2; go_ret; exact ⟨_, rfl, by (with_reducible repeat (first | exact HS6.out | apply St.drewN | apply St.drew | apply St.set0 | apply St.set1)), by (with_reducible repeat (first | exact HK6.out | apply KeepBut.set_ | apply keep_drewN | apply keep_drew | apply keep_alloc)), .inl rfl⟩
  · rw [if_neg h1] at h; have e1 : (kind == 1) = false := (by simpa using h1); simp only [Option.some.injEq, Prod.mk.injEq] at h; obtain ⟨rfl, rfl, rfl, rfl⟩ := h; go_wp2; go_ret; exact ⟨_, rfl, by (with_reducible repeat (first | exact HS6.out | apply St.drewN | apply St.drew | apply St.set0 | apply St.set1)), by (with_reducible repeat (first | exact HK6.out | apply KeepBut.set_ | apply keep_drewN | apply keep_drew | apply keep_alloc)), .inl rfl⟩

/-! ### slices_Sorted_int: function 36 -/
section
open Go.Shelf
attribute [local go_sem] Oper.semAt_some
def slices_Sorted_int.upto (f : Nat → Int) (k : Nat) : List Int := (List.range k).map f
theorem slices_Sorted_int.upto_succ (f : Nat → Int) (k : Nat) : slices_Sorted_int.upto f (k + 1) = slices_Sorted_int.upto f k ++ [f k] := by simp [slices_Sorted_int.upto, List.range_succ]
theorem slices_Sorted_int.upto_length (f : Nat → Int) (k : Nat) : (slices_Sorted_int.upto f k).length = k := by simp [slices_Sorted_int.upto]
theorem slices_Sorted_int.upto_all (zs : List Int) : slices_Sorted_int.upto (fun j => zs[j]?.getD 0) zs.length = zs := by
  apply List.ext_getElem
  · simp [slices_Sorted_int.upto]
  · intro i h1 h2; simp [slices_Sorted_int.upto, h2]
set_option maxRecDepth 100000 in
set_option maxHeartbeats 2000000 in
theorem slices_Sorted_int.values1 (n l Bs n₀ b off len cap : Nat) (hn : 1 ≤ n) (zs : List Int) (hreach : len * 8 ≤ 140737488351232) (hb : b < n₀) (J Jx : List Int → World → Prop)
    (hY : ∀ pre x W, J pre W → pre.length < len → YieldAt Fence.wide (n - 1) Tryz.prog l #[.int .i64 x] W fun e W' =>
     (e = .returned (.bool true) ∧ J (pre ++ [x]) W' ∧ Below n₀ W W') ∨ (e = .returned (.bool false) ∧ Jx (pre ++ [x]) W'))
    (W : World) (hBs : W.cell? ⟨Bs, 0, none⟩ = some (.slice (some ⟨b, off, none⟩) len cap)) (hc : ∀ j, j < len → W.cell? ⟨b, off + j, none⟩ = some (.int .i64 (zs[j]?.getD 0))) (h0 : J [] W) :
    CallsIn Fence.wide n Tryz.prog 65 #[.func (.yield l) #[] #[], .pointer (some ⟨Bs, 0, none⟩)] W fun e W' => (∃ v, e = .returned v) ∧
     ((∃ ys, ys = slices_Sorted_int.upto (fun j => zs[j]?.getD 0) len ∧ J ys W') ∨ (∃ pre, True ∧ Jx pre W')) := by
  refine callsIn_of_wp Tryz.func65 rfl trivial ?_ rfl; simp only [Tryz.ntmps65, List.size_toArray, List.length_cons, List.length_nil, Nat.reduceAdd, Nat.reduceSub, Array.replicate_succ, Array.replicate_zero, List.push_toArray, List.append_toArray, List.nil_append, List.cons_append]; gi_wp2
  gi_loopw [7] (fun i wr => ∃ k : Nat, k ≤ len ∧ i = .int .i64 k ∧ J (slices_Sorted_int.upto (fun j => zs[j]?.getD 0) k) wr ∧ Below n₀ W wr)
    (fun i _ => len - (intOf i).toNat)
  case atStart => exact ⟨0, Nat.zero_le _, rfl, h0, Below.refl _ _⟩
  case round =>
    obtain ⟨k, hk, rfl, hJs, hnx⟩ := hrel; have hcx : k < len → wr.cell? ⟨b, off + k, none⟩ = some (.int .i64 (zs[k]?.getD 0)) := fun h => (hnx.cell (p := ⟨b, off + k, none⟩) hb).trans (hc k h)
    by_cases hlt : k < len
    ·obtain ⟨fn, tmps, assign, body, hy, hR⟩ := hY _ (zs[k]?.getD 0) wr hJs (by rw [slices_Sorted_int.upto_length]; exact hlt); have hcx' := hcx hlt; gi_wp2; refine hR.mono ?_; rintro e W3 (⟨rfl, hJ3, hk3⟩ | ⟨rfl, hJx3⟩)
     ·gi_wp2; go_roundw
      case rel => exact ⟨k + 1, by omega, by simp, by rw [slices_Sorted_int.upto_succ]; exact hJ3, hnx.trans hk3⟩
      case measure => simp [intOf]; omega
     ·gi_wp2; refine bodyPost_ret (results_none rfl _ _ _) rfl ?_; exact ⟨⟨_, rfl⟩, .inr ⟨_, trivial, hJx3⟩⟩
    ·obtain rfl : k = len := (by omega); gi_wp2; go_end0; exact ⟨⟨_, rfl⟩, .inl ⟨_, rfl, hJs⟩⟩
set_option maxRecDepth 100000 in
set_option maxHeartbeats 1000000 in
theorem slices_Sorted_int.values1_nil (n l Bs : Nat) (a : Option Addr) (cap : Nat) (J : List Int → World → Prop) (W : World) (hBs : W.cell? ⟨Bs, 0, none⟩ = some (.slice a 0 cap)) (h0 : J [] W) :
    CallsIn Fence.wide n Tryz.prog 65 #[.func (.yield l) #[] #[], .pointer (some ⟨Bs, 0, none⟩)] W fun e W' => (∃ v, e = .returned v) ∧ J [] W' := by
  refine callsIn_of_wp Tryz.func65 rfl trivial ?_ rfl; simp only [Tryz.ntmps65, List.size_toArray, List.length_cons, List.length_nil, Nat.reduceAdd, Nat.reduceSub, Array.replicate_succ, Array.replicate_zero, List.push_toArray, List.append_toArray, List.nil_append, List.cons_append]; gi_wp2; gi_loopw [7] (fun i wr => i = .int .i64 0 ∧ J [] wr) (fun _ _ => 0)
  case atStart => exact ⟨rfl, h0⟩
  case round => obtain ⟨rfl, hJs⟩ := hrel; gi_wp2; go_end0; exact ⟨⟨_, rfl⟩, hJs⟩
/-- A slice value holds numbers, in a block below n₀, or there are none. -/
def slices_Sorted_int.Ints (n₀ : Nat) (W : World) (sv : Value) (zs : List Int) : Prop :=
  (∃ a cap, sv = .slice a 0 cap ∧ zs = []) ∨ ∃ b off cap, sv = .slice (some ⟨b, off, none⟩) zs.length cap ∧ b < n₀ ∧ ∀ j, j < zs.length → W.cell? ⟨b, off + j, none⟩ = some (.int .i64 (zs[j]?.getD 0))
theorem slices_Sorted_int.Ints.below {n₀ : Nat} {A B : World} (h : Below n₀ A B) {sv : Value} {zs : List Int} : slices_Sorted_int.Ints n₀ A sv zs → slices_Sorted_int.Ints n₀ B sv zs
  | .inl e => .inl e
  | .inr ⟨b, off, cap, e, hb, hc⟩ => .inr ⟨b, off, cap, e, hb, fun j hj => (h.cell (p := ⟨b, off + j, none⟩) hb).trans (hc j hj)⟩
theorem slices_Sorted_int.stops (n Bs n₀ : Nat) (hn : 1 ≤ n) (sv : Value) (zs : List Int) (hreach : zs.length * 8 ≤ 140737488351232) (w : World) (hBs : Bs < w.heap.size) (hn₀ : n₀ ≤ w.heap.size)
    (hc : w.cell? ⟨Bs, 0, none⟩ = some sv) (hI : slices_Sorted_int.Ints n₀ w sv zs) :
    SeqStopsK Fence.wide n Tryz.prog 65 #[.pointer (some ⟨Bs, 0, none⟩)] (fun x : Int => #[Value.int .i64 x]) (Below n₀) (fun ys => ys = zs) (fun _ => True) zs.length w := fun l J Jx W hW _ _ hY h0 => by
  have hc' := (hW.cell (p := ⟨Bs, 0, none⟩) hBs).trans hc; rcases hI.below (hW.mono hn₀) with ⟨a, cap, rfl, rfl⟩ | ⟨b, off, cap, rfl, hb, hcs⟩
  · exact (slices_Sorted_int.values1_nil n l Bs a cap J W hc' h0).mono fun e W' ⟨he, hj⟩ => ⟨he, .inl ⟨_, rfl, hj⟩⟩
  · refine (slices_Sorted_int.values1 n l Bs n₀ b off zs.length cap hn zs hreach hb J Jx hY W hc' hcs h0).mono ?_; rintro e W' ⟨he, ⟨ys, rfl, hj⟩ | ⟨pre, _, hj⟩⟩
    ·exact ⟨he, .inl ⟨_, slices_Sorted_int.upto_all zs, hj⟩⟩
    ·exact ⟨he, .inr ⟨_, trivial, hj⟩⟩
theorem slices_Sorted_int.info : (Tryz.prog.info? 3).map (fun i => (i.zero, i.size, i.bytes)) = some (some (.int .i64 0), 1, 8) := by kernel_rfl
set_option maxRecDepth 100000 in
set_option maxHeartbeats 2000000 in
/-- slices.AppendSeq(nil, slices.Values(s)). -/
theorem slices_Sorted_int.append (n Bs : Nat) (hn : 2 ≤ n) (sv : Value) (zs : List Int) (hreach : zs.length * 8 ≤ 140737488351232) (w : World) (hBs : Bs < w.heap.size)
    (hcs : w.cell? ⟨Bs, 0, none⟩ = some sv) (hI : slices_Sorted_int.Ints w.heap.size w sv zs) :
    CallsIn Fence.wide n Tryz.prog 84 #[.slice none 0 0, .func (.func 65) #[] #[.pointer (some ⟨Bs, 0, none⟩)]] w fun e W' => ∃ v, e = .returned v ∧ W'.ownsRow w.heap.size 3 1 v zs.length (zs.map (Value.int .i64)) ∧ Below w.heap.size w W' := by
  have h1 : 1 ≤ n := (by omega); have hmax : zs.length ≤ maxLen := (by have e : maxLen = 9223372036854775807 := rfl; omega); have hby : zs.length * 8 ≤ 140737488355328 := (by omega); obtain ⟨i0, hi, hz0, hz1, hz2⟩ := info_parts slices_Sorted_int.info; refine callsIn_of_wp_marks Tryz.func84 rfl trivial ?_ rfl; simp only [Tryz.ntmps84, List.size_toArray, List.length_cons, List.length_nil, Nat.reduceAdd, Nat.reduceSub, Array.replicate_succ, Array.replicate_zero, List.push_toArray, List.append_toArray, List.nil_append, List.cons_append]; gi_wp2; have bO := Boxed.new w 50 (.slice none 0 0); have hB0 : Below w.heap.size w (w.alloc (.cells #[.slice none 0 0] 50)) := (Below.refl _ w).alloc (Nat.le_refl _) _; have hcs0 := (hB0.cell (p := ⟨Bs, 0, none⟩) hBs).trans hcs
  refine wpIn_rangeFunc_ownG rfl h1 (gf := 65) (lb := #[.pointer (some ⟨Bs, 0, none⟩)]) rfl trivial (enters_of Tryz.func65 (by kernel_rfl) rfl)
    (slices_Sorted_int.stops (n - 1) Bs w.heap.size (by omega) sv zs hreach _ (by simp; omega) (by simp) hcs0 (hI.below hB0)) belowK_t (belowK_b (by simp)) (Below.refl _ _) (fun _ => rfl)
    (fun pre W => (∃ v, Boxed W w.heap.size 50 v ∧ W.ownsRow w.heap.size 3 1 v pre.length (pre.map (Value.int .i64)) ∧ True) ∧ Below w.heap.size w W)
    (fun _ _ _ => False)
    (OwnFrom.and (Own.from (holdsRow_own w.heap.size w.heap.size 50 3 1 (fun pre : List Int => pre.length) (fun pre => pre.map (Value.int .i64)) (fun _ _ => True)) _) (ownFrom_below (Nat.le_refl _) (by simp)))
    (fun _ _ _ _ _ hs _ _ => hs)
    ⟨⟨_, bO, World.ownsRow_nil _ _ _ _, trivial⟩, hB0⟩
    (fun x => { tmps := #[.slice none 0 0, .func (.func 65) #[] #[.pointer (some ⟨Bs, 0, none⟩)], .pointer (some ⟨w.heap.size, 0, none⟩), undef, .slice none 0 0, .int .i64 x, .func (.func 65) #[] #[.pointer (some ⟨Bs, 0, none⟩)], .int .i64 x, undef, undef, undef, undef, undef], defers := [] }) ?assign ?body ?done ?stop
  case assign => intro l x W K hK; gi_wp2; exact hK
  case body => rintro l pre x W ⟨⟨v, hv, hrow, _⟩, hB⟩ hlt; have hc := hv.cell; gi_wp2_with (gi_at_builtin; refine wpListIn_append_own _ rfl _ _ 50 rfl w.heap.size 3 i0 (.int .i64 0) 1 8 Tryz.underlying50 hi hz0 hz1 hz2 rfl (by decide) _ _ _ rfl (hrow.alloc _) ⟨W.heap.size, 0, none⟩ 1 1 [.int .i64 x] rfl rfl (cell_one_new _ _ _) (by simp [Value.oneCell']) (by omega) (by omega) (by have := hB.size; simp; omega) ?_; intro v' w1 hown' hgrow _; obtain ⟨g', cap', rfl⟩ := ownsRow_succ hown'; obtain ⟨hv1, hv2, hr2, hk2, hb2⟩ := hv.appended (by decide) hrow hB.size (Nat.le_refl _) hown' hgrow; have hc1 := hv1.cell; have hf1 := hv1.frozen); exact ⟨hk2.from _, hb2, ⟨_, hv2, by simpa using hr2, trivial⟩, hB.trans hb2⟩
  case done => rintro D ys W hD rfl ⟨⟨v, hv, hrow, _⟩, hB⟩ hK; have hc := hv.cell; gi_wp2; refine ⟨by simp, .inl ⟨_, _, rfl, run_takeDeferred hK, ?_⟩⟩; exact ⟨_, results_tmp rfl _ _ _, v, rfl, ownsRow_putObj hrow _ hK rfl, hB.trans (belowK_b (w := w) (Nat.le_refl _) W D _ _ (by simp at hD; omega) hK rfl rfl)⟩
  case stop => rintro D c pre W _ _ h _; exact h.elim
end
theorem slices_Sorted_int.collect (Bs : Nat) (sv : Value) (zs : List Int) (hreach : zs.length * 8 ≤ 140737488351232) (w : World) (hBs : Bs < w.heap.size)
    (hcs : w.cell? ⟨Bs, 0, none⟩ = some sv) (hI : slices_Sorted_int.Ints w.heap.size w sv zs) :
    Calls Tryz.prog 63 #[.func (.func 65) #[] #[.pointer (some ⟨Bs, 0, none⟩)]] w fun e W' => ∃ v, e = .returned v ∧ W'.ownsRow w.heap.size 3 1 v zs.length (zs.map (Value.int .i64)) ∧ Below w.heap.size w W' := by
  have HA := callsIn_wide.1 (slices_Sorted_int.append 2 Bs (Nat.le_refl _) sv zs hreach w hBs hcs hI); go_enter Tryz.func63, Tryz.ntmps63; go_wp2_with (go_at_call 84; refine HA.mono ?_; rintro e W ⟨v, rfl, hrow, hB⟩); go_ret; exact ⟨v, rfl, hrow, hB⟩
def slices_Sorted_int.f (l0 : List Int) : Option (List Int) := if l0.length * 8 ≤ 140737488351232 then some (l0.mergeSort (fun x y => decide (x ≤ y))) else none
open Go.Sort in
theorem slices_Sorted_int.calls (Bs base : Nat) (ok : Nat → Prop) (v : Value) (l0 r : List Int) (w : World) (hBs : w.cell? ⟨Bs, 0, none⟩ = some v) (hr : Kd.R (Kd.int .i64) 3 w base ok v l0) (h : slices_Sorted_int.f l0 = some r) :
    Calls Tryz.prog 36 #[.func (.func 65) #[] #[.pointer (some ⟨Bs, 0, none⟩)]] w fun e W' => ∃ v0_ : Value, e = .returned v0_ ∧ Kd.R (Kd.int .i64) 3 W' w.heap.size (fun _ => True) v0_ r ∧ Below w.heap.size w W' := by
  unfold slices_Sorted_int.f at h; by_cases hs : l0.length * 8 ≤ 140737488351232
  case neg => rw [if_neg hs] at h; exact absurd h (by simp)
  rw [if_pos hs] at h; obtain rfl := Option.some.inj h; have hrow0 := Kd.own_of_R hr
  have hI : slices_Sorted_int.Ints w.heap.size w v l0 := by
    rcases hrow0.2 with ⟨rfl, hz⟩ | ⟨gb, cap, cur, rfl, _, hgb, r1, r2, r3, r4⟩
    ·exact .inl ⟨_, _, rfl, List.eq_nil_of_length_eq_zero hz⟩
    ·refine .inr ⟨gb, 0, cap, rfl, (Array.getElem?_eq_some_iff.1 hgb).1, fun j hj => ?_⟩; have e := (holds_of_block_i (ss := l0) hgb (by simpa [encs] using r4) j (by simpa using hj)).1; simpa [hj] using e
  have HC := slices_Sorted_int.collect Bs v l0 hs w (World.block_lt_of_cell? w _ hBs) hBs hI; clear hr hrow0 hI; go_enter Tryz.func36, Tryz.ntmps36; go_upto_region 2 with (go_at_call 63; refine HC.mono ?_; rintro e W ⟨v1, rfl, hrow, hB⟩); rcases hrow.2 with ⟨rfl, hz⟩ | ⟨gb, cap, cur, rfl, hbase, hgb, r1, r2, r3, r4⟩
  · have hss : l0 = [] := List.eq_nil_of_length_eq_zero hz; subst hss; go_wp2_with (go_at_call 64; refine (Tryz.slices_Sort_int_none none 0 W).mono ?_; rintro e w' ⟨rfl, rfl⟩); go_ret; exact ⟨_, rfl, (by rw [List.mergeSort_nil]; exact Kd.R_nil _ _ _ _ _), hB⟩
  · have hH : Holds (Value.int .i64) W gb 0 l0.toArray := holds_of_block_i hgb (by simpa using r4); have hgl : gb < W.heap.size := (Array.getElem?_eq_some_iff.1 hgb).1; have hsz : l0.length < 4611686018427387904 := (by omega); have cS := Tryz.slices_Sort_int gb 0 cap l0 W hH hgl hsz; go_wp2_with (go_at_call 64; refine cS.mono ?_; rintro e w' ⟨rfl, nn, os, rfl⟩); go_ret; have e1 := ownsRow_sorted_i (n := nn) (os := os) (ss := l0) (ts := l0.mergeSort fun x y => decide (x ≤ y)) (by simp) hbase hgb r1 r2 r3; refine ⟨_, rfl, Kd.R_of_own (by simpa [encs] using e1) (fun _ _ => trivial), hB.grown (grownBy_sorted_i _) hB.size (fun j hj => by cases hj; exact hbase)⟩

/-! ### slices_Values_int_int: function 37 -/
/-- slices.Values: the slice value is boxed; the function value captures the box. -/
theorem slices_Values_int_int.calls (a : Option Addr) (len cap : Nat) (w : World) :
    Calls Tryz.prog 37 #[.slice a len cap] w fun e w' => e = .returned (.func (.func 65) #[] #[.pointer (some ⟨w.heap.size, 0, none⟩)]) ∧ w' = w.alloc (.cells #[.slice a len cap] 50) := by
  go_enter Tryz.func37, Tryz.ntmps37; go_wp2; go_ret; exact ⟨rfl, rfl⟩

/-! ### impl_Rec: function 38 -/
def impl_Rec.l0 : Nat → List (S48) → List (S48) → Int → Int → Option (Bool)
  | 0, _, _, _, _ => none
  | k + 1, x0, x1, x12, x13 => if x13 < x12 then (if 0 ≤ x13 then (if x13 < (x0.length : Int) then (if x13 < (x1.length : Int) then (if (!(((rd_T48 x0 x13).f0) == ((rd_T48 x1 x13).f0)) || (!(((rd_T48 x0 x13).f1) == ((rd_T48 x1 x13).f1)) || (!((((rd_T48 x0 x13).f2).toList) == (((rd_T48 x1 x13).f2).toList))))) = true then (some false) else (impl_Rec.l0 k x0 x1 x12 (wrap64 (x13 + 1)))) else (none)) else (none)) else (none)) else (some true)
def impl_Rec.f (k : Nat) (l0 : List (S48)) (l1 : List (S48)) : Option (Bool) := if (l0.length : Int) = (l1.length : Int) then (impl_Rec.l0 k l0 l1 (l0.length : Int) 0) else (some false)
theorem impl_Rec.mono_l : ∀ k, (∀ y0 y1 y2 y3, LeO (impl_Rec.l0 k y0 y1 y2 y3) (impl_Rec.l0 (k + 1) y0 y1 y2 y3))
  | 0 => by intros; exact LeO.none _
  | k + 1 => by
    have ih0 := impl_Rec.mono_l k; intros ; unfold impl_Rec.l0 ; repeat' with_reducible first | exact LeO.refl _ | exact LeO.none _ | refine LeO.ite ?_ ?_ | refine LeO.bind ?_ (fun _ => ?_) | exact ih0 _ _ _ _
theorem impl_Rec.mono : ∀ a0 a1 k, LeO (impl_Rec.f k a0 a1) (impl_Rec.f (k + 1) a0 a1) := by
  intro a0 a1 k; have ih0 := impl_Rec.mono_l k; unfold impl_Rec.f
  repeat' with_reducible first | exact LeO.refl _ | exact LeO.none _ | refine LeO.ite ?_ ?_ | refine LeO.bind ?_ (fun _ => ?_) | exact ih0 _ _ _ _
set_option maxHeartbeats 8000000 in
set_option maxRecDepth 100000 in
theorem impl_Rec.calls (k : Nat) (A0 : Option Addr) (c0 : Nat) (l0 : List (S48)) (A1 : Option Addr) (c1 : Nat) (l1 : List (S48)) (r : Bool) (w : World) (hr0 : Kd.C k48 w A0 l0.length l0) (hc0 : l0.length ≤ c0) (hr1 : Kd.C k48 w A1 l1.length l1) (hc1 : l1.length ≤ c1) (h : impl_Rec.f k l0 l1 = some r) :
    Calls Tryz.prog 38 #[.slice A0 l0.length c0, .slice A1 l1.length c1] w fun e w' => e = .returned (.bool r) ∧ Drawn0 w w' := by
  have hu48 := Tryz.underlying48; have HR0 := Aside0.mk hr0; have HC0 := Aside0.mk hc0; clear hr0 hc0; have HR1 := Aside0.mk hr1; have HC1 := Aside0.mk hc1; clear hr1 hc1; have H : (if (l0.length : Int) = (l1.length : Int) then (impl_Rec.l0 k l0 l1 (l0.length : Int) 0) else (some false)) = some r := h; clear h; by_cases c3 : (l0.length : Int) = (l1.length : Int)
  · rw [if_pos c3] at H; have c3b0 : ((l0.length : Int) == (l1.length : Int)) = true := beq_iff_eq.mpr c3; have c3b1 : ((l0.length : Int) != (l1.length : Int)) = false := bne_eq_false_iff_eq.mpr c3; have c3b2 : (l0.length == l1.length) = true := (by first | simpa using c3 | (simp at c3 ⊢; omega)); clear c3; have H' := Aside0.mk H; clear H; go_enter Tryz.func38, Tryz.ntmps38; go_wp2
    repeat (go_quiet (fail); try go_wp2)
    go_loopg [13] k (fun kq v13 w' => ∃ (x13_1 : Int), v13 = .int .i64 x13_1 ∧ Aside0 (impl_Rec.l0 kq l0 l1 (l0.length : Int) x13_1 = some r) ∧ Aside0 (kq ≤ k) ∧ Drawn0 w w')
    case atStart => exact ⟨(0), q4_, H', ⟨Nat.le_refl _⟩, by repeat (first | exact Drawn0.refl _ | apply Drawn0.step)⟩
    case round =>
     clear H'; (try clear c1); (try clear p2); (try clear c3); (try clear c3b0); (try clear c3b1); (try clear c3b2); obtain ⟨x13_1, rfl, HA, HK1, ⟨m1, rfl⟩⟩ := hrel
     cases gk with
     | zero => exact absurd HA.out (by simp [impl_Rec.l0])
     | succ k1 =>
      have H := HA.out; clear HA; simp only [impl_Rec.l0] at H; by_cases c4 : x13_1 < (l0.length : Int)
      ·rw [if_pos c4] at H; have c4b0 : decide (x13_1 < (l0.length : Int)) = true := decide_eq_true c4; clear c4; obtain ⟨c5b0, H⟩ := ifd_ H; obtain ⟨c6b0, H⟩ := ifd_ H; obtain ⟨c7b0, H⟩ := ifd_ H; by_cases c8 : (!(((rd_T48 l0 x13_1).f0) == ((rd_T48 l1 x13_1).f0)) || (!(((rd_T48 l0 x13_1).f1) == ((rd_T48 l1 x13_1).f1)) || (!((((rd_T48 l0 x13_1).f2).toList) == (((rd_T48 l1 x13_1).f2).toList))))) = true
       ·rw [if_pos c8] at H; have c8b0 : (!(((rd_T48 l0 x13_1).f0) == ((rd_T48 l1 x13_1).f0)) || (!(((rd_T48 l0 x13_1).f1) == ((rd_T48 l1 x13_1).f1)) || (!((((rd_T48 l0 x13_1).f2).toList) == (((rd_T48 l1 x13_1).f2).toList))))) = true := c8; clear c8; obtain rfl := Option.some.inj H; have p168 : 0 ≤ (x13_1 : Int) := of_decide_eq_true q1_; have q168 : x13_1 < (l0.length : Int) := of_decide_eq_true q1_; obtain ⟨ad168, e168, hx168_0, hx168_1, hx168_2⟩ := at_T48 HR0.out x13_1 p168 q168; cases e168; replace p168 := eq_true p168; replace q168 := eq_true q168; have p169 : 0 ≤ (x13_1 : Int) := of_decide_eq_true q1_; have q169 : x13_1 < (l1.length : Int) := of_decide_eq_true q1_; obtain ⟨ad169, e169, hx169_0, hx169_1, hx169_2⟩ := at_T48 HR1.out x13_1 p169 q169; cases e169; replace p169 := eq_true p169; replace q169 := eq_true q169; go_wp2
        repeat (go_quiet (fail); try go_wp2)
        go_ret; exact ⟨by first | rfl | (simp; done) | (simp [*]; done), by repeat (first | exact Drawn0.refl _ | apply Drawn0.step)⟩
       ·rw [if_neg c8] at H; have c8b0 : (!(((rd_T48 l0 x13_1).f0) == ((rd_T48 l1 x13_1).f0)) || (!(((rd_T48 l0 x13_1).f1) == ((rd_T48 l1 x13_1).f1)) || (!((((rd_T48 l0 x13_1).f2).toList) == (((rd_T48 l1 x13_1).f2).toList))))) = false := (by simpa using c8); clear c8; have H' := Aside0.mk H; clear H; have p168 : 0 ≤ (x13_1 : Int) := of_decide_eq_true q1_; have q168 : x13_1 < (l0.length : Int) := of_decide_eq_true q1_; obtain ⟨ad168, e168, hx168_0, hx168_1, hx168_2⟩ := at_T48 HR0.out x13_1 p168 q168; cases e168; replace p168 := eq_true p168; replace q168 := eq_true q168; have p169 : 0 ≤ (x13_1 : Int) := of_decide_eq_true q1_; have q169 : x13_1 < (l1.length : Int) := of_decide_eq_true q1_; obtain ⟨ad169, e169, hx169_0, hx169_1, hx169_2⟩ := at_T48 HR1.out x13_1 p169 q169; cases e169; replace p169 := eq_true p169; replace q169 := eq_true q169; go_wp2
        repeat (go_quiet (fail); try go_wp2)
        go_roundg k1
        case measure => have := HK1.out; omega
        case rel => exact ⟨(wrap64 (x13_1 + 1)), q4_, H', ⟨by have := HK1.out; omega⟩, by repeat (first | exact Drawn0.refl _ | apply Drawn0.step)⟩
      ·rw [if_neg c4] at H; have c4b0 : decide (x13_1 < (l0.length : Int)) = false := decide_eq_false c4; clear c4; obtain rfl := Option.some.inj H; go_wp2
       repeat (go_quiet (fail); try go_wp2)
       go_ret; exact ⟨by first | rfl | (simp; done) | (simp [*]; done), by repeat (first | exact Drawn0.refl _ | apply Drawn0.step)⟩
  · rw [if_neg c3] at H; have c3b0 : ((l0.length : Int) == (l1.length : Int)) = false := beq_eq_false_iff_ne.mpr c3; have c3b1 : ((l0.length : Int) != (l1.length : Int)) = true := bne_iff_ne.mpr c3; have c3b2 : (l0.length == l1.length) = false := (by first | simpa using c3 | (simp at c3 ⊢; omega)); obtain rfl := Option.some.inj H; go_enter Tryz.func38, Tryz.ntmps38; go_wp2
    repeat (go_quiet (fail); try go_wp2)
    go_ret; exact ⟨by first | rfl | (simp; done) | (simp [*]; done), by repeat (first | exact Drawn0.refl _ | apply Drawn0.step)⟩

/-! ### slices_Contains_int_int: function 87 -/
def slices_Contains_int_int.f (k : Nat) (l0 : List Int) (a1 : Int) : Option (Bool) := (slices_Index_int_int.f k l0 a1).bind fun t170 => (some (decide (t170 ≥ 0)))
theorem slices_Contains_int_int.mono : ∀ a0 a1 k, LeO (slices_Contains_int_int.f k a0 a1) (slices_Contains_int_int.f (k + 1) a0 a1) := by
  intro a0 a1 k; unfold slices_Contains_int_int.f
  repeat' with_reducible first | exact LeO.refl _ | exact LeO.none _ | refine LeO.ite ?_ ?_ | refine LeO.bind ?_ (fun _ => ?_) | exact slices_Index_int_int.mono _ _ _
set_option maxHeartbeats 8000000 in
set_option maxRecDepth 100000 in
theorem slices_Contains_int_int.calls (k : Nat) (A0 : Option Addr) (c0 : Nat) (l0 : List Int) (a1 : Int) (r : Bool) (w : World) (hr0 : Kd.C (Kd.int .i64) w A0 l0.length l0) (hc0 : l0.length ≤ c0) (h : slices_Contains_int_int.f k l0 a1 = some r) :
    Calls Tryz.prog 87 #[.slice A0 l0.length c0, .int .i64 a1] w fun e w' => e = .returned (.bool r) ∧ Drawn0 w w' := by
  have HR0 := Aside0.mk hr0; have HC0 := Aside0.mk hc0; clear hr0 hc0; have H : ((slices_Index_int_int.f k l0 a1).bind fun t170 => (some (decide (t170 ≥ 0)))) = some r := h; clear h; replace H := Option.bind_eq_some_iff.mp H; obtain ⟨t170, A30, H⟩ := H; (try dsimp only at H); have A3 := Aside0.mk A30; clear A30; obtain rfl := Option.some.inj H; go_enter Tryz.func87, Tryz.ntmps87; go_wp2_with (first | ((with_reducible refine gate_callee (f := 60) rfl ?_); refine goesL_ (some 7) rfl rfl Tryz.func60 (by kernel_rfl) rfl #[.slice A0 l0.length c0, .int .i64 a1] rfl q2_ ?_; (with_reducible refine (slices_Index_int_int.calls k _ _ l0 a1 t170 _ ?side1 ?side2 A3.out).mono ?_); (case side1 => exact (by repeat (first | exact HR0.out | (with_reducible refine Kd.C_alloc ?_ _) | (with_reducible refine Kd.C_drewN ?_ _) | (with_reducible refine Kd.C_drew ?_)))); (case side2 => exact HC0.out); rintro e w' ⟨rfl, ⟨nd, rfl⟩⟩; refine ⟨_, rfl, ?_⟩)); go_ret; exact ⟨by first | rfl | (simp; done) | (simp [*]; done), by repeat (first | exact Drawn0.refl _ | apply Drawn0.step)⟩

end Go.Proofs.YtmodgiingohphaaGreat.PFnExactFromRecords
-- (flat)
-- (thin)
