-- Made by a program (the kit's print with additions of this session: wip/tools/patch_print.py, ext.py).
-- (turned)
import Derived.Test.YtmodgiingohphaaPFnExactAddVersionx15
import Derived.Test.YtmodgiingohphaaPFnExactAddVersionx19
namespace Go.Proofs.Ytmodgiingohphaa.PFnExactAddVersion
open Go.RowKit Go.Proofs.YtmodgiingohphaaW.PrintWords Go.Proofs.YtmodgiingohphaaW.PrintLast Go.Proofs.YtmodgiingohphaaW.PrintMore
attribute [local go_sem] max2_int min2_int max_two min_two max_three min_three max_four min_four   -- for this text's walks alone
set_option linter.unusedVariables false
set_option linter.unusedSimpArgs false

/-! ### impl_copyGraph: function 116 -/
def impl_copyGraph.l0 : Nat → List (List Int) → List (List Int) → Int → Int → Option ((List (List Int)))
  | 0, _, _, _, _ => none
  | k + 1, x3, x6, x7, x8 => if x8 < x7 then (if 0 ≤ x8 then (if x8 < (x6.length : Int) then ((slices_Clone_int_int.f (rd_L1 x6 x8)).bind fun t530 => (if x3.length < 5864062014805 then (impl_copyGraph.l0 k (x3 ++ [t530]) x6 x7 (wrap64 (x8 + 1))) else (none))) else (none)) else (none)) else (some x3)
def impl_copyGraph.f (k : Nat) (l0 : List (List Int)) : Option ((List (List Int))) := impl_copyGraph.l0 k ([] : List (List Int)) l0 (l0.length : Int) 0
theorem impl_copyGraph.mono_l : ∀ k, (∀ y0 y1 y2 y3, LeO (impl_copyGraph.l0 k y0 y1 y2 y3) (impl_copyGraph.l0 (k + 1) y0 y1 y2 y3))
  | 0 => by intros; exact LeO.none _
  | k + 1 => by
    have ih0 := impl_copyGraph.mono_l k; intros ; unfold impl_copyGraph.l0 ; repeat' with_reducible first | exact LeO.refl _ | exact LeO.none _ | refine LeO.ite ?_ ?_ | refine LeO.bind ?_ (fun _ => ?_) | apply ih0
theorem impl_copyGraph.mono : ∀ a0 k, LeO (impl_copyGraph.f k a0) (impl_copyGraph.f (k + 1) a0) := by
  intro a0 k; have ih0 := impl_copyGraph.mono_l k; unfold impl_copyGraph.f
  repeat' with_reducible first | exact LeO.refl _ | exact LeO.none _ | refine LeO.ite ?_ ?_ | refine LeO.bind ?_ (fun _ => ?_) | apply ih0
set_option maxHeartbeats 8000000 in
set_option maxRecDepth 100000 in
theorem impl_copyGraph.calls (k : Nat) (A0 : Option Addr) (c0 : Nat) (l0 : List (List Int)) (r : List (List Int)) (w : World) (hr0 : Kd.C (Kd.slice 3 (Kd.int .i64)) w A0 l0.length l0) (hc0 : l0.length ≤ c0) (h : impl_copyGraph.f k l0 = some r) :
    Calls Try.prog 116 #[.slice A0 l0.length c0] w fun e w' => ∃ v0_ : Value, e = .returned (v0_) ∧ Kd.S (Kd.slice 3 (Kd.int .i64)) 45 w' w.heap.size (fun _ => True) v0_ r ∧ Below w.heap.size w w' := by
  have HR0 := Aside0.mk hr0; have HC0 := Aside0.mk hc0; clear hr0 hc0; have HB := Aside0.mk (Below.refl w.heap.size w); have H := h; unfold impl_copyGraph.f at H; clear h; have H' := Aside0.mk H; clear H; go_enter Try.func116, Try.ntmps116; go_wp2; go_loopg [3, 8] k (fun kq v3 v8 w' => ∃ (x3_1 : List (List Int)) (x8_1 : Int), v8 = .int .i64 x8_1 ∧ Aside0 (impl_copyGraph.l0 kq x3_1 l0 (l0.length : Int) x8_1 = some r) ∧ Aside0 (kq ≤ k) ∧ Aside0 (Kd.S (Kd.slice 3 (Kd.int .i64)) 45 w' w.heap.size (fun _ => True) v3 x3_1) ∧ Aside0 (Below w.heap.size w w'))
  case atStart => exact ⟨(([] : List (List Int))), (0), q3_, H', ⟨Nat.le_refl _⟩, ⟨by first | exact Kd.S_nil _ _ _ _ _ | exact Kd.N_nil _ _ _ _ _ | exact Kd.V_nil _ _ _ _ _ | exact Kd.Q_nil _ _ _ _ _ | exact Kd.R_nil _ _ _ _ _⟩, ⟨zb_⟩⟩
  case round =>
    clear H'; obtain ⟨x3_1, x8_1, rfl, HA, HK1, HO_3, HB⟩ := hrel
    cases gk with
    | zero => exact absurd HA.out (by simp [impl_copyGraph.l0])
    | succ k1 =>
     have H := HA.out; clear HA; simp only [impl_copyGraph.l0] at H; by_cases c2 : x8_1 < (l0.length : Int)
     ·rw [if_pos c2] at H; have c2b0 := decide_eq_true c2; clear c2; obtain ⟨c3b0, H⟩ := ifd_ H; obtain ⟨c4b0, H⟩ := ifd_ H; replace H := Option.bind_eq_some_iff.mp H; obtain ⟨t530, A50, H⟩ := H; (try dsimp only at H); have A5 := Aside0.mk A50; clear A50; obtain ⟨c6, H⟩ := ifs_ H; have LMc6 := Aside0.mk c6; clear c6; obtain ⟨y533, hy_⟩ : ∃ y_ : List (List Int), y_ = (x3_1 ++ [t530]) := ⟨_, rfl⟩; rw [← hy_] at H; have Ny533 := Aside0.mk hy_; clear hy_; have H' := Aside0.mk H; clear H; obtain ⟨p529, q529, ad529, A529_0, c529_0, e529, hx529_0, hl529_0, hi529_0⟩ := pq_ (at_L1 HR0.out x8_1); cases e529; replace hx529_0 := bx_ HB hx529_0; have HR529_0 := Aside0.mk hi529_0; have HC529_0 := Aside0.mk hl529_0; clear hi529_0 hl529_0; go_wp2_with (first | ((with_reducible refine gate_callee (f := 117) rfl ?_); refine gl_ 14 Try.func117 #[.slice A529_0 (rd_L1 l0 x8_1).length c529_0] ?_; (with_reducible refine (slices_Clone_int_int.calls _ _ (rd_L1 l0 x8_1) t530 _ ?side1 ?side2 A5.out).mono ?_); (case side1 => exact cb_ HR529_0); (case side2 => exact HC529_0.out); rintro e w7 ⟨v531, rfl, ho0, hb⟩; refine ⟨_, rfl, ?_⟩; refine ai3_ (Kd.S_elder' (zp_ HO_3) (Kd.R_base ho0) hb) (Kd.R_lower ho0 (below_size q1_)) (below_step q1_ hb) ?_; clear HO_3 HB; intro HO_3 HO532 HB; obtain ⟨Ao9, co9, eo9⟩ := Kd.R_slice HO532.out; subst eo9) | ((with_reducible refine gate_builtin (b := .append) (xs := #[.tmp 12, .tmp 15]) rfl ?_); at_builtin; refine Kd.S_append (Kd.slice 3 (Kd.int .i64)) (w0 := w) w.heap.size rfl (.tmp 12) (.tmp 15) 22 45 (.slice none 0 0) 24 rfl Try.underlying22 info45 rfl (by decide) (by omega) u3 x3_1 t530 [.slice Ao9 t530.length co9] (fun _ => True) (fun k_ => some k_ = (.slice Ao9 t530.length co9 : Value).ownBlock) rfl rfl ?aP (fun k_ hk_ => ((Kd.R_mono (ok' := fun k_ => ((fun _ => True)) k_ ∧ some k_ ≠ (u3 : Value).ownBlock) (Kd.R_apart' (HO532.out) (Kd.S_typed HO_3.out) (by decide)) (fun k_ hk => ⟨trivial, hk.2⟩))).1 k_ hk_.symm) ?aF ?aO ?aB ?aS ?aL ?_; (case aP => exact Kd.M_row (Kd.R_mono (Kd.R_tight rfl (Kd.R_mono (ok' := fun k_ => ((fun _ => True)) k_ ∧ some k_ ≠ (u3 : Value).ownBlock) (Kd.R_apart' (HO532.out) (Kd.S_typed HO_3.out) (by decide)) (fun k_ hk => ⟨trivial, hk.2⟩))) (fun _ h_ => h_))); (case aB => exact q1_); (case aF => exact (fun _ _ => trivial)); (case aO => exact (by (with_reducible repeat (first | apply Kd.S_alloc | apply Kd.S_drewN | apply Kd.S_drew)); exact Kd.S_mono HO_3.out (fun k_ hk => ⟨trivial, fun e_ => hk.2 e_⟩))); (case aS => exact (below_size q1_)); (case aL => have := LMc6.out; omega); intro v534 w8 ho hb hg hat; rw [← Ny533.out] at ho; refine ai2_ (hb) (ho) ?_; clear HB HO_3 HO532; intro HB HO535; clear ho hb hg hat)); go_roundg k1
      case measure => have := HK1.out; omega
      case rel => exact ⟨(y533), (wrap64 (x8_1 + 1)), q3_, H', ⟨by have := HK1.out; omega⟩, z_ HO535, ⟨zb_⟩⟩
     ·rw [if_neg c2] at H; have c2b0 := decide_eq_false c2; clear c2; obtain rfl := Option.some.inj H; go_wp2; go_ret; exact ⟨_, er_, zp_ HO_3, zb_⟩

/-! ### impl_copyWeave: function 71 -/
def impl_copyWeave.l0 : Nat → List (S123) → Int → Int → List (List Int) → List (S123) → Option ((List (List Int)) × (List (S123)))
  | 0, _, _, _, _, _ => none
  | k + 1, x11, x12, x13, x498000, x498001 => if x13 < x12 then (if 0 ≤ x13 then (if x13 < (x11.length : Int) then ((slices_Clone_int_int.f ((rd_T123 x11 x13).f3)).bind fun t500 => (if x498001.length < 2513169434916 then (impl_copyWeave.l0 k x11 x12 (wrap64 (x13 + 1)) x498000 (x498001 ++ [(⟨(rd_T123 x11 x13).f0, (rd_T123 x11 x13).f1, (rd_T123 x11 x13).f2, t500⟩ : S123)])) else (none))) else (none)) else (none)) else (some (x498000, x498001))
def impl_copyWeave.f (k : Nat) (l0_0 : List (List Int)) (l0_1 : List (S123)) : Option ((List (List Int)) × (List (S123))) := (impl_copyGraph.f k l0_0).bind fun t494 => (impl_copyWeave.l0 k l0_1 (l0_1.length : Int) 0 t494 ([] : List (S123)))
theorem impl_copyWeave.mono_l : ∀ k, (∀ y0 y1 y2 y3 y4, LeO (impl_copyWeave.l0 k y0 y1 y2 y3 y4) (impl_copyWeave.l0 (k + 1) y0 y1 y2 y3 y4))
  | 0 => fun _ _ _ _ _ r h => by simp [impl_copyWeave.l0] at h
  | k + 1 => by
    have ih0 := impl_copyWeave.mono_l k
    · intro y0 y1 y2 y3 y4
      unfold impl_copyWeave.l0
      repeat' first
      | (with_reducible exact ih0 _ _ _ _ _)
      | (with_reducible exact impl_copyGraph.mono _ _)
      | (with_reducible exact LeO.refl _)
      | (with_reducible exact LeO.none _)
      | (with_reducible refine LeO.ite ?_ ?_)
      | (with_reducible refine LeO.bind ?_ (fun _ => ?_))
      | apply ih0
      | apply impl_copyGraph.mono
      | exact LeO.none _
      | refine LeO.ite ?_ ?_
      | refine LeO.bind ?_ (fun _ => ?_)
theorem impl_copyWeave.mono : ∀ a0 a1 k, LeO (impl_copyWeave.f k a0 a1) (impl_copyWeave.f (k + 1) a0 a1) := by
  intro a0 a1 k
  have ih0 := impl_copyWeave.mono_l k
  unfold impl_copyWeave.f
  repeat' first
      | (with_reducible exact ih0 _ _ _ _ _)
      | (with_reducible exact impl_copyGraph.mono _ _)
      | (with_reducible exact LeO.refl _)
      | (with_reducible exact LeO.none _)
      | (with_reducible refine LeO.ite ?_ ?_)
      | (with_reducible refine LeO.bind ?_ (fun _ => ?_))
      | apply ih0
      | apply impl_copyGraph.mono
      | exact LeO.none _
      | refine LeO.ite ?_ ?_
      | refine LeO.bind ?_ (fun _ => ?_)
set_option maxHeartbeats 8000000 in
set_option maxRecDepth 100000 in
theorem impl_copyWeave.calls_ap (k : Nat) (A0 : Option Addr) (c0 : Nat) (l0 : List (List Int)) (A1 : Option Addr) (c1 : Nat) (l1 : List S123) (r1 : List (List Int)) (r2 : List S123) (w : World) (hr0 : Kd.C (Kd.slice 3 (Kd.int .i64)) w A0 l0.length l0) (hc0 : l0.length ≤ c0) (hr1 : Kd.C k123 w A1 l1.length l1) (hc1 : l1.length ≤ c1) (h : impl_copyWeave.f k l0 l1 = some (r1, r2)) :
    Calls Try.prog 71 #[.agg #[.slice A0 l0.length c0, .slice A1 l1.length c1]] w fun e w' => ∃ (n_ : Nat) (vp vb : Value), e = .returned (.agg #[vp, vb]) ∧ Kd.S (Kd.slice 3 (Kd.int .i64)) 45 w' w.heap.size (fun k_ => k_ < n_) vp r1 ∧ Kd.S k123 123 w' w.heap.size (fun k_ => n_ < k_) vb r2 ∧ Below w.heap.size w w' := by
  have hu32 := Try.underlying32
  have hu123 := Try.underlying123
  unfold impl_copyWeave.f at h
  replace h := Option.bind_eq_some_iff.mp h
  obtain ⟨ps, hps, h⟩ := h
  have HPS := Aside0.mk hps
  have HH := Aside0.mk h
  have HR0 := Aside0.mk hr0
  have HC0 := Aside0.mk hc0
  have HR1 := Aside0.mk hr1
  have HC1 := Aside0.mk hc1
  clear hr0 hc0 hr1 hc1 hps h
  go_enter Try.func71, Try.ntmps71
  go_upto_region 1 with (fail)
  have ha2 : ((w.alloc (.cells #[.slice A0 l0.length c0, .slice A1 l1.length c1] 32)).alloc (.cells #[.slice none 0 0, .slice none 0 0] 32)).heap[w.heap.size]? = some (.cells #[.slice A0 l0.length c0, .slice A1 l1.length c1] 32 (0, 0)) := blk_alloc (heap_alloc_new w _) _
  have hr2 : ((w.alloc (.cells #[.slice A0 l0.length c0, .slice A1 l1.length c1] 32)).alloc (.cells #[.slice none 0 0, .slice none 0 0] 32)).heap[w.heap.size + 1]? = some (.cells #[.slice none 0 0, .slice none 0 0] 32 (0, 0)) := by
    have e := heap_alloc_new (w.alloc (.cells #[.slice A0 l0.length c0, .slice A1 l1.length c1] 32)) (.cells #[.slice none 0 0, .slice none 0 0] 32)
    rwa [show (w.alloc (.cells #[.slice A0 l0.length c0, .slice A1 l1.length c1] 32)).heap.size = w.heap.size + 1 from by simp only [World.alloc, Array.size_push]] at e
  have hw2 : Below w.heap.size w ((w.alloc (.cells #[.slice A0 l0.length c0, .slice A1 l1.length c1] 32)).alloc (.cells #[.slice none 0 0, .slice none 0 0] 32)) := below_alloc (below_alloc (Below.refl _ _) _) _
  generalize (w.alloc (.cells #[.slice A0 l0.length c0, .slice A1 l1.length c1] 32)).alloc (.cells #[.slice none 0 0, .slice none 0 0] 32) = w2 at ha2 hr2 hw2 ⊢
  generalize hgq : w.heap.size = gA at ha2 hr2 ⊢
  generalize hgr : gA + 1 = gR at hr2 ⊢
  have HG := Aside0.mk (show w.heap.size ≤ gA ∧ w.heap.size ≤ gR ∧ gA < gR from ⟨by omega, by omega, by omega⟩)
  clear hgq hgr
  have HA2 := Aside0.mk ha2
  have HR2 := Aside0.mk hr2
  have HW2 := Aside0.mk hw2
  have q0 : w2.cell? ⟨gA, 0, none⟩ = some (.slice A0 l0.length c0) := (blk_cell ha2 0).trans rfl
  clear ha2 hr2 hw2
  go_upto_region 2 with (first | (go_at_call 116; (try simp only [i64_w]); (with_reducible refine (impl_copyGraph.calls k _ _ l0 ps _ ?side1 ?side2 HPS.out).mono ?_); (case side1 => exact Kd.C_below HR0.out HW2.out); (case side2 => exact HC0.out); rintro e w5 ⟨vp, rfl, hop, hbp⟩; obtain ⟨Ap, cp, rfl⟩ := Kd.S_slice hop; have HOP := Aside0.mk hop; have HBP := Aside0.mk hbp; clear hop hbp))
  have hv : Wv w (w5.alloc (.cells #[.slice Ap ps.length cp, .slice none 0 0] 32)) w5.heap.size (fun k_ => w5.heap.size < k_) (.slice Ap ps.length cp) (.slice none 0 0) ps [] := by
    have hb := below_alloc (Below.refl w5.heap.size w5) (.cells #[.slice Ap ps.length cp, .slice none 0 0] 32)
    refine ⟨below_step (below_step HW2.out HBP.out) hb, Nat.le_trans (below_size HW2.out) (Below.size HBP.out), heap_alloc_new w5 _, ?_, Kd.S_nil _ _ _ _ _, fun k_ hk => ?_⟩
    · exact Kd.S_mono (Kd.S_below (Kd.S_lower (Kd.S_bound HOP.out) (below_size HW2.out)) hb) (fun k_ hk => ⟨by have := hk.2.2.1; omega, by have := hk.2.2.1; omega⟩)
    · have : (w5.alloc (.cells #[.slice Ap ps.length cp, .slice none 0 0] 32)).heap.size = w5.heap.size + 1 := by simp only [World.alloc, Array.size_push]
      omega
  have HV := Aside0.mk hv
  have HB6 := Aside0.mk (below_step HBP.out (below_alloc (Below.refl w5.heap.size w5) (.cells #[.slice Ap ps.length cp, .slice none 0 0] 32)))
  have HRR := Aside0.mk (blk_below HR2.out HB6.out)
  have q6 : (w5.alloc (.cells #[.slice Ap ps.length cp, .slice none 0 0] 32)).cell? ⟨gA, 1, none⟩ = some (.slice A1 l1.length c1) := (blk_cell (blk_below HA2.out HB6.out) 1).trans rfl
  have HG3 := Aside0.mk (show gR < w5.heap.size from Nat.lt_of_lt_of_le (blk_lt HR2.out) (Below.size HBP.out))
  clear hv q0
  generalize w5.alloc (.cells #[.slice Ap ps.length cp, .slice none 0 0] 32) = w6 at HV HRR q6 HB6 ⊢
  generalize w5.heap.size = g3 at HV HG3 ⊢
  clear HB6 HOP HBP HA2 HR2 HR0 HC0 HPS
  go_wp2
  go_loopg [13] k (fun kq v13 w' => ∃ (bs : List S123) (vb : Value) (x : Int), v13 = .int .i64 x ∧ Aside0 (impl_copyWeave.l0 kq l1 (l1.length : Int) x ps bs = some (r1, r2)) ∧ Aside0 (kq ≤ k) ∧ Aside0 (Wv w w' g3 (fun k_ => g3 < k_) (.slice Ap ps.length cp) vb ps bs) ∧ Aside0 (w'.heap[gR]? = some (.cells #[.slice none 0 0, .slice none 0 0] 32 (0, 0))))
  case atStart => exact ⟨_, _, 0, rfl, HH, ⟨Nat.le_refl _⟩, HV, HRR⟩
  case round =>
    clear HH HV HRR q6
    obtain ⟨bs, vb, x, rfl, HA, HK1, HV, HRR⟩ := hrel
    cases gk with
    | zero => exact absurd HA.out (by simp [impl_copyWeave.l0])
    | succ k1 =>
      have H := HA.out
      clear HA
      simp only [impl_copyWeave.l0] at H
      by_cases c6 : x < (l1.length : Int)
      · rw [if_pos c6] at H
        have c6b : decide (x < (l1.length : Int)) = true := decide_eq_true c6
        by_cases c7 : 0 ≤ x
        case neg => rw [if_neg c7] at H; exact absurd H (by simp)
        rw [if_pos c7, if_pos c6] at H
        replace H := Option.bind_eq_some_iff.mp H
        obtain ⟨t, ht, H⟩ := H
        by_cases c8 : bs.length < 2513169434916
        case neg => rw [if_neg c8] at H; exact absurd H (by simp)
        rw [if_pos c8] at H
        have HH := Aside0.mk H
        have HT := Aside0.mk ht
        have HL8 := Aside0.mk c8
        obtain ⟨ad, A3, c3, ea, hx0, hx1, hx2, hx3, hl3, hi3⟩ := at_T123 (Kd.C_below HR1.out HV.out.b) x c7 c6
        cases ea
        replace c7 := eq_true c7
        replace c6 := eq_true c6
        have HL3 := Aside0.mk hl3
        have HI3 := Aside0.mk hi3
        clear ht H c8 hl3 hi3
        go_upto_region 5 with (fail)
        clear hx0 hx1 hx2 hx3
        have hb6 := heap_alloc_new wr (.cells #[.string (rd_T123 l1 x).f0, .int .i64 (rd_T123 l1 x).f1, .int .i64 (rd_T123 l1 x).f2, .slice A3 (rd_T123 l1 x).f3.length c3] 123)
        have be6 := below_alloc (Below.refl wr.heap.size wr) (.cells #[.string (rd_T123 l1 x).f0, .int .i64 (rd_T123 l1 x).f1, .int .i64 (rd_T123 l1 x).f2, .slice A3 (rd_T123 l1 x).f3.length c3] 123)
        generalize wr.alloc (.cells #[.string (rd_T123 l1 x).f0, .int .i64 (rd_T123 l1 x).f1, .int .i64 (rd_T123 l1 x).f2, .slice A3 (rd_T123 l1 x).f3.length c3] 123) = w6 at hb6 be6 ⊢
        generalize hgrq : wr.heap.size = gr at hb6 ⊢
        have hgr : wr.heap.size ≤ gr := Nat.le_of_eq hgrq
        have k3 : w6.cell? ⟨gr, 3, none⟩ = some (.slice A3 (rd_T123 l1 x).f3.length c3) := (blk_cell hb6 3).trans rfl
        have HBE6 := Aside0.mk be6
        have HBK6 := Aside0.mk hb6
        have HGR := Aside0.mk hgr
        have HV6 := Aside0.mk (HV.out.below be6)
        clear hb6 be6 hgrq hgr
        have HCX := Aside0.mk (slices_Clone_int_int.calls A3 c3 (rd_T123 l1 x).f3 t w6 (Kd.C_below HI3.out HBE6.out) HL3.out HT.out)
        go_upto_region 6 with (first | (go_at_call 117; refine HCX.out.mono ?_; clear HCX; rintro e w7 ⟨vc, rfl, hoc, hbc⟩; obtain ⟨Ac, cc, rfl⟩ := Kd.R_slice hoc; have HOC := Aside0.mk hoc; have HBC := Aside0.mk hbc; have HBK7 := Aside0.mk (blk_below HBK6.out hbc); have k37 : w7.cell? ⟨gr, 3, none⟩ = some (.slice A3 (rd_T123 l1 x).f3.length c3) := (blk_cell HBK7.out 3).trans rfl; have f37 := blk_frozen HBK7.out 3; clear hoc hbc))
        have HGB := Aside0.mk (Kd.R_base HOC.out)
        have be8 : Below wr.heap.size wr (w7.setCell ⟨gr, 3, none⟩ (.slice Ac t.length cc)) := below_set (below_step HBE6.out HBC.out) HGR.out
        have hb8 : (w7.setCell ⟨gr, 3, none⟩ (.slice Ac t.length cc)).heap[gr]? = some (.cells #[.string (rd_T123 l1 x).f0, .int .i64 (rd_T123 l1 x).f1, .int .i64 (rd_T123 l1 x).f2, .slice Ac t.length cc] 123 (0, 0)) := by simpa using blk_set HBK7.out 3 (.slice Ac t.length cc)
        have ho8 : Kd.R (Kd.int .i64) 3 (w7.setCell ⟨gr, 3, none⟩ (.slice Ac t.length cc)) w6.heap.size (fun _ => True) (.slice Ac t.length cc) t := f1R_ HOC HBK7
        generalize w7.setCell ⟨gr, 3, none⟩ (.slice Ac t.length cc) = w8 at be8 hb8 ho8 ⊢
        have HV8 := Aside0.mk (HV.out.below be8)
        have HRR8 := Aside0.mk (blk_below HRR.out be8)
        have k80 : w8.cell? ⟨gr, 0, none⟩ = some (.string (rd_T123 l1 x).f0) := (blk_cell hb8 0).trans rfl
        have k81 : w8.cell? ⟨gr, 1, none⟩ = some (.int .i64 (rd_T123 l1 x).f1) := (blk_cell hb8 1).trans rfl
        have k82 : w8.cell? ⟨gr, 2, none⟩ = some (.int .i64 (rd_T123 l1 x).f2) := (blk_cell hb8 2).trans rfl
        have k83 : w8.cell? ⟨gr, 3, none⟩ = some (.slice Ac t.length cc) := (blk_cell hb8 3).trans rfl
        have q8 : w8.cell? ⟨g3, 1, none⟩ = some vb := HV8.out.cells.2
        have HB8 := Aside0.mk be8
        have HO8 := Aside0.mk ho8
        have HBK8 := Aside0.mk hb8
        have HS6 := Aside0.mk (Below.size HBE6.out)
        clear be8 hb8 ho8 HOC HBC HBK7 k3 k37 f37 HBK6 HV6 HBE6
        obtain ⟨Ab, cb, eb⟩ := Kd.S_slice HV.out.sb
        subst eb
        go_wp2_with (first | ((with_reducible refine gate_builtin (b := .append) (xs := #[.tmp 22, .tmp 24]) rfl ?_); at_builtin; refine Kd.S_append (W := w8) k123 (w0 := w) w.heap.size rfl (.tmp 22) (.tmp 24) 30 123 (.agg #[(.string ⟨#[]⟩), (.int .i64 0), (.int .i64 0), (.slice none 0 0)]) 56 rfl Try.underlying30 info123 rfl (by decide) (by omega) (.slice Ab bs.length cb) bs (⟨(rd_T123 l1 x).f0, (rd_T123 l1 x).f1, (rd_T123 l1 x).f2, t⟩ : S123) [.string (rd_T123 l1 x).f0, .int .i64 (rd_T123 l1 x).f1, .int .i64 (rd_T123 l1 x).f2, .slice Ac t.length cc] (fun k_ => k_ ≠ g3 ∧ g3 < k_) (fun k_ => some k_ = (Value.slice Ac t.length cc).ownBlock) rfl rfl ?aP ?aK ?aF ?aO ?aB ?aS ?aL ?_; (case aP => exact k123_mkM _ _ _ (⟨(rd_T123 l1 x).f0, (rd_T123 l1 x).f1, (rd_T123 l1 x).f2, t⟩ : S123) (Kd.R_of_own (Kd.own_of_R (Kd.R_lower HO8.out (Nat.le_trans (below_size HV.out.b) HS6.out))) (fun _ hk => hk.symm))); (case aK => exact fun k_ hk => ⟨HV.out.newer' (Nat.le_trans HS6.out (HGB.out k_ hk.symm)), fun e => by have := Kd.S_lt HV.out.sb k_ e.symm; have := HS6.out; have := HGB.out k_ hk.symm; omega⟩); (case aF => exact fun k_ hk => HV8.out.newer' hk); (case aO => exact Kd.S_mono (Kd.S_below (Kd.S_bound HV.out.sb) HB8.out) (fun k_ hk => ⟨hk.1, fun e => by have := hk.2.2.1; have := HS6.out; have := HGB.out k_ e.symm; omega⟩)); (case aB => exact HV8.out.b); (case aS => exact below_size HV8.out.b); (case aL => have := HL8.out; omega); intro vb1 wC ho hB hg hat; obtain ⟨Ab1, cb1, e1⟩ := Kd.S_slice ho; rw [List.length_append, List.length_cons, List.length_nil, Nat.zero_add] at e1; subst e1; have HV9 := Aside0.mk (HV8.out.bodies hg ho); have hg3 := blk_grown HV8.out.h hg HV8.out.off; have qC : wC.cell? ⟨g3, 1, none⟩ = some (.slice Ab bs.length cb) := (blk_cell hg3 1).trans rfl; have fC := blk_frozen hg3 1; have HRC := Aside0.mk (blk_grown HRR8.out hg (fun e => by have := ((Kd.S_R HV8.out.sb).1 gR e.symm).2; have := HG3.out; omega)); clear ho hB hg hat hg3))
        go_roundg k1
        case measure => have := HK1.out; omega
        case rel => exact ⟨_, _, wrap64 (x + 1), (by first | rfl | (simp; done) | (simp [*]; done)), HH, ⟨by have := HK1.out; omega⟩, HV9, ⟨blk_far (p := ⟨g3, 1, none⟩) HRC.out (by have := HG3.out; show gR ≠ g3; omega) _⟩⟩
      · rw [if_neg c6] at H
        have c6b : decide (x < (l1.length : Int)) = false := decide_eq_false c6
        simp only [Option.some.injEq, Prod.mk.injEq] at H
        obtain ⟨rfl, rfl⟩ := H
        obtain ⟨Ab, cb, eb⟩ := Kd.S_slice HV.out.sb
        subst eb
        have z0 : wr.cell? ⟨gR, 0, none⟩ = some (.slice none 0 0) := (blk_cell HRR.out 0).trans rfl
        have z1 : wr.cell? ⟨gR, 1, none⟩ = some (.slice none 0 0) := (blk_cell HRR.out 1).trans rfl
        have f0 := blk_frozen HRR.out 0
        have f1 := blk_frozen HRR.out 1
        obtain ⟨q0, q1⟩ := HV.out.cells
        have hne : g3 ≠ gR := by have := HG3.out; omega
        have hne' := hne.symm
        go_wp2
        refine bodyPost_ret (results_cell_row rfl _ _ gR 32 #[.slice Ap ps.length cp, .slice Ab bs.length cb] (0, 0) _ rfl (blk_put (cs := #[.slice Ap ps.length cp, .slice none 0 0]) (blk_put (cs := #[.slice none 0 0, .slice none 0 0]) HRR.out 0 _ rfl) 1 _ rfl) Try.underlying32 rfl (by kernel_rfl)) rfl ?_
        refine ⟨g3, _, _, rfl, ?_, ?_, below_set (below_set HV.out.b HG.out.2.1) HG.out.2.1⟩
        · exact Kd.S_mono (Kd.S_far (p := ⟨gR, 1, none⟩) (Kd.S_far (p := ⟨gR, 0, none⟩) (Kd.S_types HV.out.sp HRR.out (by decide)) (fun _ hk => hk.2) _) (fun _ hk => hk.2) _) (fun k_ hk => by have := hk.1; omega)
        · exact Kd.S_mono (Kd.S_far (p := ⟨gR, 1, none⟩) (Kd.S_far (p := ⟨gR, 0, none⟩) (Kd.S_types HV.out.sb HRR.out (by decide)) (fun _ hk => hk.2) _) (fun _ hk => hk.2) _) (fun k_ hk => hk.1.2)

/-! ### impl_AddVersion: function 25 -/
theorem nil_put {W : World} {g : Nat} (h : W.heap[g]? = some (.cells #[.slice none 0 0, .slice none 0 0] 32 (0, 0))) : ((W.setCell ⟨g, 0, none⟩ (.slice none 0 0)).setCell ⟨g, 1, none⟩ (.slice none 0 0)).heap[g]? = some (.cells #[.slice none 0 0, .slice none 0 0] 32 (0, 0)) :=
  blk_put (cs := #[.slice none 0 0, .slice none 0 0]) (blk_put (cs := #[.slice none 0 0, .slice none 0 0]) h 0 _ rfl) 1 _ rfl
def impl_AddVersion.f (k : Nat) (ps : List (List Int)) (bs : List S123) (parents : List Int) (lines : List ByteArray) : Option (List (List Int) × List S123 × Int × Int) :=
  (impl_WeaveOk.f k ps bs).bind fun o => if o = true then (impl_addCode.f k ps bs parents lines).bind fun c => if c = 0 then (impl_copyWeave.f k ps bs).bind fun p => (impl_Weave_add.f k p.1 p.2 parents lines).bind fun q => if q.2.2 = true then some (q.1, q.2.1, (ps.length : Int), 0) else some ([], [], 0, 4) else some ([], [], 0, c) else some ([], [], 0, 1)
theorem impl_AddVersion.mono : ∀ ps bs parents lines k, LeO (impl_AddVersion.f k ps bs parents lines) (impl_AddVersion.f (k + 1) ps bs parents lines) := by
  intro ps bs parents lines k
  unfold impl_AddVersion.f
  repeat' first
    | (with_reducible exact impl_WeaveOk.mono _ _ _)
    | (with_reducible exact impl_addCode.mono _ _ _ _ _)
    | (with_reducible exact impl_copyWeave.mono _ _ _)
    | (with_reducible exact impl_Weave_add.mono _ _ _ _ _)
    | (with_reducible exact LeO.refl _)
    | (with_reducible refine LeO.ite ?_ ?_)
    | (with_reducible refine LeO.bind ?_ (fun _ => ?_))
set_option maxHeartbeats 8000000 in
set_option maxRecDepth 100000 in
theorem impl_AddVersion.calls_ap (k : Nat) (A0 : Option Addr) (c0 : Nat) (ps : List (List Int)) (A1 : Option Addr) (c1 : Nat) (bs : List S123) (A2 : Option Addr) (c2 : Nat) (parents : List Int) (A3 : Option Addr) (c3 : Nat) (lines : List ByteArray) (r1 : List (List Int)) (r2 : List S123) (r3 r4 : Int) (w : World) (hr0 : Kd.C (Kd.slice 3 (Kd.int .i64)) w A0 ps.length ps) (hc0 : ps.length ≤ c0) (hr1 : Kd.C k123 w A1 bs.length bs) (hc1 : bs.length ≤ c1) (hr2 : Kd.C (Kd.int .i64) w A2 parents.length parents) (hc2 : parents.length ≤ c2) (hr3 : Kd.C Kd.string w A3 lines.length lines) (hc3 : lines.length ≤ c3) (h : impl_AddVersion.f k ps bs parents lines = some (r1, r2, r3, r4)) :
    Calls Try.prog 25 #[.agg #[.slice A0 ps.length c0, .slice A1 bs.length c1], .slice A2 parents.length c2, .slice A3 lines.length c3] w fun e w' => ∃ (P_ : Nat → Prop) (vp vb : Value), e = .returned (.tuple #[.agg #[vp, vb], .int .i64 r3, .int .i64 r4]) ∧ Kd.S (Kd.slice 3 (Kd.int .i64)) 45 w' w.heap.size (fun k_ => ¬ P_ k_) vp r1 ∧ Kd.S k123 123 w' w.heap.size P_ vb r2 ∧ Below w.heap.size w w' := by
  have hu32 := Try.underlying32
  have hu123 := Try.underlying123
  unfold impl_AddVersion.f at h
  replace h := Option.bind_eq_some_iff.mp h
  obtain ⟨o, ho, h⟩ := h
  have HO := Aside0.mk ho
  have HH := Aside0.mk h
  have HR0 := Aside0.mk hr0
  have HC0 := Aside0.mk hc0
  have HR1 := Aside0.mk hr1
  have HC1 := Aside0.mk hc1
  have HR2 := Aside0.mk hr2
  have HC2 := Aside0.mk hc2
  have HR3 := Aside0.mk hr3
  have HC3 := Aside0.mk hc3
  clear hr0 hc0 hr1 hc1 hr2 hc2 hr3 hc3 ho h
  go_enter Try.func25, Try.ntmps25
  go_upto_region 1 with (fail)
  have ha2 : ((w.alloc (.cells #[.slice A0 ps.length c0, .slice A1 bs.length c1] 32)).alloc (.cells #[.slice none 0 0, .slice none 0 0] 32)).heap[w.heap.size]? = some (.cells #[.slice A0 ps.length c0, .slice A1 bs.length c1] 32 (0, 0)) := blk_alloc (heap_alloc_new w _) _
  have hr2 : ((w.alloc (.cells #[.slice A0 ps.length c0, .slice A1 bs.length c1] 32)).alloc (.cells #[.slice none 0 0, .slice none 0 0] 32)).heap[w.heap.size + 1]? = some (.cells #[.slice none 0 0, .slice none 0 0] 32 (0, 0)) := by
    have e := heap_alloc_new (w.alloc (.cells #[.slice A0 ps.length c0, .slice A1 bs.length c1] 32)) (.cells #[.slice none 0 0, .slice none 0 0] 32)
    rwa [show (w.alloc (.cells #[.slice A0 ps.length c0, .slice A1 bs.length c1] 32)).heap.size = w.heap.size + 1 from by simp only [World.alloc, Array.size_push]] at e
  have hw2 : Below w.heap.size w ((w.alloc (.cells #[.slice A0 ps.length c0, .slice A1 bs.length c1] 32)).alloc (.cells #[.slice none 0 0, .slice none 0 0] 32)) := below_alloc (below_alloc (Below.refl _ _) _) _
  generalize (w.alloc (.cells #[.slice A0 ps.length c0, .slice A1 bs.length c1] 32)).alloc (.cells #[.slice none 0 0, .slice none 0 0] 32) = w2 at ha2 hr2 hw2 ⊢
  generalize hgq : w.heap.size = gA at ha2 hr2 ⊢
  generalize hgr : gA + 1 = gR at hr2 ⊢
  have HG := Aside0.mk (show w.heap.size ≤ gA ∧ w.heap.size ≤ gR ∧ gA < gR from ⟨by omega, by omega, by omega⟩)
  have HA2 := Aside0.mk ha2
  have HRR := Aside0.mk hr2
  have HW2 := Aside0.mk hw2
  have q0 : w2.cell? ⟨gA, 0, none⟩ = some (.slice A0 ps.length c0) := (blk_cell ha2 0).trans rfl
  have q1 : w2.cell? ⟨gA, 1, none⟩ = some (.slice A1 bs.length c1) := (blk_cell ha2 1).trans rfl
  have z0 : w2.cell? ⟨gR, 0, none⟩ = some (.slice none 0 0) := (blk_cell hr2 0).trans rfl
  have z1 : w2.cell? ⟨gR, 1, none⟩ = some (.slice none 0 0) := (blk_cell hr2 1).trans rfl
  have f0 := blk_frozen hr2 0
  have f1 := blk_frozen hr2 1
  have HCX := Aside0.mk (impl_WeaveOk.calls k A0 c0 ps A1 c1 bs o w2 (Kd.C_below HR0.out hw2) HC0.out (Kd.C_below HR1.out hw2) HC1.out HO.out)
  clear hgq hgr ha2 hr2 hw2
  cases o with
  | false =>
    have H := HH.out
    rw [if_neg (by decide)] at H
    simp only [Option.some.injEq, Prod.mk.injEq] at H
    obtain ⟨rfl, rfl, rfl, rfl⟩ := H
    go_wp2_with (first | (go_at_call 37; refine HCX.out.mono ?_; clear HCX; rintro e w3 ⟨rfl, hb⟩; have HBX := Aside0.mk hb; have HA_w3 := Aside0.mk (blk_below HA2.out HBX.out); have HR_w3 := Aside0.mk (blk_below HRR.out HBX.out); have q0_w3 : w3.cell? ⟨gA, 0, none⟩ = some (.slice A0 ps.length c0) := (blk_cell HA_w3.out 0).trans rfl; have q1_w3 : w3.cell? ⟨gA, 1, none⟩ = some (.slice A1 bs.length c1) := (blk_cell HA_w3.out 1).trans rfl; have z0_w3 : w3.cell? ⟨gR, 0, none⟩ = some (.slice none 0 0) := (blk_cell HR_w3.out 0).trans rfl; have z1_w3 : w3.cell? ⟨gR, 1, none⟩ = some (.slice none 0 0) := (blk_cell HR_w3.out 1).trans rfl; have f0_w3 := blk_frozen HR_w3.out 0; have f1_w3 := blk_frozen HR_w3.out 1; clear hb))
    refine bodyPost_ret (results_ctt rfl _ _ gR 32 #[.slice none 0 0, .slice none 0 0] (0, 0) _ rfl (nil_put HR_w3.out) hu32 rfl (by kernel_rfl)) rfl ?_
    exact ⟨fun _ => True, _, _, rfl, Kd.S_nil _ _ _ _ _, Kd.S_nil _ _ _ _ _, below_set (below_set (below_step HW2.out HBX.out) HG.out.2.1) HG.out.2.1⟩
  | true =>
    have H := HH.out
    clear HH
    rw [if_pos rfl] at H
    replace H := Option.bind_eq_some_iff.mp H
    obtain ⟨c, hc, H⟩ := H
    have HC := Aside0.mk hc
    have HH := Aside0.mk H
    clear hc H
    go_upto_region 3 with (first | (go_at_call 37; refine HCX.out.mono ?_; clear HCX; rintro e w3 ⟨rfl, hb⟩; have HBX := Aside0.mk hb; have HA_w3 := Aside0.mk (blk_below HA2.out HBX.out); have HR_w3 := Aside0.mk (blk_below HRR.out HBX.out); have q0_w3 : w3.cell? ⟨gA, 0, none⟩ = some (.slice A0 ps.length c0) := (blk_cell HA_w3.out 0).trans rfl; have q1_w3 : w3.cell? ⟨gA, 1, none⟩ = some (.slice A1 bs.length c1) := (blk_cell HA_w3.out 1).trans rfl; have z0_w3 : w3.cell? ⟨gR, 0, none⟩ = some (.slice none 0 0) := (blk_cell HR_w3.out 0).trans rfl; have z1_w3 : w3.cell? ⟨gR, 1, none⟩ = some (.slice none 0 0) := (blk_cell HR_w3.out 1).trans rfl; have f0_w3 := blk_frozen HR_w3.out 0; have f1_w3 := blk_frozen HR_w3.out 1; clear hb))
    have HB3 := HBX
    clear HBX q0 q1 z0 z1 f0 f1
    have HCX := Aside0.mk (impl_addCode.calls k A0 c0 ps A1 c1 bs A2 c2 parents A3 c3 lines c w3 (Kd.C_below HR0.out (below_step HW2.out HB3.out)) HC0.out (Kd.C_below HR1.out (below_step HW2.out HB3.out)) HC1.out (Kd.C_below HR2.out (below_step HW2.out HB3.out)) HC2.out (Kd.C_below HR3.out (below_step HW2.out HB3.out)) HC3.out HC.out)
    by_cases cc : c = 0
    case neg =>
      have H := HH.out
      rw [if_neg cc] at H
      simp only [Option.some.injEq, Prod.mk.injEq] at H
      obtain ⟨rfl, rfl, rfl, rfl⟩ := H
      have ccb : (c != 0) = true := by simpa using cc
      go_wp2_with (first | (go_at_call 70; refine HCX.out.mono ?_; clear HCX; rintro e w4 ⟨rfl, hb⟩; have HBX := Aside0.mk (below_step HB3.out hb); have HA_w4 := Aside0.mk (blk_below HA2.out HBX.out); have HR_w4 := Aside0.mk (blk_below HRR.out HBX.out); have q0_w4 : w4.cell? ⟨gA, 0, none⟩ = some (.slice A0 ps.length c0) := (blk_cell HA_w4.out 0).trans rfl; have q1_w4 : w4.cell? ⟨gA, 1, none⟩ = some (.slice A1 bs.length c1) := (blk_cell HA_w4.out 1).trans rfl; have z0_w4 : w4.cell? ⟨gR, 0, none⟩ = some (.slice none 0 0) := (blk_cell HR_w4.out 0).trans rfl; have z1_w4 : w4.cell? ⟨gR, 1, none⟩ = some (.slice none 0 0) := (blk_cell HR_w4.out 1).trans rfl; have f0_w4 := blk_frozen HR_w4.out 0; have f1_w4 := blk_frozen HR_w4.out 1; clear hb q0_w3 q1_w3 z0_w3 z1_w3 f0_w3 f1_w3))
      refine bodyPost_ret (results_ctt rfl _ _ gR 32 #[.slice none 0 0, .slice none 0 0] (0, 0) _ rfl (nil_put HR_w4.out) hu32 rfl (by kernel_rfl)) rfl ?_
      exact ⟨fun _ => True, _, _, rfl, Kd.S_nil _ _ _ _ _, Kd.S_nil _ _ _ _ _, below_set (below_set (below_step HW2.out HBX.out) HG.out.2.1) HG.out.2.1⟩
    subst cc
    have H := HH.out
    clear HH
    rw [if_pos rfl] at H
    replace H := Option.bind_eq_some_iff.mp H
    obtain ⟨⟨p1, p2⟩, hp, H⟩ := H
    replace H := Option.bind_eq_some_iff.mp H
    obtain ⟨⟨a1, a2, a3⟩, ha, H⟩ := H
    have HP := Aside0.mk hp
    have HADD := Aside0.mk ha
    have HH := Aside0.mk H
    clear hp ha H
    go_upto_region 6 with (first | (go_at_call 70; refine HCX.out.mono ?_; clear HCX; rintro e w4 ⟨rfl, hb⟩; have HBX := Aside0.mk (below_step HB3.out hb); have HA_w4 := Aside0.mk (blk_below HA2.out HBX.out); have HR_w4 := Aside0.mk (blk_below HRR.out HBX.out); have q0_w4 : w4.cell? ⟨gA, 0, none⟩ = some (.slice A0 ps.length c0) := (blk_cell HA_w4.out 0).trans rfl; have q1_w4 : w4.cell? ⟨gA, 1, none⟩ = some (.slice A1 bs.length c1) := (blk_cell HA_w4.out 1).trans rfl; have z0_w4 : w4.cell? ⟨gR, 0, none⟩ = some (.slice none 0 0) := (blk_cell HR_w4.out 0).trans rfl; have z1_w4 : w4.cell? ⟨gR, 1, none⟩ = some (.slice none 0 0) := (blk_cell HR_w4.out 1).trans rfl; have f0_w4 := blk_frozen HR_w4.out 0; have f1_w4 := blk_frozen HR_w4.out 1; clear hb q0_w3 q1_w3 z0_w3 z1_w3 f0_w3 f1_w3))
    have HB4 := HBX
    clear HBX HA_w3 HR_w3 HB3
    have HCX := Aside0.mk (impl_copyWeave.calls_ap k A0 c0 ps A1 c1 bs p1 p2 w4 (Kd.C_below HR0.out (below_step HW2.out HB4.out)) HC0.out (Kd.C_below HR1.out (below_step HW2.out HB4.out)) HC1.out HP.out)
    go_upto_region 7 with (first | (go_at_call 71; refine HCX.out.mono ?_; clear HCX; rintro e w5 ⟨n5, vp, vb, rfl, hsp, hsb, hb⟩; obtain ⟨Ap, cp, rfl⟩ := Kd.S_slice hsp; obtain ⟨Ab, cb, rfl⟩ := Kd.S_slice hsb; have HSP := Aside0.mk hsp; have HSB := Aside0.mk hsb; have HB5 := Aside0.mk hb; clear hb hsp hsb))
    have hb6 := below_alloc (Below.refl w5.heap.size w5) (.cells #[.slice Ap p1.length cp, .slice Ab p2.length cb] 32)
    have hv : Wv w2 (w5.alloc (.cells #[.slice Ap p1.length cp, .slice Ab p2.length cb] 32)) w5.heap.size (fun k_ => (n5 < k_ ∧ k_ < w5.heap.size) ∨ w5.heap.size < k_) (.slice Ap p1.length cp) (.slice Ab p2.length cb) p1 p2 := by
      have h42 := below_size HB4.out
      refine ⟨below_step (below_step HB4.out HB5.out) hb6, Nat.le_trans h42 (Below.size HB5.out), heap_alloc_new w5 _, ?_, ?_, fun k_ hk => ?_⟩
      · exact Kd.S_mono (Kd.S_below (Kd.S_lower (Kd.S_bound HSP.out) h42) hb6) (fun k_ hk => ⟨by have := hk.2.2.1; omega, by have := hk.1; have := hk.2.2.1; omega⟩)
      · exact Kd.S_mono (Kd.S_below (Kd.S_lower (Kd.S_bound HSB.out) h42) hb6) (fun k_ hk => ⟨by have := hk.2.2.1; omega, .inl ⟨hk.1, hk.2.2.1⟩⟩)
      · have : (w5.alloc (.cells #[.slice Ap p1.length cp, .slice Ab p2.length cb] 32)).heap.size = w5.heap.size + 1 := by simp only [World.alloc, Array.size_push]
        omega
    have HCX := Aside0.mk (impl_Weave_add.calls k w2 (w5.alloc (.cells #[.slice Ap p1.length cp, .slice Ab p2.length cb] 32)) w5.heap.size _ _ _ p1 p2 A2 c2 parents A3 c3 lines a1 a2 a3 hv (Kd.C_below HR2.out HW2.out) HC2.out (Kd.C_below HR3.out HW2.out) HC3.out HADD.out)
    generalize hOq : w5.heap.size = gO at HCX ⊢
    have HGO := Aside0.mk (show gR < gO from by have := Nat.lt_of_lt_of_le (blk_lt HR_w4.out) (Below.size HB5.out); omega)
    generalize w5.alloc (.cells #[.slice Ap p1.length cp, .slice Ab p2.length cb] 32) = w6 at HCX ⊢
    clear hv hb6 hOq HB5 HSP HSB HB4 HA_w4 HR_w4 q0_w4 q1_w4 z0_w4 z1_w4 f0_w4 f1_w4
    cases a3 with
    | false =>
      have H := HH.out
      rw [if_neg (by decide)] at H
      simp only [Option.some.injEq, Prod.mk.injEq] at H
      obtain ⟨rfl, rfl, rfl, rfl⟩ := H
      go_wp2_with (first | (go_at_call 72; refine HCX.out.mono ?_; clear HCX; rintro e w7 ⟨P7, vp7, vb7, rfl, hv7⟩; have HBX := Aside0.mk hv7.b; have HA_w7 := Aside0.mk (blk_below HA2.out HBX.out); have HR_w7 := Aside0.mk (blk_below HRR.out HBX.out); have q0_w7 : w7.cell? ⟨gA, 0, none⟩ = some (.slice A0 ps.length c0) := (blk_cell HA_w7.out 0).trans rfl; have q1_w7 : w7.cell? ⟨gA, 1, none⟩ = some (.slice A1 bs.length c1) := (blk_cell HA_w7.out 1).trans rfl; have z0_w7 : w7.cell? ⟨gR, 0, none⟩ = some (.slice none 0 0) := (blk_cell HR_w7.out 0).trans rfl; have z1_w7 : w7.cell? ⟨gR, 1, none⟩ = some (.slice none 0 0) := (blk_cell HR_w7.out 1).trans rfl; have f0_w7 := blk_frozen HR_w7.out 0; have f1_w7 := blk_frozen HR_w7.out 1))
      refine bodyPost_ret (results_ctt rfl _ _ gR 32 #[.slice none 0 0, .slice none 0 0] (0, 0) _ rfl (nil_put HR_w7.out) hu32 rfl (by kernel_rfl)) rfl ?_
      exact ⟨fun _ => True, _, _, rfl, Kd.S_nil _ _ _ _ _, Kd.S_nil _ _ _ _ _, below_set (below_set (below_step HW2.out HBX.out) HG.out.2.1) HG.out.2.1⟩
    | true =>
      have H := HH.out
      rw [if_pos rfl] at H
      simp only [Option.some.injEq, Prod.mk.injEq] at H
      obtain ⟨rfl, rfl, rfl, rfl⟩ := H
      go_upto_region 9 with (first | (go_at_call 72; refine HCX.out.mono ?_; clear HCX; rintro e w7 ⟨P7, vp7, vb7, rfl, hv7⟩; obtain ⟨Ap7, cp7, rfl⟩ := Kd.S_slice hv7.sp; obtain ⟨Ab7, cb7, rfl⟩ := Kd.S_slice hv7.sb; have HBX := Aside0.mk hv7.b; have HA_w7 := Aside0.mk (blk_below HA2.out HBX.out); have HR_w7 := Aside0.mk (blk_below HRR.out HBX.out); have q0_w7 : w7.cell? ⟨gA, 0, none⟩ = some (.slice A0 ps.length c0) := (blk_cell HA_w7.out 0).trans rfl; have q1_w7 : w7.cell? ⟨gA, 1, none⟩ = some (.slice A1 bs.length c1) := (blk_cell HA_w7.out 1).trans rfl; have z0_w7 : w7.cell? ⟨gR, 0, none⟩ = some (.slice none 0 0) := (blk_cell HR_w7.out 0).trans rfl; have z1_w7 : w7.cell? ⟨gR, 1, none⟩ = some (.slice none 0 0) := (blk_cell HR_w7.out 1).trans rfl; have f0_w7 := blk_frozen HR_w7.out 0; have f1_w7 := blk_frozen HR_w7.out 1; have HV7 := Aside0.mk hv7; clear hv7))
      obtain ⟨k70, k71⟩ := HV7.out.cells
      have K7 := Aside0.mk (show w7.drew.cell? ⟨gO, 0, none⟩ = some (.slice Ap7 a1.length cp7) ∧ w7.drew.cell? ⟨gO, 1, none⟩ = some (.slice Ab7 a2.length cb7) ∧ w7.drew.cell? ⟨gA, 0, none⟩ = some (.slice A0 ps.length c0) from ⟨k70, k71, q0_w7⟩)
      have hAR : gA ≠ gR := by have := HG.out; omega
      have hOR : gO ≠ gR := by have := HGO.out; omega
      have KD := Aside0.mk (show ((w7.drew.setCell ⟨gR, 0, none⟩ (.slice Ap7 a1.length cp7)).setCell ⟨gR, 1, none⟩ (.slice Ab7 a2.length cb7)).cell? ⟨gO, 0, none⟩ = some (.slice Ap7 a1.length cp7) ∧ ((w7.drew.setCell ⟨gR, 0, none⟩ (.slice Ap7 a1.length cp7)).setCell ⟨gR, 1, none⟩ (.slice Ab7 a2.length cb7)).cell? ⟨gO, 1, none⟩ = some (.slice Ab7 a2.length cb7) ∧ ((w7.drew.setCell ⟨gR, 0, none⟩ (.slice Ap7 a1.length cp7)).setCell ⟨gR, 1, none⟩ (.slice Ab7 a2.length cb7)).cell? ⟨gA, 0, none⟩ = some (.slice A0 ps.length c0) from ⟨(cell_far (p := ⟨gR, 1, none⟩) hOR _).trans ((cell_far (p := ⟨gR, 0, none⟩) hOR _).trans K7.out.1), (cell_far (p := ⟨gR, 1, none⟩) hOR _).trans ((cell_far (p := ⟨gR, 0, none⟩) hOR _).trans K7.out.2.1), (cell_far (p := ⟨gR, 1, none⟩) hAR _).trans ((cell_far (p := ⟨gR, 0, none⟩) hAR _).trans K7.out.2.2)⟩)
      refine wp_region_noPanic ?_
      refine wp_region_held_drew (S := (fun W' => W'.cell? ⟨gO, 0, none⟩ = some (.slice Ap7 a1.length cp7) ∧ W'.cell? ⟨gO, 1, none⟩ = some (.slice Ab7 a2.length cb7) ∧ W'.cell? ⟨gA, 0, none⟩ = some (.slice A0 ps.length c0))) (by kernel_rfl) (by (try dsimp only); (first | exact K7.out | exact KD.out)) (fun hHeld => ?_)
      (refine wpAnyH_take (i := 0) (oi := _) (v := ?_) rfl (by kernel_rfl) (by kernel_rfl) (by kernel_rfl) (fun _ _ _ h => h) (Or.inl ⟨by rfl, ?_⟩) (by assumption) ?_; rotate_left; (· (intro w hSw; (try dsimp only at hSw); go_simp; try with_reducible rfl)); (try simp only [Act.put, List.setIfInBounds_toArray, List.set_cons_zero, List.set_cons_succ]))
      (refine wpAnyH_take (i := 1) (oi := _) (v := ?_) rfl (by kernel_rfl) (by kernel_rfl) (by kernel_rfl) (fun _ _ _ h => h) (Or.inl ⟨by rfl, ?_⟩) (by assumption) ?_; rotate_left; (· (intro w hSw; (try dsimp only at hSw); go_simp; try with_reducible rfl)); (try simp only [Act.put, List.setIfInBounds_toArray, List.set_cons_zero, List.set_cons_succ]))
      (refine wpAnyH_take (i := 2) (oi := _) (v := ?_) rfl (by kernel_rfl) (by kernel_rfl) (by kernel_rfl) (fun _ _ _ h => h) (Or.inl ⟨by rfl, ?_⟩) (by assumption) ?_; rotate_left; (· (intro w hSw; (try dsimp only at hSw); go_simp; try with_reducible rfl)); (try simp only [Act.put, List.setIfInBounds_toArray, List.set_cons_zero, List.set_cons_succ]))
      (refine wpAnyH_take (i := 3) (oi := _) (v := ?_) rfl (by kernel_rfl) (by kernel_rfl) (by kernel_rfl) (fun _ _ _ h => h) (Or.inl ⟨by rfl, ?_⟩) (by assumption) ?_; rotate_left; (· (intro w hSw; (try dsimp only at hSw); go_simp; try with_reducible rfl)); (try simp only [Act.put, List.setIfInBounds_toArray, List.set_cons_zero, List.set_cons_succ]))
      all_goals (refine wpAnyH_ready (rs := [4]) (by decide +kernel) (by simp) ?_; refine AllReadyH.cons (o := _) rfl (fun K hK => ?_) AllReadyH.nil)
      all_goals (go_simp; refine hK.out _ _ (by (try dsimp only); (first | exact K7.out | exact KD.out)) (fun hHeld => ?_); clear hK K; (try simp only [Act.put, List.setIfInBounds_toArray, List.set_cons_zero, List.set_cons_succ]))
      all_goals (refine wpAnyH_ready (rs := [5]) (by decide +kernel) (by simp) ?_; refine AllReadyH.cons (o := _) rfl (fun K hK => ?_) AllReadyH.nil)
      all_goals (go_simp; refine hK.out _ _ (by (try dsimp only); (first | exact K7.out | exact KD.out)) (fun hHeld => ?_); clear hK K; (try simp only [Act.put, List.setIfInBounds_toArray, List.set_cons_zero, List.set_cons_succ]))
      all_goals (refine wpAnyH_ready (rs := [6]) (by decide +kernel) (by simp) ?_; refine AllReadyH.cons (o := _) rfl (fun K hK => ?_) AllReadyH.nil)
      all_goals (go_simp; refine hK.out _ _ (by (try dsimp only); (first | exact K7.out | exact KD.out)) (fun hHeld => ?_); clear hK K; (try simp only [Act.put, List.setIfInBounds_toArray, List.set_cons_zero, List.set_cons_succ]))
      all_goals (refine wpAnyH_done (by kernel_rfl) ?_ _)
      all_goals (refine NoPanic.normal ?_)
      have hrf : ((w7.drew.setCell ⟨gR, 0, none⟩ (.slice Ap7 a1.length cp7)).setCell ⟨gR, 1, none⟩ (.slice Ab7 a2.length cb7)).heap[gR]? = some (.cells #[.slice Ap7 a1.length cp7, .slice Ab7 a2.length cb7] 32 (0, 0)) := blk_put (cs := #[.slice Ap7 a1.length cp7, .slice none 0 0]) (blk_put (cs := #[.slice none 0 0, .slice none 0 0]) (show w7.drew.heap[gR]? = some (.cells #[.slice none 0 0, .slice none 0 0] 32 (0, 0)) from HR_w7.out) 0 (.slice Ap7 a1.length cp7) rfl) 1 (.slice Ab7 a2.length cb7) rfl
      have HVD := Aside0.mk (HV7.out.below (below_drew1 (Below.refl w7.heap.size w7)))
      have hs1 := Kd.S_mono (Kd.S_lower (Kd.S_far (p := ⟨gR, 1, none⟩) (Kd.S_far (p := ⟨gR, 0, none⟩) (Kd.S_types HVD.out.sp (show w7.drew.heap[gR]? = some (.cells #[.slice none 0 0, .slice none 0 0] 32 (0, 0)) from HR_w7.out) (by decide)) (fun _ hk => hk.2) (.slice Ap7 a1.length cp7)) (fun _ hk => hk.2) (.slice Ab7 a2.length cb7)) (below_size HW2.out)) (ok' := fun k_ => ¬ P7 k_) (fun k_ hk => hk.1.2)
      have hs2 := Kd.S_mono (Kd.S_lower (Kd.S_far (p := ⟨gR, 1, none⟩) (Kd.S_far (p := ⟨gR, 0, none⟩) (Kd.S_types HVD.out.sb (show w7.drew.heap[gR]? = some (.cells #[.slice none 0 0, .slice none 0 0] 32 (0, 0)) from HR_w7.out) (by decide)) (fun _ hk => hk.2) (.slice Ap7 a1.length cp7)) (fun _ hk => hk.2) (.slice Ab7 a2.length cb7)) (below_size HW2.out)) (ok' := P7) (fun k_ hk => hk.1.2)
      have hbf : Below w.heap.size w ((w7.drew.setCell ⟨gR, 0, none⟩ (.slice Ap7 a1.length cp7)).setCell ⟨gR, 1, none⟩ (.slice Ab7 a2.length cb7)) := below_set (below_set (below_drew1 (below_step HW2.out HBX.out)) HG.out.2.1) HG.out.2.1
      have HRF := Aside0.mk hrf
      have HFIN := Aside0.mk (And.intro hs1 (And.intro hs2 hbf))
      clear hrf hs1 hs2 hbf K7 KD k70 k71 HVD HV7
      have e9 : ((w7.drew.setCell ⟨gR, 0, none⟩ (.slice Ap7 a1.length cp7)).setCell ⟨gR, 1, none⟩ (.slice Ab7 a2.length cb7)) = ((w7.setCell ⟨gR, 0, none⟩ (.slice Ap7 a1.length cp7)).setCell ⟨gR, 1, none⟩ (.slice Ab7 a2.length cb7)).drew := rfl
      rw [e9] at HRF HFIN
      clear e9
      generalize ((w7.setCell ⟨gR, 0, none⟩ (.slice Ap7 a1.length cp7)).setCell ⟨gR, 1, none⟩ (.slice Ab7 a2.length cb7)).drew = w9 at HRF HFIN ⊢
      go_wp2
      refine bodyPost_ret (results_ctt rfl _ _ gR 32 #[.slice Ap7 a1.length cp7, .slice Ab7 a2.length cb7] (0, 0) _ rfl HRF.out hu32 rfl (by kernel_rfl)) rfl ?_
      exact ⟨P7, _, _, rfl, HFIN.out.1, HFIN.out.2.1, HFIN.out.2.2⟩

/-! ### laws_eqStringS: function 27 -/
def laws_eqStringS.l0 : Nat → List ByteArray → List ByteArray → Int → Option (Bool)
  | 0, _, _, _ => none
  | k + 1, x0, x1, x5 => if x5 < (x0.length : Int) then (if 0 ≤ x5 then (if x5 < (x1.length : Int) then (if (rdOf ByteArray.empty x0 x5).toList = (rdOf ByteArray.empty x1 x5).toList then (laws_eqStringS.l0 k x0 x1 (wrap64 (x5 + 1))) else (some false)) else (none)) else (none)) else (some true)
def laws_eqStringS.f (k : Nat) (l0 : List ByteArray) (l1 : List ByteArray) : Option (Bool) := if (l0.length : Int) = (l1.length : Int) then (laws_eqStringS.l0 k l0 l1 0) else (some false)
theorem laws_eqStringS.mono_l : ∀ k, (∀ y0 y1 y2, LeO (laws_eqStringS.l0 k y0 y1 y2) (laws_eqStringS.l0 (k + 1) y0 y1 y2))
  | 0 => by intros; exact LeO.none _
  | k + 1 => by
    have ih0 := laws_eqStringS.mono_l k; intros ; unfold laws_eqStringS.l0 ; repeat' with_reducible first | exact LeO.refl _ | exact LeO.none _ | refine LeO.ite ?_ ?_ | refine LeO.bind ?_ (fun _ => ?_) | apply ih0
theorem laws_eqStringS.mono : ∀ a0 a1 k, LeO (laws_eqStringS.f k a0 a1) (laws_eqStringS.f (k + 1) a0 a1) := by
  intro a0 a1 k; have ih0 := laws_eqStringS.mono_l k; unfold laws_eqStringS.f
  repeat' with_reducible first | exact LeO.refl _ | exact LeO.none _ | refine LeO.ite ?_ ?_ | refine LeO.bind ?_ (fun _ => ?_) | apply ih0
set_option maxHeartbeats 8000000 in
set_option maxRecDepth 100000 in
theorem laws_eqStringS.calls (k : Nat) (A0 : Option Addr) (c0 : Nat) (l0 : List ByteArray) (A1 : Option Addr) (c1 : Nat) (l1 : List ByteArray) (r : Bool) (w : World) (hr0 : Kd.C Kd.string w A0 l0.length l0) (hc0 : l0.length ≤ c0) (hr1 : Kd.C Kd.string w A1 l1.length l1) (hc1 : l1.length ≤ c1) (h : laws_eqStringS.f k l0 l1 = some r) :
    Calls Try.prog 27 #[.slice A0 l0.length c0, .slice A1 l1.length c1] w fun e w' => e = .returned (.bool r) ∧ Drawn0 w w' := by
  have HR0 := Aside0.mk hr0; have HC0 := Aside0.mk hc0; clear hr0 hc0; have HR1 := Aside0.mk hr1; have HC1 := Aside0.mk hc1; clear hr1 hc1; have H := h; unfold laws_eqStringS.f at H; clear h; by_cases c3 : (l0.length : Int) = (l1.length : Int)
  · rw [if_pos c3] at H; have c3b0 : ((l0.length : Int) == (l1.length : Int)) = true := beq_iff_eq.mpr c3; have c3b1 : ((l0.length : Int) != (l1.length : Int)) = false := bne_eq_false_iff_eq.mpr c3; have c3b2 : (l0.length == l1.length) = true := (by first | simpa using c3 | (simp at c3 ⊢; omega)); clear c3; have H' := Aside0.mk H; clear H; go_enter Try.func27, Try.ntmps27; go_wp2
    repeat (go_quiet (fail); try go_wp2)
    go_loopg [5] k (fun kq v5 w' => ∃ (x5_1 : Int), v5 = .int .i64 x5_1 ∧ Aside0 (laws_eqStringS.l0 kq l0 l1 x5_1 = some r) ∧ Aside0 (kq ≤ k) ∧ Drawn0 w w')
    case atStart => exact ⟨(0), q3_, H', ⟨Nat.le_refl _⟩, by repeat (first | exact Drawn0.refl _ | apply Drawn0.step)⟩
    case round =>
     clear H'; obtain ⟨x5_1, rfl, HA, HK1, ⟨m1, rfl⟩⟩ := hrel
     cases gk with
     | zero => exact absurd HA.out (by simp [laws_eqStringS.l0])
     | succ k1 =>
      have H := HA.out; clear HA; simp only [laws_eqStringS.l0] at H; by_cases c4 : x5_1 < (l0.length : Int)
      ·rw [if_pos c4] at H; have c4b0 := decide_eq_true c4; clear c4; obtain ⟨c5b0, H⟩ := ifd_ H; obtain ⟨c6b0, H⟩ := ifd_ H; by_cases c7 : (rdOf ByteArray.empty l0 x5_1).toList = (rdOf ByteArray.empty l1 x5_1).toList
       ·rw [if_pos c7] at H; have c7b0 : ((rdOf ByteArray.empty l0 x5_1).toList == (rdOf ByteArray.empty l1 x5_1).toList) = true := beq_iff_eq.mpr c7; have c7b1 : ((rdOf ByteArray.empty l0 x5_1).toList != (rdOf ByteArray.empty l1 x5_1).toList) = false := bne_eq_false_iff_eq.mpr c7; clear c7; have H' := Aside0.mk H; clear H; obtain ⟨p536, q536, ad536, e536, hx536_0⟩ := pq_ (Kd.at_string HR0.out x5_1); cases e536; obtain ⟨p537, q537, ad537, e537, hx537_0⟩ := pq_ (Kd.at_string HR1.out x5_1); cases e537; go_wp2
        repeat (go_quiet (fail); try go_wp2)
        go_roundg k1
        case measure => have := HK1.out; omega
        case rel => exact ⟨(wrap64 (x5_1 + 1)), q3_, H', ⟨by have := HK1.out; omega⟩, by repeat (first | exact Drawn0.refl _ | apply Drawn0.step)⟩
       ·rw [if_neg c7] at H; have c7b0 : ((rdOf ByteArray.empty l0 x5_1).toList == (rdOf ByteArray.empty l1 x5_1).toList) = false := beq_eq_false_iff_ne.mpr c7; have c7b1 : ((rdOf ByteArray.empty l0 x5_1).toList != (rdOf ByteArray.empty l1 x5_1).toList) = true := bne_iff_ne.mpr c7; obtain rfl := Option.some.inj H; obtain ⟨p536, q536, ad536, e536, hx536_0⟩ := pq_ (Kd.at_string HR0.out x5_1); cases e536; obtain ⟨p537, q537, ad537, e537, hx537_0⟩ := pq_ (Kd.at_string HR1.out x5_1); cases e537; go_wp2
        repeat (go_quiet (fail); try go_wp2)
        go_ret; exact ⟨by first | rfl | (simp; done) | (simp [*]; done), by repeat (first | exact Drawn0.refl _ | apply Drawn0.step)⟩
      ·rw [if_neg c4] at H; have c4b0 := decide_eq_false c4; clear c4; obtain rfl := Option.some.inj H; go_wp2
       repeat (go_quiet (fail); try go_wp2)
       go_ret; exact ⟨by first | rfl | (simp; done) | (simp [*]; done), by repeat (first | exact Drawn0.refl _ | apply Drawn0.step)⟩
  · rw [if_neg c3] at H; have c3b0 : ((l0.length : Int) == (l1.length : Int)) = false := beq_eq_false_iff_ne.mpr c3; have c3b1 : ((l0.length : Int) != (l1.length : Int)) = true := bne_iff_ne.mpr c3; have c3b2 : (l0.length == l1.length) = false := (by first | simpa using c3 | (simp at c3 ⊢; omega)); obtain rfl := Option.some.inj H; go_enter Try.func27, Try.ntmps27; go_wp2
    repeat (go_quiet (fail); try go_wp2)
    go_ret; exact ⟨by first | rfl | (simp; done) | (simp [*]; done), by repeat (first | exact Drawn0.refl _ | apply Drawn0.step)⟩

/-! ### laws_markIntS: function 28 -/
def laws_markIntS.l0 : Nat → List Int → Int → Int → Option (Int × List Int)
  | 0, _, _, _ => none
  | k + 1, x0, x1, x5 => if x5 < (x0.length : Int) then (if 0 ≤ x5 then (laws_markIntS.l0 k (x0.set (x5 : Int).toNat x1) (wrap64 (x1 + 1)) (wrap64 (x5 + 1))) else (none)) else (some (x1, x0))
def laws_markIntS.f (k : Nat) (l0 : List Int) (a1 : Int) : Option (Int × List Int) := laws_markIntS.l0 k l0 a1 0
theorem laws_markIntS.mono_l : ∀ k, (∀ y0 y1 y2, LeO (laws_markIntS.l0 k y0 y1 y2) (laws_markIntS.l0 (k + 1) y0 y1 y2))
  | 0 => by intros; exact LeO.none _
  | k + 1 => by
    have ih0 := laws_markIntS.mono_l k; intros ; unfold laws_markIntS.l0 ; repeat' with_reducible first | exact LeO.refl _ | exact LeO.none _ | refine LeO.ite ?_ ?_ | refine LeO.bind ?_ (fun _ => ?_) | apply ih0
theorem laws_markIntS.mono : ∀ a0 a1 k, LeO (laws_markIntS.f k a0 a1) (laws_markIntS.f (k + 1) a0 a1) := by
  intro a0 a1 k; have ih0 := laws_markIntS.mono_l k; unfold laws_markIntS.f
  repeat' with_reducible first | exact LeO.refl _ | exact LeO.none _ | refine LeO.ite ?_ ?_ | refine LeO.bind ?_ (fun _ => ?_) | apply ih0
set_option maxHeartbeats 8000000 in
set_option maxRecDepth 100000 in
theorem laws_markIntS.calls (k : Nat) (P0_ : Nat → Prop) (u9000_ : Value) (l0 : List Int) (a1 : Int) (r1 : Int) (r2 : List Int) (w0 w : World) (hB : Below w0.heap.size w0 w) (ho0 : Kd.R (Kd.int .i64) 3 w w0.heap.size P0_ u9000_ l0) (h : laws_markIntS.f k l0 a1 = some (r1, r2)) :
    Calls Try.prog 28 #[u9000_, .int .i64 a1] w fun e w' => e = .returned (.int .i64 r1) ∧ Kd.R (Kd.int .i64) 3 w' w0.heap.size (fun k_ => (P0_ k_ ∨ w.heap.size ≤ k_)) u9000_ r2 ∧ Below w0.heap.size w0 w' ∧ Kept w w' (fun k_ => P0_ k_) := by
  have HO0 := Aside0.mk (show Kd.R (Kd.int .i64) 3 w w0.heap.size (fun k_ => (P0_ k_ ∨ w.heap.size ≤ k_)) u9000_ l0 from Kd.R_mono ho0 (fun k_ hk => (.inl hk))); have HK := Aside0.mk (Kept.refl w (fun k_ => P0_ k_)); have HW0 := Aside0.mk hB.size; have HB := Aside0.mk hB; clear hB; have H := h; unfold laws_markIntS.f at H; clear h; have H' := Aside0.mk H; clear H; go_enter Try.func28, Try.ntmps28; go_wp2; go_loopg [1, 5] k (fun kq v1 v5 w' => ∃ (x0_1 : List Int) (x1_1 : Int) (x5_1 : Int), v1 = .int .i64 x1_1 ∧ v5 = .int .i64 x5_1 ∧ Aside0 (laws_markIntS.l0 kq x0_1 x1_1 x5_1 = some (r1, r2)) ∧ Aside0 (kq ≤ k) ∧ Aside0 (Kd.R (Kd.int .i64) 3 w' w0.heap.size (fun k_ => (P0_ k_ ∨ w.heap.size ≤ k_)) u9000_ x0_1) ∧ Aside0 (Kept w w' (fun k_ => P0_ k_)) ∧ Aside0 (Below w0.heap.size w0 w'))
  case atStart => exact ⟨(l0), (a1), (0), q3_, q3_, H', ⟨Nat.le_refl _⟩, z_ HO0, ⟨by repeat (first | (with_reducible first | exact HK.out | apply Kept.alloc | apply Kept.drewN | apply Kept.drew) | exact HK.out)⟩, ⟨zb_⟩⟩
  case round =>
    clear H'; obtain ⟨x0_1, x1_1, x5_1, rfl, rfl, HA, HK1, HO_0, HK, HB⟩ := hrel
    cases gk with
    | zero => exact absurd HA.out (by simp [laws_markIntS.l0])
    | succ k1 =>
     have H := HA.out; clear HA; simp only [laws_markIntS.l0] at H; by_cases c3 : x5_1 < (x0_1.length : Int)
     ·rw [if_pos c3] at H; have c3b0 := decide_eq_true c3; clear c3; obtain ⟨c4b0, H⟩ := ifd_ H; obtain ⟨y538, hy538⟩ : ∃ y_ : List Int, y_ = (x0_1.set (x5_1 : Int).toNat x1_1) := ⟨_, rfl⟩; rw [← hy538] at H; have Ny538 := Aside0.mk hy538; clear hy538; have H' := Aside0.mk H; clear H; obtain ⟨Ao6, co6, eo6⟩ := Kd.R_slice HO_0.out; subst eo6; have p5 : 0 ≤ (x5_1 : Int) := of_decide_eq_true q0_; have q5 : (x5_1 : Int) < ((x0_1.length : Int) : Int) := of_decide_eq_true q0_; obtain ⟨go5, co5, eo5, gb5, gl5, cl5, HG5⟩ := Kd.R_form HO_0.out (by omega); (first | cases eo5 | (injection eo5 with ea_ en_ ec_; (first | subst ea_ | (injection ea_ with ea_; subst ea_)); subst ec_; clear en_)); have GB5 := Aside0.mk gb5; have GG5 := Aside0.mk HG5; clear gb5 gl5 HG5; have HMgo5 := Aside0.mk (show (P0_ go5 ∨ w.heap.size ≤ go5) from (HO_0.out.1 _ rfl)); obtain ⟨hx5_0, hf5_0⟩ := Kd.R_celln 0 HO_0.out (x5_1 : Int) p5 q5; replace p5 := eq_true p5; replace q5 := eq_true q5; have HP7 := Kd.R_putg HO_0.out (x5_1 : Int) x1_1; go_wp2_with (first | ((with_reducible refine gate_store (t := 3) (p := 15) rfl ?_); refine store_event (t := 3) (p := 15) (v := ?vo_w8) (w1 := (wr.setCell ⟨go5, (x5_1 : Int).toNat, none⟩ (.int .i64 x1_1))) ?hg ?ho ?hn ?hr ?_; (case ho => rfl); (case hg => rfl); (case hn => rfl); (case hr => first | (go_simp; done) | (go_simp; rfl)); intro w8 hw; have hg : wr.grownBy w8 (some go5) := (by rw [hw]; exact HP7.2); have hp_ : Kd.R (Kd.int .i64) 3 w8 w0.heap.size (fun k_ => (P0_ k_ ∨ w.heap.size ≤ k_)) (.slice (some ⟨go5, 0, none⟩) x0_1.length co6) y538 := (by rw [hw, Ny538.out]; exact HP7.1); clear HP7; refine ai3_ (hp_) ((by rw [hw]; exact below_set (HB.out) GB5.out : Below w0.heap.size w0 w8)) (Kept.of_grown (S := (fun k_ => P0_ k_)) hg (by repeat (first | (with_reducible first | exact HK.out | apply Kept.alloc | apply Kept.drewN | apply Kept.drew) | exact HK.out)) (fun k_ e_ => (HO_0.out.1 k_ e_))) ?_; clear HO_0 HB HK; intro HO_0 HB HK; clear hg hw hp_)); go_roundg k1
      case measure => have := HK1.out; omega
      case rel => exact ⟨(y538), (wrap64 (x1_1 + 1)), (wrap64 (x5_1 + 1)), q3_, q3_, H', ⟨by have := HK1.out; omega⟩, z_ HO_0, ⟨by repeat (first | (with_reducible first | exact HK.out | apply Kept.alloc | apply Kept.drewN | apply Kept.drew) | exact HK.out)⟩, ⟨zb_⟩⟩
     ·rw [if_neg c3] at H; have c3b0 := decide_eq_false c3; clear c3; simp only [Option.some.injEq, Prod.mk.injEq] at H; obtain ⟨rfl, rfl⟩ := H; obtain ⟨Ao9, co9, eo9⟩ := Kd.R_slice HO_0.out; subst eo9; go_wp2; go_ret; exact ⟨er_, zp_ HO_0, zb_, by repeat (first | (with_reducible first | exact HK.out | apply Kept.alloc | apply Kept.drewN | apply Kept.drew) | exact HK.out)⟩

/-! ### laws_markStringS: function 29 -/
def laws_markStringS.l0 : Nat → List ByteArray → Int → Int → Option (Int × List ByteArray)
  | 0, _, _, _ => none
  | k + 1, x0, x1, x5 => if x5 < (x0.length : Int) then ((laws_markText.f k x1).bind fun t539 => (if 0 ≤ x5 then (laws_markStringS.l0 k (x0.set (x5 : Int).toNat t539) (wrap64 (x1 + 1)) (wrap64 (x5 + 1))) else (none))) else (some (x1, x0))
def laws_markStringS.f (k : Nat) (l0 : List ByteArray) (a1 : Int) : Option (Int × List ByteArray) := laws_markStringS.l0 k l0 a1 0
theorem laws_markStringS.mono_l : ∀ k, (∀ y0 y1 y2, LeO (laws_markStringS.l0 k y0 y1 y2) (laws_markStringS.l0 (k + 1) y0 y1 y2))
  | 0 => by intros; exact LeO.none _
  | k + 1 => by
    have ih0 := laws_markStringS.mono_l k; intros ; unfold laws_markStringS.l0 ; repeat' with_reducible first | exact LeO.refl _ | exact LeO.none _ | refine LeO.ite ?_ ?_ | refine LeO.bind ?_ (fun _ => ?_) | apply ih0 | apply laws_markText.mono
theorem laws_markStringS.mono : ∀ a0 a1 k, LeO (laws_markStringS.f k a0 a1) (laws_markStringS.f (k + 1) a0 a1) := by
  intro a0 a1 k; have ih0 := laws_markStringS.mono_l k; unfold laws_markStringS.f
  repeat' with_reducible first | exact LeO.refl _ | exact LeO.none _ | refine LeO.ite ?_ ?_ | refine LeO.bind ?_ (fun _ => ?_) | apply ih0 | apply laws_markText.mono
set_option maxHeartbeats 8000000 in
set_option maxRecDepth 100000 in
theorem laws_markStringS.calls (k : Nat) (P0_ : Nat → Prop) (u9000_ : Value) (l0 : List ByteArray) (a1 : Int) (r1 : Int) (r2 : List ByteArray) (w0 w : World) (hB : Below w0.heap.size w0 w) (ho0 : Kd.R Kd.string 9 w w0.heap.size P0_ u9000_ l0) (h : laws_markStringS.f k l0 a1 = some (r1, r2)) :
    Calls Try.prog 29 #[u9000_, .int .i64 a1] w fun e w' => e = .returned (.int .i64 r1) ∧ Kd.R Kd.string 9 w' w0.heap.size (fun k_ => (P0_ k_ ∨ w.heap.size ≤ k_)) u9000_ r2 ∧ Below w0.heap.size w0 w' ∧ Kept w w' (fun k_ => P0_ k_) := by
  have HO0 := Aside0.mk (show Kd.R Kd.string 9 w w0.heap.size (fun k_ => (P0_ k_ ∨ w.heap.size ≤ k_)) u9000_ l0 from Kd.R_mono ho0 (fun k_ hk => (.inl hk))); have HK := Aside0.mk (Kept.refl w (fun k_ => P0_ k_)); have HW0 := Aside0.mk hB.size; have HB := Aside0.mk hB; clear hB; have H := h; unfold laws_markStringS.f at H; clear h; have H' := Aside0.mk H; clear H; go_enter Try.func29, Try.ntmps29; go_wp2; go_loopg [1, 5] k (fun kq v1 v5 w' => ∃ (x0_1 : List ByteArray) (x1_1 : Int) (x5_1 : Int), v1 = .int .i64 x1_1 ∧ v5 = .int .i64 x5_1 ∧ Aside0 (laws_markStringS.l0 kq x0_1 x1_1 x5_1 = some (r1, r2)) ∧ Aside0 (kq ≤ k) ∧ Aside0 (Kd.R Kd.string 9 w' w0.heap.size (fun k_ => (P0_ k_ ∨ w.heap.size ≤ k_)) u9000_ x0_1) ∧ Aside0 (Kept w w' (fun k_ => P0_ k_)) ∧ Aside0 (Below w0.heap.size w0 w'))
  case atStart => exact ⟨(l0), (a1), (0), q3_, q3_, H', ⟨Nat.le_refl _⟩, z_ HO0, ⟨by repeat (first | (with_reducible first | exact HK.out | apply Kept.alloc | apply Kept.drewN | apply Kept.drew) | exact HK.out)⟩, ⟨zb_⟩⟩
  case round =>
    clear H'; obtain ⟨x0_1, x1_1, x5_1, rfl, rfl, HA, HK1, HO_0, HK, HB⟩ := hrel
    cases gk with
    | zero => exact absurd HA.out (by simp [laws_markStringS.l0])
    | succ k1 =>
     have H := HA.out; clear HA; simp only [laws_markStringS.l0] at H; by_cases c3 : x5_1 < (x0_1.length : Int)
     ·rw [if_pos c3] at H; have c3b0 := decide_eq_true c3; clear c3; replace H := Option.bind_eq_some_iff.mp H; obtain ⟨t539, A40, H⟩ := H; (try dsimp only at H); have A4 := Aside0.mk A40; clear A40; obtain ⟨c5b0, H⟩ := ifd_ H; obtain ⟨y540, hy540⟩ : ∃ y_ : List ByteArray, y_ = (x0_1.set (x5_1 : Int).toNat t539) := ⟨_, rfl⟩; rw [← hy540] at H; have Ny540 := Aside0.mk hy540; clear hy540; have H' := Aside0.mk H; clear H; obtain ⟨Ao7, co7, eo7⟩ := Kd.R_slice HO_0.out; subst eo7; go_wp2_with (first | ((with_reducible refine gate_callee (f := 55) rfl ?_); refine gl_ 15 Try.func55 #[.int .i64 x1_1] ?_; (with_reducible refine (laws_markText.calls k1 x1_1 t539 _ A4.out).mono ?_); rintro e w8 ⟨rfl, hb⟩; refine ⟨_, rfl, ?_⟩; refine ai3_ (Kd.R_below (zp_ HO_0) hb) (Kept.below (S := (fun k_ => P0_ k_)) (by repeat (first | (with_reducible first | exact HK.out | apply Kept.alloc | apply Kept.drewN | apply Kept.drew) | exact HK.out)) hb) (below_step q1_ hb) ?_; clear HO_0 HK HB; intro HO_0 HK HB; have p6 : 0 ≤ (x5_1 : Int) := of_decide_eq_true q0_; have q6 : (x5_1 : Int) < ((x0_1.length : Int) : Int) := of_decide_eq_true q0_; obtain ⟨go6, co6, eo6, gb6, gl6, cl6, HG6⟩ := Kd.R_form HO_0.out (by omega); (first | cases eo6 | (injection eo6 with ea_ en_ ec_; (first | subst ea_ | (injection ea_ with ea_; subst ea_)); subst ec_; clear en_)); have GB6 := Aside0.mk gb6; have GG6 := Aside0.mk HG6; clear gb6 gl6 HG6; have HMgo6 := Aside0.mk (show (P0_ go6 ∨ w.heap.size ≤ go6) from (HO_0.out.1 _ rfl)); obtain ⟨hx6_0, hf6_0⟩ := Kd.R_celln (⟨#[]⟩ : ByteArray) HO_0.out (x5_1 : Int) p6 q6; replace p6 := eq_true p6; replace q6 := eq_true q6; obtain ⟨hy9_, hz9_⟩ := Kd.R_celln (⟨#[]⟩ : ByteArray) HO_0.out (x5_1 : Int) (of_decide_eq_true q0_) (of_decide_eq_true q0_); have HP9 := Kd.R_putg HO_0.out (x5_1 : Int) t539) | ((with_reducible refine gate_store (t := 9) (p := 16) rfl ?_); refine store_event (t := 9) (p := 16) (v := ?vo_w10) (w1 := (w8.setCell ⟨go6, (x5_1 : Int).toNat, none⟩ (.string t539))) ?hg ?ho ?hn ?hr ?_; (case ho => rfl); (case hg => rfl); (case hn => rfl); (case hr => first | (go_simp; done) | (go_simp; rfl)); intro w10 hw; have hg : w8.grownBy w10 (some go6) := (by rw [hw]; exact HP9.2); have hp_ : Kd.R Kd.string 9 w10 w0.heap.size (fun k_ => (P0_ k_ ∨ w.heap.size ≤ k_)) (.slice (some ⟨go6, 0, none⟩) x0_1.length co7) y540 := (by rw [hw, Ny540.out]; exact HP9.1); clear HP9; refine ai3_ (hp_) ((by rw [hw]; exact below_set (HB.out) GB6.out : Below w0.heap.size w0 w10)) (Kept.of_grown (S := (fun k_ => P0_ k_)) hg (by repeat (first | (with_reducible first | exact HK.out | apply Kept.alloc | apply Kept.drewN | apply Kept.drew) | exact HK.out)) (fun k_ e_ => (HO_0.out.1 k_ e_))) ?_; clear HO_0 HB HK; intro HO_0 HB HK; clear hg hw hp_)); go_roundg k1
      case measure => have := HK1.out; omega
      case rel => exact ⟨(y540), (wrap64 (x1_1 + 1)), (wrap64 (x5_1 + 1)), q3_, q3_, H', ⟨by have := HK1.out; omega⟩, z_ HO_0, ⟨by repeat (first | (with_reducible first | exact HK.out | apply Kept.alloc | apply Kept.drewN | apply Kept.drew) | exact HK.out)⟩, ⟨zb_⟩⟩
     ·rw [if_neg c3] at H; have c3b0 := decide_eq_false c3; clear c3; simp only [Option.some.injEq, Prod.mk.injEq] at H; obtain ⟨rfl, rfl⟩ := H; obtain ⟨Ao11, co11, eo11⟩ := Kd.R_slice HO_0.out; subst eo11; go_wp2; go_ret; exact ⟨er_, zp_ HO_0, zb_, by repeat (first | (with_reducible first | exact HK.out | apply Kept.alloc | apply Kept.drewN | apply Kept.drew) | exact HK.out)⟩

end Go.Proofs.Ytmodgiingohphaa.PFnExactAddVersion
