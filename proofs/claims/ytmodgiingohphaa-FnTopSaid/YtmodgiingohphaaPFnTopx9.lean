-- Made by a program (the kit's print with additions of this session: wip/tools/patch_print.py, ext.py).
-- (turned)
import Derived.Test.YtmodgiingohphaaPFnTopx4
import Derived.Test.YtmodgiingohphaaPFnTopx8
namespace Go.Proofs.Ytmodgiingohphaa.PFnTop
open Go.RowKit Go.Proofs.YtmodgiingohphaaW.PrintWords Go.Proofs.YtmodgiingohphaaW.PrintLast Go.Proofs.YtmodgiingohphaaW.PrintMore
attribute [local go_sem] max2_int min2_int max_two min_two max_three min_three max_four min_four   -- for this text's walks alone
set_option linter.unusedVariables false
set_option linter.unusedSimpArgs false

/-! ### impl_copyGraph: function 116 -/
def impl_copyGraph.l0 : Nat → List (List Int) → List (List Int) → Int → Int → Option ((List (List Int)))
  | 0, _, _, _, _ => none
  | k + 1, x3, x6, x7, x8 => if x8 < x7 then (if 0 ≤ x8 then (if x8 < (x6.length : Int) then ((slices_Clone_int_int.f (rd_L2 x6 x8)).bind fun t206 => (if x3.length < 5864062014805 then (impl_copyGraph.l0 k (x3 ++ [t206]) x6 x7 (wrap64 (x8 + 1))) else (none))) else (none)) else (none)) else (some x3)
def impl_copyGraph.f (k : Nat) (l0 : List (List Int)) : Option ((List (List Int))) := impl_copyGraph.l0 k ([] : List (List Int)) l0 (l0.length : Int) 0
theorem impl_copyGraph.mono_l : ∀ k, (∀ y0 y1 y2 y3, LeO (impl_copyGraph.l0 k y0 y1 y2 y3) (impl_copyGraph.l0 (k + 1) y0 y1 y2 y3))
  | 0 => by intros; exact LeO.none _
  | k + 1 => by
    have ih0 := impl_copyGraph.mono_l k; intros ; unfold impl_copyGraph.l0 ; repeat' with_reducible first | exact LeO.refl _ | exact LeO.none _ | refine LeO.ite ?_ ?_ | refine LeO.bind ?_ (fun _ => ?_) | apply ih0
theorem impl_copyGraph.mono : ∀ a0 k, LeO (impl_copyGraph.f k a0) (impl_copyGraph.f (k + 1) a0) := by
  intro a0 k; have ih0 := impl_copyGraph.mono_l k; unfold impl_copyGraph.f
  repeat' with_reducible first | exact LeO.refl _ | exact LeO.none _ | refine LeO.ite ?_ ?_ | refine LeO.bind ?_ (fun _ => ?_) | apply ih0
set_option maxHeartbeats 8000000 in
set_option maxRecDepth 100000 in
theorem impl_copyGraph.calls (k : Nat) (A0 : Option Addr) (c0 : Nat) (l0 : List (List Int)) (r : List (List Int)) (w : World) (hr0 : Kd.C (Kd.slice 3 (Kd.int .i64)) w A0 l0.length l0) (hc0 : l0.length ≤ c0) (h : impl_copyGraph.f k l0 = some r) :
    Calls Try.prog 116 #[.slice A0 l0.length c0] w fun e w' => ∃ v0_ : Value, e = .returned (v0_) ∧ Kd.S (Kd.slice 3 (Kd.int .i64)) 45 w' w.heap.size (fun _ => True) v0_ r ∧ Below w.heap.size w w' := by
  have HR0 := Aside0.mk hr0; have HC0 := Aside0.mk hc0; clear hr0 hc0; have HB := Aside0.mk (Below.refl w.heap.size w); have H := h; unfold impl_copyGraph.f at H; clear h; have H' := Aside0.mk H; clear H; go_enter Try.func116, Try.ntmps116; go_wp2; go_loopg [3, 8] k (fun kq v3 v8 w' => ∃ (x3_1 : List (List Int)) (x8_1 : Int), v8 = .int .i64 x8_1 ∧ Aside0 (impl_copyGraph.l0 kq x3_1 l0 (l0.length : Int) x8_1 = some r) ∧ Aside0 (kq ≤ k) ∧ Aside0 (Kd.S (Kd.slice 3 (Kd.int .i64)) 45 w' w.heap.size (fun _ => True) v3 x3_1) ∧ Aside0 (Below w.heap.size w w'))
  case atStart => exact ⟨(([] : List (List Int))), (0), q4_, H', ⟨Nat.le_refl _⟩, ⟨by first | exact Kd.S_nil _ _ _ _ _ | exact Kd.N_nil _ _ _ _ _ | exact Kd.V_nil _ _ _ _ _ | exact Kd.Q_nil _ _ _ _ _ | exact Kd.R_nil _ _ _ _ _⟩, ⟨zb_⟩⟩
  case round =>
    clear H'; obtain ⟨x3_1, x8_1, rfl, HA, HK1, HO_3, HB⟩ := hrel
    cases gk with
    | zero => exact absurd HA.out (by simp [impl_copyGraph.l0])
    | succ k1 =>
     have H := HA.out; clear HA; simp only [impl_copyGraph.l0] at H; by_cases c2 : x8_1 < (l0.length : Int)
     ·rw [if_pos c2] at H; have c2b0 := decide_eq_true c2; clear c2; obtain ⟨c3b0, H⟩ := ifd_ H; obtain ⟨c4b0, H⟩ := ifd_ H; replace H := Option.bind_eq_some_iff.mp H; obtain ⟨t206, A50, H⟩ := H; (try dsimp only at H); have A5 := Aside0.mk A50; clear A50; obtain ⟨c6, H⟩ := ifs_ H; have LMc6 := Aside0.mk c6; clear c6; obtain ⟨y209, hy_⟩ : ∃ y_ : List (List Int), y_ = (x3_1 ++ [t206]) := ⟨_, rfl⟩; rw [← hy_] at H; have Ny209 := Aside0.mk hy_; clear hy_; have H' := Aside0.mk H; clear H; obtain ⟨p205, q205, ad205, A205_0, c205_0, e205, hx205_0, hl205_0, hi205_0⟩ := pq_ (at_L2 HR0.out x8_1); cases e205; replace hx205_0 := bx_ HB hx205_0; have HR205_0 := Aside0.mk hi205_0; have HC205_0 := Aside0.mk hl205_0; clear hi205_0 hl205_0; go_wp2_with (first | ((with_reducible refine gate_callee (f := 117) rfl ?_); refine gl_ 14 Try.func117 #[.slice A205_0 (rd_L2 l0 x8_1).length c205_0] ?_; (with_reducible refine (slices_Clone_int_int.calls _ _ (rd_L2 l0 x8_1) t206 _ ?side1 ?side2 A5.out).mono ?_); (case side1 => exact cb_ HR205_0); (case side2 => exact HC205_0.out); rintro e w7 ⟨v207, rfl, ho0, hb⟩; refine ⟨_, rfl, ?_⟩; refine ai3_ (Kd.S_elder' q35_ (Kd.R_base ho0) hb) (Kd.R_lower ho0 (below_size q1_)) (below_step q1_ hb) ?_; clear HO_3 HB; intro HO_3 HO208 HB; obtain ⟨Ao9, co9, eo9⟩ := Kd.R_slice HO208.out; subst eo9) | ((with_reducible refine gate_builtin (b := .append) (xs := #[.tmp 12, .tmp 15]) rfl ?_); at_builtin; refine Kd.S_append (Kd.slice 3 (Kd.int .i64)) (w0 := w) w.heap.size rfl (.tmp 12) (.tmp 15) 22 45 (.slice none 0 0) 24 rfl Try.underlying22 info45 rfl (by decide) (by omega) u3 x3_1 t206 [.slice Ao9 t206.length co9] (fun _ => True) (fun k_ => some k_ = (.slice Ao9 t206.length co9 : Value).ownBlock) rfl rfl ?aP (fun k_ hk_ => ((Kd.R_mono (ok' := fun k_ => ((fun _ => True)) k_ ∧ some k_ ≠ (u3 : Value).ownBlock) (Kd.R_apart' (HO208.out) (Kd.S_typed HO_3.out) (by decide)) (fun k_ hk => ⟨trivial, hk.2⟩))).1 k_ hk_.symm) ?aF ?aO ?aB ?aS ?aL ?_; (case aP => exact Kd.M_row (Kd.R_mono (Kd.R_tight rfl (Kd.R_mono (ok' := fun k_ => ((fun _ => True)) k_ ∧ some k_ ≠ (u3 : Value).ownBlock) (Kd.R_apart' (HO208.out) (Kd.S_typed HO_3.out) (by decide)) (fun k_ hk => ⟨trivial, hk.2⟩))) (fun _ h_ => h_))); (case aB => exact q1_); (case aF => exact (fun _ _ => trivial)); (case aO => exact (by (with_reducible repeat (first | apply Kd.S_alloc | apply Kd.S_drewN | apply Kd.S_drew)); exact Kd.S_mono HO_3.out (fun k_ hk => ⟨trivial, fun e_ => hk.2 e_⟩))); (case aS => exact (below_size q1_)); (case aL => have := LMc6.out; omega); intro v210 w8 ho hb hg hat; rw [← Ny209.out] at ho; refine ai2_ (hb) (ho) ?_; clear HB HO_3 HO208; intro HB HO211; clear ho hb hg hat)); go_roundg k1
      case measure => have := HK1.out; omega
      case rel => exact ⟨(y209), (wrap64 (x8_1 + 1)), q4_, H', ⟨by have := HK1.out; omega⟩, z_ HO211, ⟨zb_⟩⟩
     ·rw [if_neg c2] at H; have c2b0 := decide_eq_false c2; clear c2; obtain rfl := Option.some.inj H; go_wp2; go_ret; exact ⟨_, er_, zp_ HO_3, zb_⟩

/-! ### impl_copyWeave: function 71 -/
def impl_copyWeave.l0 : Nat → List (S123) → Int → Int → List (List Int) → List (S123) → Option ((List (List Int)) × (List (S123)))
  | 0, _, _, _, _, _ => none
  | k + 1, x11, x12, x13, x498000, x498001 => if x13 < x12 then (if 0 ≤ x13 then (if x13 < (x11.length : Int) then ((slices_Clone_int_int.f ((rd_T123 x11 x13).f3)).bind fun t500 => (if x498001.length < 2513169434916 then (impl_copyWeave.l0 k x11 x12 (wrap64 (x13 + 1)) x498000 (x498001 ++ [(⟨(rd_T123 x11 x13).f0, (rd_T123 x11 x13).f1, (rd_T123 x11 x13).f2, t500⟩ : S123)])) else (none))) else (none)) else (none)) else (some (x498000, x498001))
def impl_copyWeave.f (k : Nat) (l0_0 : List (List Int)) (l0_1 : List (S123)) : Option ((List (List Int)) × (List (S123))) := (impl_copyGraph.f k l0_0).bind fun t494 => (impl_copyWeave.l0 k l0_1 (l0_1.length : Int) 0 t494 ([] : List (S123)))
theorem impl_copyWeave.mono_l : ∀ k, (∀ y0 y1 y2 y3 y4, LeO (impl_copyWeave.l0 k y0 y1 y2 y3 y4) (impl_copyWeave.l0 (k + 1) y0 y1 y2 y3 y4))
  | 0 => fun _ _ _ _ _ r h => by simp [impl_copyWeave.l0] at h
  | k + 1 => by
    have ih0 := impl_copyWeave.mono_l k
    · intro y0 y1 y2 y3 y4
      unfold impl_copyWeave.l0
      repeat' first
      | (with_reducible exact ih0 _ _ _ _ _)
      | (with_reducible exact impl_copyGraph.mono _ _)
      | (with_reducible exact LeO.refl _)
      | (with_reducible exact LeO.none _)
      | (with_reducible refine LeO.ite ?_ ?_)
      | (with_reducible refine LeO.bind ?_ (fun _ => ?_))
      | apply ih0
      | apply impl_copyGraph.mono
      | exact LeO.none _
      | refine LeO.ite ?_ ?_
      | refine LeO.bind ?_ (fun _ => ?_)
theorem impl_copyWeave.mono : ∀ a0 a1 k, LeO (impl_copyWeave.f k a0 a1) (impl_copyWeave.f (k + 1) a0 a1) := by
  intro a0 a1 k
  have ih0 := impl_copyWeave.mono_l k
  unfold impl_copyWeave.f
  repeat' first
      | (with_reducible exact ih0 _ _ _ _ _)
      | (with_reducible exact impl_copyGraph.mono _ _)
      | (with_reducible exact LeO.refl _)
      | (with_reducible exact LeO.none _)
      | (with_reducible refine LeO.ite ?_ ?_)
      | (with_reducible refine LeO.bind ?_ (fun _ => ?_))
      | apply ih0
      | apply impl_copyGraph.mono
      | exact LeO.none _
      | refine LeO.ite ?_ ?_
      | refine LeO.bind ?_ (fun _ => ?_)
set_option maxHeartbeats 8000000 in
set_option maxRecDepth 100000 in
theorem impl_copyWeave.calls_ap (k : Nat) (A0 : Option Addr) (c0 : Nat) (l0 : List (List Int)) (A1 : Option Addr) (c1 : Nat) (l1 : List S123) (r1 : List (List Int)) (r2 : List S123) (w : World) (hr0 : Kd.C (Kd.slice 3 (Kd.int .i64)) w A0 l0.length l0) (hc0 : l0.length ≤ c0) (hr1 : Kd.C k123 w A1 l1.length l1) (hc1 : l1.length ≤ c1) (h : impl_copyWeave.f k l0 l1 = some (r1, r2)) :
    Calls Try.prog 71 #[.agg #[.slice A0 l0.length c0, .slice A1 l1.length c1]] w fun e w' => ∃ (n_ : Nat) (vp vb : Value), e = .returned (.agg #[vp, vb]) ∧ Kd.S (Kd.slice 3 (Kd.int .i64)) 45 w' w.heap.size (fun k_ => k_ < n_) vp r1 ∧ Kd.S k123 123 w' w.heap.size (fun k_ => n_ < k_) vb r2 ∧ Below w.heap.size w w' := by
  have hu32 := Try.underlying32
  have hu123 := Try.underlying123
  unfold impl_copyWeave.f at h
  replace h := Option.bind_eq_some_iff.mp h
  obtain ⟨ps, hps, h⟩ := h
  have HPS := Aside0.mk hps
  have HH := Aside0.mk h
  have HR0 := Aside0.mk hr0
  have HC0 := Aside0.mk hc0
  have HR1 := Aside0.mk hr1
  have HC1 := Aside0.mk hc1
  clear hr0 hc0 hr1 hc1 hps h
  go_enter Try.func71, Try.ntmps71
  go_upto_region 1 with (fail)
  have ha2 : ((w.alloc (.cells #[.slice A0 l0.length c0, .slice A1 l1.length c1] 32)).alloc (.cells #[.slice none 0 0, .slice none 0 0] 32)).heap[w.heap.size]? = some (.cells #[.slice A0 l0.length c0, .slice A1 l1.length c1] 32 (0, 0)) := blk_alloc (heap_alloc_new w _) _
  have hr2 : ((w.alloc (.cells #[.slice A0 l0.length c0, .slice A1 l1.length c1] 32)).alloc (.cells #[.slice none 0 0, .slice none 0 0] 32)).heap[w.heap.size + 1]? = some (.cells #[.slice none 0 0, .slice none 0 0] 32 (0, 0)) := by
    have e := heap_alloc_new (w.alloc (.cells #[.slice A0 l0.length c0, .slice A1 l1.length c1] 32)) (.cells #[.slice none 0 0, .slice none 0 0] 32)
    rwa [show (w.alloc (.cells #[.slice A0 l0.length c0, .slice A1 l1.length c1] 32)).heap.size = w.heap.size + 1 from by simp only [World.alloc, Array.size_push]] at e
  have hw2 : Below w.heap.size w ((w.alloc (.cells #[.slice A0 l0.length c0, .slice A1 l1.length c1] 32)).alloc (.cells #[.slice none 0 0, .slice none 0 0] 32)) := below_alloc (below_alloc (Below.refl _ _) _) _
  generalize (w.alloc (.cells #[.slice A0 l0.length c0, .slice A1 l1.length c1] 32)).alloc (.cells #[.slice none 0 0, .slice none 0 0] 32) = w2 at ha2 hr2 hw2 ⊢
  generalize hgq : w.heap.size = gA at ha2 hr2 ⊢
  generalize hgr : gA + 1 = gR at hr2 ⊢
  have HG := Aside0.mk (show w.heap.size ≤ gA ∧ w.heap.size ≤ gR ∧ gA < gR from ⟨by omega, by omega, by omega⟩)
  clear hgq hgr
  have HA2 := Aside0.mk ha2
  have HR2 := Aside0.mk hr2
  have HW2 := Aside0.mk hw2
  have q0 : w2.cell? ⟨gA, 0, none⟩ = some (.slice A0 l0.length c0) := (blk_cell ha2 0).trans rfl
  clear ha2 hr2 hw2
  go_upto_region 2 with (first | (go_at_call 116; (try simp only [i64_w]); (with_reducible refine (impl_copyGraph.calls k _ _ l0 ps _ ?side1 ?side2 HPS.out).mono ?_); (case side1 => exact Kd.C_below HR0.out HW2.out); (case side2 => exact HC0.out); rintro e w5 ⟨vp, rfl, hop, hbp⟩; obtain ⟨Ap, cp, rfl⟩ := Kd.S_slice hop; have HOP := Aside0.mk hop; have HBP := Aside0.mk hbp; clear hop hbp))
  have hv : Wv w (w5.alloc (.cells #[.slice Ap ps.length cp, .slice none 0 0] 32)) w5.heap.size (fun k_ => w5.heap.size < k_) (.slice Ap ps.length cp) (.slice none 0 0) ps [] := by
    have hb := below_alloc (Below.refl w5.heap.size w5) (.cells #[.slice Ap ps.length cp, .slice none 0 0] 32)
    refine ⟨below_step (below_step HW2.out HBP.out) hb, Nat.le_trans (below_size HW2.out) (Below.size HBP.out), heap_alloc_new w5 _, ?_, Kd.S_nil _ _ _ _ _, fun k_ hk => ?_⟩
    · exact Kd.S_mono (Kd.S_below (Kd.S_lower (Kd.S_bound HOP.out) (below_size HW2.out)) hb) (fun k_ hk => ⟨by have := hk.2.2.1; omega, by have := hk.2.2.1; omega⟩)
    · have : (w5.alloc (.cells #[.slice Ap ps.length cp, .slice none 0 0] 32)).heap.size = w5.heap.size + 1 := by simp only [World.alloc, Array.size_push]
      omega
  have HV := Aside0.mk hv
  have HB6 := Aside0.mk (below_step HBP.out (below_alloc (Below.refl w5.heap.size w5) (.cells #[.slice Ap ps.length cp, .slice none 0 0] 32)))
  have HRR := Aside0.mk (blk_below HR2.out HB6.out)
  have q6 : (w5.alloc (.cells #[.slice Ap ps.length cp, .slice none 0 0] 32)).cell? ⟨gA, 1, none⟩ = some (.slice A1 l1.length c1) := (blk_cell (blk_below HA2.out HB6.out) 1).trans rfl
  have HG3 := Aside0.mk (show gR < w5.heap.size from Nat.lt_of_lt_of_le (blk_lt HR2.out) (Below.size HBP.out))
  clear hv q0
  generalize w5.alloc (.cells #[.slice Ap ps.length cp, .slice none 0 0] 32) = w6 at HV HRR q6 HB6 ⊢
  generalize w5.heap.size = g3 at HV HG3 ⊢
  clear HB6 HOP HBP HA2 HR2 HR0 HC0 HPS
  go_wp2
  go_loopg [13] k (fun kq v13 w' => ∃ (bs : List S123) (vb : Value) (x : Int), v13 = .int .i64 x ∧ Aside0 (impl_copyWeave.l0 kq l1 (l1.length : Int) x ps bs = some (r1, r2)) ∧ Aside0 (kq ≤ k) ∧ Aside0 (Wv w w' g3 (fun k_ => g3 < k_) (.slice Ap ps.length cp) vb ps bs) ∧ Aside0 (w'.heap[gR]? = some (.cells #[.slice none 0 0, .slice none 0 0] 32 (0, 0))))
  case atStart => exact ⟨_, _, 0, rfl, HH, ⟨Nat.le_refl _⟩, HV, HRR⟩
  case round =>
    clear HH HV HRR q6
    obtain ⟨bs, vb, x, rfl, HA, HK1, HV, HRR⟩ := hrel
    cases gk with
    | zero => exact absurd HA.out (by simp [impl_copyWeave.l0])
    | succ k1 =>
      have H := HA.out
      clear HA
      simp only [impl_copyWeave.l0] at H
      by_cases c6 : x < (l1.length : Int)
      · rw [if_pos c6] at H
        have c6b : decide (x < (l1.length : Int)) = true := decide_eq_true c6
        by_cases c7 : 0 ≤ x
        case neg => rw [if_neg c7] at H; exact absurd H (by simp)
        rw [if_pos c7, if_pos c6] at H
        replace H := Option.bind_eq_some_iff.mp H
        obtain ⟨t, ht, H⟩ := H
        by_cases c8 : bs.length < 2513169434916
        case neg => rw [if_neg c8] at H; exact absurd H (by simp)
        rw [if_pos c8] at H
        have HH := Aside0.mk H
        have HT := Aside0.mk ht
        have HL8 := Aside0.mk c8
        obtain ⟨ad, A3, c3, ea, hx0, hx1, hx2, hx3, hl3, hi3⟩ := at_T123 (Kd.C_below HR1.out HV.out.b) x c7 c6
        cases ea
        replace c7 := eq_true c7
        replace c6 := eq_true c6
        have HL3 := Aside0.mk hl3
        have HI3 := Aside0.mk hi3
        clear ht H c8 hl3 hi3
        go_upto_region 5 with (fail)
        clear hx0 hx1 hx2 hx3
        have hb6 := heap_alloc_new wr (.cells #[.string (rd_T123 l1 x).f0, .int .i64 (rd_T123 l1 x).f1, .int .i64 (rd_T123 l1 x).f2, .slice A3 (rd_T123 l1 x).f3.length c3] 123)
        have be6 := below_alloc (Below.refl wr.heap.size wr) (.cells #[.string (rd_T123 l1 x).f0, .int .i64 (rd_T123 l1 x).f1, .int .i64 (rd_T123 l1 x).f2, .slice A3 (rd_T123 l1 x).f3.length c3] 123)
        generalize wr.alloc (.cells #[.string (rd_T123 l1 x).f0, .int .i64 (rd_T123 l1 x).f1, .int .i64 (rd_T123 l1 x).f2, .slice A3 (rd_T123 l1 x).f3.length c3] 123) = w6 at hb6 be6 ⊢
        generalize hgrq : wr.heap.size = gr at hb6 ⊢
        have hgr : wr.heap.size ≤ gr := Nat.le_of_eq hgrq
        have k3 : w6.cell? ⟨gr, 3, none⟩ = some (.slice A3 (rd_T123 l1 x).f3.length c3) := (blk_cell hb6 3).trans rfl
        have HBE6 := Aside0.mk be6
        have HBK6 := Aside0.mk hb6
        have HGR := Aside0.mk hgr
        have HV6 := Aside0.mk (HV.out.below be6)
        clear hb6 be6 hgrq hgr
        have HCX := Aside0.mk (slices_Clone_int_int.calls A3 c3 (rd_T123 l1 x).f3 t w6 (Kd.C_below HI3.out HBE6.out) HL3.out HT.out)
        go_upto_region 6 with (first | (go_at_call 117; refine HCX.out.mono ?_; clear HCX; rintro e w7 ⟨vc, rfl, hoc, hbc⟩; obtain ⟨Ac, cc, rfl⟩ := Kd.R_slice hoc; have HOC := Aside0.mk hoc; have HBC := Aside0.mk hbc; have HBK7 := Aside0.mk (blk_below HBK6.out hbc); have k37 : w7.cell? ⟨gr, 3, none⟩ = some (.slice A3 (rd_T123 l1 x).f3.length c3) := (blk_cell HBK7.out 3).trans rfl; have f37 := blk_frozen HBK7.out 3; clear hoc hbc))
        have HGB := Aside0.mk (Kd.R_base HOC.out)
        have be8 : Below wr.heap.size wr (w7.setCell ⟨gr, 3, none⟩ (.slice Ac t.length cc)) := below_set (below_step HBE6.out HBC.out) HGR.out
        have hb8 : (w7.setCell ⟨gr, 3, none⟩ (.slice Ac t.length cc)).heap[gr]? = some (.cells #[.string (rd_T123 l1 x).f0, .int .i64 (rd_T123 l1 x).f1, .int .i64 (rd_T123 l1 x).f2, .slice Ac t.length cc] 123 (0, 0)) := by simpa using blk_set HBK7.out 3 (.slice Ac t.length cc)
        have ho8 : Kd.R (Kd.int .i64) 3 (w7.setCell ⟨gr, 3, none⟩ (.slice Ac t.length cc)) w6.heap.size (fun _ => True) (.slice Ac t.length cc) t := f1R_ HOC HBK7
        generalize w7.setCell ⟨gr, 3, none⟩ (.slice Ac t.length cc) = w8 at be8 hb8 ho8 ⊢
        have HV8 := Aside0.mk (HV.out.below be8)
        have HRR8 := Aside0.mk (blk_below HRR.out be8)
        have k80 : w8.cell? ⟨gr, 0, none⟩ = some (.string (rd_T123 l1 x).f0) := (blk_cell hb8 0).trans rfl
        have k81 : w8.cell? ⟨gr, 1, none⟩ = some (.int .i64 (rd_T123 l1 x).f1) := (blk_cell hb8 1).trans rfl
        have k82 : w8.cell? ⟨gr, 2, none⟩ = some (.int .i64 (rd_T123 l1 x).f2) := (blk_cell hb8 2).trans rfl
        have k83 : w8.cell? ⟨gr, 3, none⟩ = some (.slice Ac t.length cc) := (blk_cell hb8 3).trans rfl
        have q8 : w8.cell? ⟨g3, 1, none⟩ = some vb := HV8.out.cells.2
        have HB8 := Aside0.mk be8
        have HO8 := Aside0.mk ho8
        have HBK8 := Aside0.mk hb8
        have HS6 := Aside0.mk (Below.size HBE6.out)
        clear be8 hb8 ho8 HOC HBC HBK7 k3 k37 f37 HBK6 HV6 HBE6
        obtain ⟨Ab, cb, eb⟩ := Kd.S_slice HV.out.sb
        subst eb
        go_wp2_with (first | ((with_reducible refine gate_builtin (b := .append) (xs := #[.tmp 22, .tmp 24]) rfl ?_); at_builtin; refine Kd.S_append (W := w8) k123 (w0 := w) w.heap.size rfl (.tmp 22) (.tmp 24) 30 123 (.agg #[(.string ⟨#[]⟩), (.int .i64 0), (.int .i64 0), (.slice none 0 0)]) 56 rfl Try.underlying30 info123 rfl (by decide) (by omega) (.slice Ab bs.length cb) bs (⟨(rd_T123 l1 x).f0, (rd_T123 l1 x).f1, (rd_T123 l1 x).f2, t⟩ : S123) [.string (rd_T123 l1 x).f0, .int .i64 (rd_T123 l1 x).f1, .int .i64 (rd_T123 l1 x).f2, .slice Ac t.length cc] (fun k_ => k_ ≠ g3 ∧ g3 < k_) (fun k_ => some k_ = (Value.slice Ac t.length cc).ownBlock) rfl rfl ?aP ?aK ?aF ?aO ?aB ?aS ?aL ?_; (case aP => exact k123_mkM _ _ _ (⟨(rd_T123 l1 x).f0, (rd_T123 l1 x).f1, (rd_T123 l1 x).f2, t⟩ : S123) (Kd.R_of_own (Kd.own_of_R (Kd.R_lower HO8.out (Nat.le_trans (below_size HV.out.b) HS6.out))) (fun _ hk => hk.symm))); (case aK => exact fun k_ hk => ⟨HV.out.newer' (Nat.le_trans HS6.out (HGB.out k_ hk.symm)), fun e => by have := Kd.S_lt HV.out.sb k_ e.symm; have := HS6.out; have := HGB.out k_ hk.symm; omega⟩); (case aF => exact fun k_ hk => HV8.out.newer' hk); (case aO => exact Kd.S_mono (Kd.S_below (Kd.S_bound HV.out.sb) HB8.out) (fun k_ hk => ⟨hk.1, fun e => by have := hk.2.2.1; have := HS6.out; have := HGB.out k_ e.symm; omega⟩)); (case aB => exact HV8.out.b); (case aS => exact below_size HV8.out.b); (case aL => have := HL8.out; omega); intro vb1 wC ho hB hg hat; obtain ⟨Ab1, cb1, e1⟩ := Kd.S_slice ho; rw [List.length_append, List.length_cons, List.length_nil, Nat.zero_add] at e1; subst e1; have HV9 := Aside0.mk (HV8.out.bodies hg ho); have hg3 := blk_grown HV8.out.h hg HV8.out.off; have qC : wC.cell? ⟨g3, 1, none⟩ = some (.slice Ab bs.length cb) := (blk_cell hg3 1).trans rfl; have fC := blk_frozen hg3 1; have HRC := Aside0.mk (blk_grown HRR8.out hg (fun e => by have := ((Kd.S_R HV8.out.sb).1 gR e.symm).2; have := HG3.out; omega)); clear ho hB hg hat hg3))
        go_roundg k1
        case measure => have := HK1.out; omega
        case rel => exact ⟨_, _, wrap64 (x + 1), (by first | rfl | (simp; done) | (simp [*]; done)), HH, ⟨by have := HK1.out; omega⟩, HV9, ⟨blk_far (p := ⟨g3, 1, none⟩) HRC.out (by have := HG3.out; show gR ≠ g3; omega) _⟩⟩
      · rw [if_neg c6] at H
        have c6b : decide (x < (l1.length : Int)) = false := decide_eq_false c6
        simp only [Option.some.injEq, Prod.mk.injEq] at H
        obtain ⟨rfl, rfl⟩ := H
        obtain ⟨Ab, cb, eb⟩ := Kd.S_slice HV.out.sb
        subst eb
        have z0 : wr.cell? ⟨gR, 0, none⟩ = some (.slice none 0 0) := (blk_cell HRR.out 0).trans rfl
        have z1 : wr.cell? ⟨gR, 1, none⟩ = some (.slice none 0 0) := (blk_cell HRR.out 1).trans rfl
        have f0 := blk_frozen HRR.out 0
        have f1 := blk_frozen HRR.out 1
        obtain ⟨q0, q1⟩ := HV.out.cells
        have hne : g3 ≠ gR := by have := HG3.out; omega
        have hne' := hne.symm
        go_wp2
        refine bodyPost_ret (results_cell_row rfl _ _ gR 32 #[.slice Ap ps.length cp, .slice Ab bs.length cb] (0, 0) _ rfl (blk_put (cs := #[.slice Ap ps.length cp, .slice none 0 0]) (blk_put (cs := #[.slice none 0 0, .slice none 0 0]) HRR.out 0 _ rfl) 1 _ rfl) Try.underlying32 rfl (by kernel_rfl)) rfl ?_
        refine ⟨g3, _, _, rfl, ?_, ?_, below_set (below_set HV.out.b HG.out.2.1) HG.out.2.1⟩
        · exact Kd.S_mono (Kd.S_far (p := ⟨gR, 1, none⟩) (Kd.S_far (p := ⟨gR, 0, none⟩) (Kd.S_types HV.out.sp HRR.out (by decide)) (fun _ hk => hk.2) _) (fun _ hk => hk.2) _) (fun k_ hk => by have := hk.1; omega)
        · exact Kd.S_mono (Kd.S_far (p := ⟨gR, 1, none⟩) (Kd.S_far (p := ⟨gR, 0, none⟩) (Kd.S_types HV.out.sb HRR.out (by decide)) (fun _ hk => hk.2) _) (fun _ hk => hk.2) _) (fun k_ hk => hk.1.2)

/-! ### impl_AddVersion: function 25 -/
theorem nil_put {W : World} {g : Nat} (h : W.heap[g]? = some (.cells #[.slice none 0 0, .slice none 0 0] 32 (0, 0))) : ((W.setCell ⟨g, 0, none⟩ (.slice none 0 0)).setCell ⟨g, 1, none⟩ (.slice none 0 0)).heap[g]? = some (.cells #[.slice none 0 0, .slice none 0 0] 32 (0, 0)) :=
  blk_put (cs := #[.slice none 0 0, .slice none 0 0]) (blk_put (cs := #[.slice none 0 0, .slice none 0 0]) h 0 _ rfl) 1 _ rfl
def impl_AddVersion.f (k : Nat) (ps : List (List Int)) (bs : List S123) (parents : List Int) (lines : List ByteArray) : Option (List (List Int) × List S123 × Int × Int) :=
  (impl_WeaveOk.f k ps bs).bind fun o => if o = true then (impl_addCode.f k ps bs parents lines).bind fun c => if c = 0 then (impl_copyWeave.f k ps bs).bind fun p => (impl_Weave_add.f k p.1 p.2 parents lines).bind fun q => if q.2.2 = true then some (q.1, q.2.1, (ps.length : Int), 0) else some ([], [], 0, 4) else some ([], [], 0, c) else some ([], [], 0, 1)
theorem impl_AddVersion.mono : ∀ ps bs parents lines k, LeO (impl_AddVersion.f k ps bs parents lines) (impl_AddVersion.f (k + 1) ps bs parents lines) := by
  intro ps bs parents lines k
  unfold impl_AddVersion.f
  repeat' first
    | (with_reducible exact impl_WeaveOk.mono _ _ _)
    | (with_reducible exact impl_addCode.mono _ _ _ _ _)
    | (with_reducible exact impl_copyWeave.mono _ _ _)
    | (with_reducible exact impl_Weave_add.mono _ _ _ _ _)
    | (with_reducible exact LeO.refl _)
    | (with_reducible refine LeO.ite ?_ ?_)
    | (with_reducible refine LeO.bind ?_ (fun _ => ?_))
set_option maxHeartbeats 8000000 in
set_option maxRecDepth 100000 in
theorem impl_AddVersion.calls_ap (k : Nat) (A0 : Option Addr) (c0 : Nat) (ps : List (List Int)) (A1 : Option Addr) (c1 : Nat) (bs : List S123) (A2 : Option Addr) (c2 : Nat) (parents : List Int) (A3 : Option Addr) (c3 : Nat) (lines : List ByteArray) (r1 : List (List Int)) (r2 : List S123) (r3 r4 : Int) (w : World) (hr0 : Kd.C (Kd.slice 3 (Kd.int .i64)) w A0 ps.length ps) (hc0 : ps.length ≤ c0) (hr1 : Kd.C k123 w A1 bs.length bs) (hc1 : bs.length ≤ c1) (hr2 : Kd.C (Kd.int .i64) w A2 parents.length parents) (hc2 : parents.length ≤ c2) (hr3 : Kd.C Kd.string w A3 lines.length lines) (hc3 : lines.length ≤ c3) (h : impl_AddVersion.f k ps bs parents lines = some (r1, r2, r3, r4)) :
    Calls Try.prog 25 #[.agg #[.slice A0 ps.length c0, .slice A1 bs.length c1], .slice A2 parents.length c2, .slice A3 lines.length c3] w fun e w' => ∃ (P_ : Nat → Prop) (vp vb : Value), e = .returned (.tuple #[.agg #[vp, vb], .int .i64 r3, .int .i64 r4]) ∧ Kd.S (Kd.slice 3 (Kd.int .i64)) 45 w' w.heap.size (fun k_ => ¬ P_ k_) vp r1 ∧ Kd.S k123 123 w' w.heap.size P_ vb r2 ∧ Below w.heap.size w w' := by
  have hu32 := Try.underlying32
  have hu123 := Try.underlying123
  unfold impl_AddVersion.f at h
  replace h := Option.bind_eq_some_iff.mp h
  obtain ⟨o, ho, h⟩ := h
  have HO := Aside0.mk ho
  have HH := Aside0.mk h
  have HR0 := Aside0.mk hr0
  have HC0 := Aside0.mk hc0
  have HR1 := Aside0.mk hr1
  have HC1 := Aside0.mk hc1
  have HR2 := Aside0.mk hr2
  have HC2 := Aside0.mk hc2
  have HR3 := Aside0.mk hr3
  have HC3 := Aside0.mk hc3
  clear hr0 hc0 hr1 hc1 hr2 hc2 hr3 hc3 ho h
  go_enter Try.func25, Try.ntmps25
  go_upto_region 1 with (fail)
  have ha2 : ((w.alloc (.cells #[.slice A0 ps.length c0, .slice A1 bs.length c1] 32)).alloc (.cells #[.slice none 0 0, .slice none 0 0] 32)).heap[w.heap.size]? = some (.cells #[.slice A0 ps.length c0, .slice A1 bs.length c1] 32 (0, 0)) := blk_alloc (heap_alloc_new w _) _
  have hr2 : ((w.alloc (.cells #[.slice A0 ps.length c0, .slice A1 bs.length c1] 32)).alloc (.cells #[.slice none 0 0, .slice none 0 0] 32)).heap[w.heap.size + 1]? = some (.cells #[.slice none 0 0, .slice none 0 0] 32 (0, 0)) := by
    have e := heap_alloc_new (w.alloc (.cells #[.slice A0 ps.length c0, .slice A1 bs.length c1] 32)) (.cells #[.slice none 0 0, .slice none 0 0] 32)
    rwa [show (w.alloc (.cells #[.slice A0 ps.length c0, .slice A1 bs.length c1] 32)).heap.size = w.heap.size + 1 from by simp only [World.alloc, Array.size_push]] at e
  have hw2 : Below w.heap.size w ((w.alloc (.cells #[.slice A0 ps.length c0, .slice A1 bs.length c1] 32)).alloc (.cells #[.slice none 0 0, .slice none 0 0] 32)) := below_alloc (below_alloc (Below.refl _ _) _) _
  generalize (w.alloc (.cells #[.slice A0 ps.length c0, .slice A1 bs.length c1] 32)).alloc (.cells #[.slice none 0 0, .slice none 0 0] 32) = w2 at ha2 hr2 hw2 ⊢
  generalize hgq : w.heap.size = gA at ha2 hr2 ⊢
  generalize hgr : gA + 1 = gR at hr2 ⊢
  have HG := Aside0.mk (show w.heap.size ≤ gA ∧ w.heap.size ≤ gR ∧ gA < gR from ⟨by omega, by omega, by omega⟩)
  have HA2 := Aside0.mk ha2
  have HRR := Aside0.mk hr2
  have HW2 := Aside0.mk hw2
  have q0 : w2.cell? ⟨gA, 0, none⟩ = some (.slice A0 ps.length c0) := (blk_cell ha2 0).trans rfl
  have q1 : w2.cell? ⟨gA, 1, none⟩ = some (.slice A1 bs.length c1) := (blk_cell ha2 1).trans rfl
  have z0 : w2.cell? ⟨gR, 0, none⟩ = some (.slice none 0 0) := (blk_cell hr2 0).trans rfl
  have z1 : w2.cell? ⟨gR, 1, none⟩ = some (.slice none 0 0) := (blk_cell hr2 1).trans rfl
  have f0 := blk_frozen hr2 0
  have f1 := blk_frozen hr2 1
  have HCX := Aside0.mk (impl_WeaveOk.calls k A0 c0 ps A1 c1 bs o w2 (Kd.C_below HR0.out hw2) HC0.out (Kd.C_below HR1.out hw2) HC1.out HO.out)
  clear hgq hgr ha2 hr2 hw2
  cases o with
  | false =>
    have H := HH.out
    rw [if_neg (by decide)] at H
    simp only [Option.some.injEq, Prod.mk.injEq] at H
    obtain ⟨rfl, rfl, rfl, rfl⟩ := H
    go_wp2_with (first | (go_at_call 37; refine HCX.out.mono ?_; clear HCX; rintro e w3 ⟨rfl, hb⟩; have HBX := Aside0.mk hb; have HA_w3 := Aside0.mk (blk_below HA2.out HBX.out); have HR_w3 := Aside0.mk (blk_below HRR.out HBX.out); have q0_w3 : w3.cell? ⟨gA, 0, none⟩ = some (.slice A0 ps.length c0) := (blk_cell HA_w3.out 0).trans rfl; have q1_w3 : w3.cell? ⟨gA, 1, none⟩ = some (.slice A1 bs.length c1) := (blk_cell HA_w3.out 1).trans rfl; have z0_w3 : w3.cell? ⟨gR, 0, none⟩ = some (.slice none 0 0) := (blk_cell HR_w3.out 0).trans rfl; have z1_w3 : w3.cell? ⟨gR, 1, none⟩ = some (.slice none 0 0) := (blk_cell HR_w3.out 1).trans rfl; have f0_w3 := blk_frozen HR_w3.out 0; have f1_w3 := blk_frozen HR_w3.out 1; clear hb))
    refine bodyPost_ret (results_ctt rfl _ _ gR 32 #[.slice none 0 0, .slice none 0 0] (0, 0) _ rfl (nil_put HR_w3.out) hu32 rfl (by kernel_rfl)) rfl ?_
    exact ⟨fun _ => True, _, _, rfl, Kd.S_nil _ _ _ _ _, Kd.S_nil _ _ _ _ _, below_set (below_set (below_step HW2.out HBX.out) HG.out.2.1) HG.out.2.1⟩
  | true =>
    have H := HH.out
    clear HH
    rw [if_pos rfl] at H
    replace H := Option.bind_eq_some_iff.mp H
    obtain ⟨c, hc, H⟩ := H
    have HC := Aside0.mk hc
    have HH := Aside0.mk H
    clear hc H
    go_upto_region 3 with (first | (go_at_call 37; refine HCX.out.mono ?_; clear HCX; rintro e w3 ⟨rfl, hb⟩; have HBX := Aside0.mk hb; have HA_w3 := Aside0.mk (blk_below HA2.out HBX.out); have HR_w3 := Aside0.mk (blk_below HRR.out HBX.out); have q0_w3 : w3.cell? ⟨gA, 0, none⟩ = some (.slice A0 ps.length c0) := (blk_cell HA_w3.out 0).trans rfl; have q1_w3 : w3.cell? ⟨gA, 1, none⟩ = some (.slice A1 bs.length c1) := (blk_cell HA_w3.out 1).trans rfl; have z0_w3 : w3.cell? ⟨gR, 0, none⟩ = some (.slice none 0 0) := (blk_cell HR_w3.out 0).trans rfl; have z1_w3 : w3.cell? ⟨gR, 1, none⟩ = some (.slice none 0 0) := (blk_cell HR_w3.out 1).trans rfl; have f0_w3 := blk_frozen HR_w3.out 0; have f1_w3 := blk_frozen HR_w3.out 1; clear hb))
    have HB3 := HBX
    clear HBX q0 q1 z0 z1 f0 f1
    have HCX := Aside0.mk (impl_addCode.calls k A0 c0 ps A1 c1 bs A2 c2 parents A3 c3 lines c w3 (Kd.C_below HR0.out (below_step HW2.out HB3.out)) HC0.out (Kd.C_below HR1.out (below_step HW2.out HB3.out)) HC1.out (Kd.C_below HR2.out (below_step HW2.out HB3.out)) HC2.out (Kd.C_below HR3.out (below_step HW2.out HB3.out)) HC3.out HC.out)
    by_cases cc : c = 0
    case neg =>
      have H := HH.out
      rw [if_neg cc] at H
      simp only [Option.some.injEq, Prod.mk.injEq] at H
      obtain ⟨rfl, rfl, rfl, rfl⟩ := H
      have ccb : (c != 0) = true := by simpa using cc
      go_wp2_with (first | (go_at_call 70; refine HCX.out.mono ?_; clear HCX; rintro e w4 ⟨rfl, hb⟩; have HBX := Aside0.mk (below_step HB3.out hb); have HA_w4 := Aside0.mk (blk_below HA2.out HBX.out); have HR_w4 := Aside0.mk (blk_below HRR.out HBX.out); have q0_w4 : w4.cell? ⟨gA, 0, none⟩ = some (.slice A0 ps.length c0) := (blk_cell HA_w4.out 0).trans rfl; have q1_w4 : w4.cell? ⟨gA, 1, none⟩ = some (.slice A1 bs.length c1) := (blk_cell HA_w4.out 1).trans rfl; have z0_w4 : w4.cell? ⟨gR, 0, none⟩ = some (.slice none 0 0) := (blk_cell HR_w4.out 0).trans rfl; have z1_w4 : w4.cell? ⟨gR, 1, none⟩ = some (.slice none 0 0) := (blk_cell HR_w4.out 1).trans rfl; have f0_w4 := blk_frozen HR_w4.out 0; have f1_w4 := blk_frozen HR_w4.out 1; clear hb q0_w3 q1_w3 z0_w3 z1_w3 f0_w3 f1_w3))
      refine bodyPost_ret (results_ctt rfl _ _ gR 32 #[.slice none 0 0, .slice none 0 0] (0, 0) _ rfl (nil_put HR_w4.out) hu32 rfl (by kernel_rfl)) rfl ?_
      exact ⟨fun _ => True, _, _, rfl, Kd.S_nil _ _ _ _ _, Kd.S_nil _ _ _ _ _, below_set (below_set (below_step HW2.out HBX.out) HG.out.2.1) HG.out.2.1⟩
    subst cc
    have H := HH.out
    clear HH
    rw [if_pos rfl] at H
    replace H := Option.bind_eq_some_iff.mp H
    obtain ⟨⟨p1, p2⟩, hp, H⟩ := H
    replace H := Option.bind_eq_some_iff.mp H
    obtain ⟨⟨a1, a2, a3⟩, ha, H⟩ := H
    have HP := Aside0.mk hp
    have HADD := Aside0.mk ha
    have HH := Aside0.mk H
    clear hp ha H
    go_upto_region 6 with (first | (go_at_call 70; refine HCX.out.mono ?_; clear HCX; rintro e w4 ⟨rfl, hb⟩; have HBX := Aside0.mk (below_step HB3.out hb); have HA_w4 := Aside0.mk (blk_below HA2.out HBX.out); have HR_w4 := Aside0.mk (blk_below HRR.out HBX.out); have q0_w4 : w4.cell? ⟨gA, 0, none⟩ = some (.slice A0 ps.length c0) := (blk_cell HA_w4.out 0).trans rfl; have q1_w4 : w4.cell? ⟨gA, 1, none⟩ = some (.slice A1 bs.length c1) := (blk_cell HA_w4.out 1).trans rfl; have z0_w4 : w4.cell? ⟨gR, 0, none⟩ = some (.slice none 0 0) := (blk_cell HR_w4.out 0).trans rfl; have z1_w4 : w4.cell? ⟨gR, 1, none⟩ = some (.slice none 0 0) := (blk_cell HR_w4.out 1).trans rfl; have f0_w4 := blk_frozen HR_w4.out 0; have f1_w4 := blk_frozen HR_w4.out 1; clear hb q0_w3 q1_w3 z0_w3 z1_w3 f0_w3 f1_w3))
    have HB4 := HBX
    clear HBX HA_w3 HR_w3 HB3
    have HCX := Aside0.mk (impl_copyWeave.calls_ap k A0 c0 ps A1 c1 bs p1 p2 w4 (Kd.C_below HR0.out (below_step HW2.out HB4.out)) HC0.out (Kd.C_below HR1.out (below_step HW2.out HB4.out)) HC1.out HP.out)
    go_upto_region 7 with (first | (go_at_call 71; refine HCX.out.mono ?_; clear HCX; rintro e w5 ⟨n5, vp, vb, rfl, hsp, hsb, hb⟩; obtain ⟨Ap, cp, rfl⟩ := Kd.S_slice hsp; obtain ⟨Ab, cb, rfl⟩ := Kd.S_slice hsb; have HSP := Aside0.mk hsp; have HSB := Aside0.mk hsb; have HB5 := Aside0.mk hb; clear hb hsp hsb))
    have hb6 := below_alloc (Below.refl w5.heap.size w5) (.cells #[.slice Ap p1.length cp, .slice Ab p2.length cb] 32)
    have hv : Wv w2 (w5.alloc (.cells #[.slice Ap p1.length cp, .slice Ab p2.length cb] 32)) w5.heap.size (fun k_ => (n5 < k_ ∧ k_ < w5.heap.size) ∨ w5.heap.size < k_) (.slice Ap p1.length cp) (.slice Ab p2.length cb) p1 p2 := by
      have h42 := below_size HB4.out
      refine ⟨below_step (below_step HB4.out HB5.out) hb6, Nat.le_trans h42 (Below.size HB5.out), heap_alloc_new w5 _, ?_, ?_, fun k_ hk => ?_⟩
      · exact Kd.S_mono (Kd.S_below (Kd.S_lower (Kd.S_bound HSP.out) h42) hb6) (fun k_ hk => ⟨by have := hk.2.2.1; omega, by have := hk.1; have := hk.2.2.1; omega⟩)
      · exact Kd.S_mono (Kd.S_below (Kd.S_lower (Kd.S_bound HSB.out) h42) hb6) (fun k_ hk => ⟨by have := hk.2.2.1; omega, .inl ⟨hk.1, hk.2.2.1⟩⟩)
      · have : (w5.alloc (.cells #[.slice Ap p1.length cp, .slice Ab p2.length cb] 32)).heap.size = w5.heap.size + 1 := by simp only [World.alloc, Array.size_push]
        omega
    have HCX := Aside0.mk (impl_Weave_add.calls k w2 (w5.alloc (.cells #[.slice Ap p1.length cp, .slice Ab p2.length cb] 32)) w5.heap.size _ _ _ p1 p2 A2 c2 parents A3 c3 lines a1 a2 a3 hv (Kd.C_below HR2.out HW2.out) HC2.out (Kd.C_below HR3.out HW2.out) HC3.out HADD.out)
    generalize hOq : w5.heap.size = gO at HCX ⊢
    have HGO := Aside0.mk (show gR < gO from by have := Nat.lt_of_lt_of_le (blk_lt HR_w4.out) (Below.size HB5.out); omega)
    generalize w5.alloc (.cells #[.slice Ap p1.length cp, .slice Ab p2.length cb] 32) = w6 at HCX ⊢
    clear hv hb6 hOq HB5 HSP HSB HB4 HA_w4 HR_w4 q0_w4 q1_w4 z0_w4 z1_w4 f0_w4 f1_w4
    cases a3 with
    | false =>
      have H := HH.out
      rw [if_neg (by decide)] at H
      simp only [Option.some.injEq, Prod.mk.injEq] at H
      obtain ⟨rfl, rfl, rfl, rfl⟩ := H
      go_wp2_with (first | (go_at_call 72; refine HCX.out.mono ?_; clear HCX; rintro e w7 ⟨P7, vp7, vb7, rfl, hv7⟩; have HBX := Aside0.mk hv7.b; have HA_w7 := Aside0.mk (blk_below HA2.out HBX.out); have HR_w7 := Aside0.mk (blk_below HRR.out HBX.out); have q0_w7 : w7.cell? ⟨gA, 0, none⟩ = some (.slice A0 ps.length c0) := (blk_cell HA_w7.out 0).trans rfl; have q1_w7 : w7.cell? ⟨gA, 1, none⟩ = some (.slice A1 bs.length c1) := (blk_cell HA_w7.out 1).trans rfl; have z0_w7 : w7.cell? ⟨gR, 0, none⟩ = some (.slice none 0 0) := (blk_cell HR_w7.out 0).trans rfl; have z1_w7 : w7.cell? ⟨gR, 1, none⟩ = some (.slice none 0 0) := (blk_cell HR_w7.out 1).trans rfl; have f0_w7 := blk_frozen HR_w7.out 0; have f1_w7 := blk_frozen HR_w7.out 1))
      refine bodyPost_ret (results_ctt rfl _ _ gR 32 #[.slice none 0 0, .slice none 0 0] (0, 0) _ rfl (nil_put HR_w7.out) hu32 rfl (by kernel_rfl)) rfl ?_
      exact ⟨fun _ => True, _, _, rfl, Kd.S_nil _ _ _ _ _, Kd.S_nil _ _ _ _ _, below_set (below_set (below_step HW2.out HBX.out) HG.out.2.1) HG.out.2.1⟩
    | true =>
      have H := HH.out
      rw [if_pos rfl] at H
      simp only [Option.some.injEq, Prod.mk.injEq] at H
      obtain ⟨rfl, rfl, rfl, rfl⟩ := H
      go_upto_region 9 with (first | (go_at_call 72; refine HCX.out.mono ?_; clear HCX; rintro e w7 ⟨P7, vp7, vb7, rfl, hv7⟩; obtain ⟨Ap7, cp7, rfl⟩ := Kd.S_slice hv7.sp; obtain ⟨Ab7, cb7, rfl⟩ := Kd.S_slice hv7.sb; have HBX := Aside0.mk hv7.b; have HA_w7 := Aside0.mk (blk_below HA2.out HBX.out); have HR_w7 := Aside0.mk (blk_below HRR.out HBX.out); have q0_w7 : w7.cell? ⟨gA, 0, none⟩ = some (.slice A0 ps.length c0) := (blk_cell HA_w7.out 0).trans rfl; have q1_w7 : w7.cell? ⟨gA, 1, none⟩ = some (.slice A1 bs.length c1) := (blk_cell HA_w7.out 1).trans rfl; have z0_w7 : w7.cell? ⟨gR, 0, none⟩ = some (.slice none 0 0) := (blk_cell HR_w7.out 0).trans rfl; have z1_w7 : w7.cell? ⟨gR, 1, none⟩ = some (.slice none 0 0) := (blk_cell HR_w7.out 1).trans rfl; have f0_w7 := blk_frozen HR_w7.out 0; have f1_w7 := blk_frozen HR_w7.out 1; have HV7 := Aside0.mk hv7; clear hv7))
      obtain ⟨k70, k71⟩ := HV7.out.cells
      have K7 := Aside0.mk (show w7.drew.cell? ⟨gO, 0, none⟩ = some (.slice Ap7 a1.length cp7) ∧ w7.drew.cell? ⟨gO, 1, none⟩ = some (.slice Ab7 a2.length cb7) ∧ w7.drew.cell? ⟨gA, 0, none⟩ = some (.slice A0 ps.length c0) from ⟨k70, k71, q0_w7⟩)
      have hAR : gA ≠ gR := by have := HG.out; omega
      have hOR : gO ≠ gR := by have := HGO.out; omega
      have KD := Aside0.mk (show ((w7.drew.setCell ⟨gR, 0, none⟩ (.slice Ap7 a1.length cp7)).setCell ⟨gR, 1, none⟩ (.slice Ab7 a2.length cb7)).cell? ⟨gO, 0, none⟩ = some (.slice Ap7 a1.length cp7) ∧ ((w7.drew.setCell ⟨gR, 0, none⟩ (.slice Ap7 a1.length cp7)).setCell ⟨gR, 1, none⟩ (.slice Ab7 a2.length cb7)).cell? ⟨gO, 1, none⟩ = some (.slice Ab7 a2.length cb7) ∧ ((w7.drew.setCell ⟨gR, 0, none⟩ (.slice Ap7 a1.length cp7)).setCell ⟨gR, 1, none⟩ (.slice Ab7 a2.length cb7)).cell? ⟨gA, 0, none⟩ = some (.slice A0 ps.length c0) from ⟨(cell_far (p := ⟨gR, 1, none⟩) hOR _).trans ((cell_far (p := ⟨gR, 0, none⟩) hOR _).trans K7.out.1), (cell_far (p := ⟨gR, 1, none⟩) hOR _).trans ((cell_far (p := ⟨gR, 0, none⟩) hOR _).trans K7.out.2.1), (cell_far (p := ⟨gR, 1, none⟩) hAR _).trans ((cell_far (p := ⟨gR, 0, none⟩) hAR _).trans K7.out.2.2)⟩)
      refine wp_region_noPanic ?_
      refine wp_region_held_drew (S := (fun W' => W'.cell? ⟨gO, 0, none⟩ = some (.slice Ap7 a1.length cp7) ∧ W'.cell? ⟨gO, 1, none⟩ = some (.slice Ab7 a2.length cb7) ∧ W'.cell? ⟨gA, 0, none⟩ = some (.slice A0 ps.length c0))) (by kernel_rfl) (by (try dsimp only); (first | exact K7.out | exact KD.out)) (fun hHeld => ?_)
      (refine wpAnyH_take (i := 0) (oi := _) (v := ?_) rfl (by kernel_rfl) (by kernel_rfl) (by kernel_rfl) (fun _ _ _ h => h) (Or.inl ⟨by rfl, ?_⟩) (by assumption) ?_; rotate_left; (· (intro w hSw; (try dsimp only at hSw); go_simp; try with_reducible rfl)); (try simp only [Act.put, List.setIfInBounds_toArray, List.set_cons_zero, List.set_cons_succ]))
      (refine wpAnyH_take (i := 1) (oi := _) (v := ?_) rfl (by kernel_rfl) (by kernel_rfl) (by kernel_rfl) (fun _ _ _ h => h) (Or.inl ⟨by rfl, ?_⟩) (by assumption) ?_; rotate_left; (· (intro w hSw; (try dsimp only at hSw); go_simp; try with_reducible rfl)); (try simp only [Act.put, List.setIfInBounds_toArray, List.set_cons_zero, List.set_cons_succ]))
      (refine wpAnyH_take (i := 2) (oi := _) (v := ?_) rfl (by kernel_rfl) (by kernel_rfl) (by kernel_rfl) (fun _ _ _ h => h) (Or.inl ⟨by rfl, ?_⟩) (by assumption) ?_; rotate_left; (· (intro w hSw; (try dsimp only at hSw); go_simp; try with_reducible rfl)); (try simp only [Act.put, List.setIfInBounds_toArray, List.set_cons_zero, List.set_cons_succ]))
      (refine wpAnyH_take (i := 3) (oi := _) (v := ?_) rfl (by kernel_rfl) (by kernel_rfl) (by kernel_rfl) (fun _ _ _ h => h) (Or.inl ⟨by rfl, ?_⟩) (by assumption) ?_; rotate_left; (· (intro w hSw; (try dsimp only at hSw); go_simp; try with_reducible rfl)); (try simp only [Act.put, List.setIfInBounds_toArray, List.set_cons_zero, List.set_cons_succ]))
      all_goals (refine wpAnyH_ready (rs := [4]) (by decide +kernel) (by simp) ?_; refine AllReadyH.cons (o := _) rfl (fun K hK => ?_) AllReadyH.nil)
      all_goals (go_simp; refine hK.out _ _ (by (try dsimp only); (first | exact K7.out | exact KD.out)) (fun hHeld => ?_); clear hK K; (try simp only [Act.put, List.setIfInBounds_toArray, List.set_cons_zero, List.set_cons_succ]))
      all_goals (refine wpAnyH_ready (rs := [5]) (by decide +kernel) (by simp) ?_; refine AllReadyH.cons (o := _) rfl (fun K hK => ?_) AllReadyH.nil)
      all_goals (go_simp; refine hK.out _ _ (by (try dsimp only); (first | exact K7.out | exact KD.out)) (fun hHeld => ?_); clear hK K; (try simp only [Act.put, List.setIfInBounds_toArray, List.set_cons_zero, List.set_cons_succ]))
      all_goals (refine wpAnyH_ready (rs := [6]) (by decide +kernel) (by simp) ?_; refine AllReadyH.cons (o := _) rfl (fun K hK => ?_) AllReadyH.nil)
      all_goals (go_simp; refine hK.out _ _ (by (try dsimp only); (first | exact K7.out | exact KD.out)) (fun hHeld => ?_); clear hK K; (try simp only [Act.put, List.setIfInBounds_toArray, List.set_cons_zero, List.set_cons_succ]))
      all_goals (refine wpAnyH_done (by kernel_rfl) ?_ _)
      all_goals (refine NoPanic.normal ?_)
      have hrf : ((w7.drew.setCell ⟨gR, 0, none⟩ (.slice Ap7 a1.length cp7)).setCell ⟨gR, 1, none⟩ (.slice Ab7 a2.length cb7)).heap[gR]? = some (.cells #[.slice Ap7 a1.length cp7, .slice Ab7 a2.length cb7] 32 (0, 0)) := blk_put (cs := #[.slice Ap7 a1.length cp7, .slice none 0 0]) (blk_put (cs := #[.slice none 0 0, .slice none 0 0]) (show w7.drew.heap[gR]? = some (.cells #[.slice none 0 0, .slice none 0 0] 32 (0, 0)) from HR_w7.out) 0 (.slice Ap7 a1.length cp7) rfl) 1 (.slice Ab7 a2.length cb7) rfl
      have HVD := Aside0.mk (HV7.out.below (below_drew1 (Below.refl w7.heap.size w7)))
      have hs1 := Kd.S_mono (Kd.S_lower (Kd.S_far (p := ⟨gR, 1, none⟩) (Kd.S_far (p := ⟨gR, 0, none⟩) (Kd.S_types HVD.out.sp (show w7.drew.heap[gR]? = some (.cells #[.slice none 0 0, .slice none 0 0] 32 (0, 0)) from HR_w7.out) (by decide)) (fun _ hk => hk.2) (.slice Ap7 a1.length cp7)) (fun _ hk => hk.2) (.slice Ab7 a2.length cb7)) (below_size HW2.out)) (ok' := fun k_ => ¬ P7 k_) (fun k_ hk => hk.1.2)
      have hs2 := Kd.S_mono (Kd.S_lower (Kd.S_far (p := ⟨gR, 1, none⟩) (Kd.S_far (p := ⟨gR, 0, none⟩) (Kd.S_types HVD.out.sb (show w7.drew.heap[gR]? = some (.cells #[.slice none 0 0, .slice none 0 0] 32 (0, 0)) from HR_w7.out) (by decide)) (fun _ hk => hk.2) (.slice Ap7 a1.length cp7)) (fun _ hk => hk.2) (.slice Ab7 a2.length cb7)) (below_size HW2.out)) (ok' := P7) (fun k_ hk => hk.1.2)
      have hbf : Below w.heap.size w ((w7.drew.setCell ⟨gR, 0, none⟩ (.slice Ap7 a1.length cp7)).setCell ⟨gR, 1, none⟩ (.slice Ab7 a2.length cb7)) := below_set (below_set (below_drew1 (below_step HW2.out HBX.out)) HG.out.2.1) HG.out.2.1
      have HRF := Aside0.mk hrf
      have HFIN := Aside0.mk (And.intro hs1 (And.intro hs2 hbf))
      clear hrf hs1 hs2 hbf K7 KD k70 k71 HVD HV7
      have e9 : ((w7.drew.setCell ⟨gR, 0, none⟩ (.slice Ap7 a1.length cp7)).setCell ⟨gR, 1, none⟩ (.slice Ab7 a2.length cb7)) = ((w7.setCell ⟨gR, 0, none⟩ (.slice Ap7 a1.length cp7)).setCell ⟨gR, 1, none⟩ (.slice Ab7 a2.length cb7)).drew := rfl
      rw [e9] at HRF HFIN
      clear e9
      generalize ((w7.setCell ⟨gR, 0, none⟩ (.slice Ap7 a1.length cp7)).setCell ⟨gR, 1, none⟩ (.slice Ab7 a2.length cb7)).drew = w9 at HRF HFIN ⊢
      go_wp2
      refine bodyPost_ret (results_ctt rfl _ _ gR 32 #[.slice Ap7 a1.length cp7, .slice Ab7 a2.length cb7] (0, 0) _ rfl HRF.out hu32 rfl (by kernel_rfl)) rfl ?_
      exact ⟨P7, _, _, rfl, HFIN.out.1, HFIN.out.2.1, HFIN.out.2.2⟩

theorem impl_AddVersion.calls (k : Nat) (A0 : Option Addr) (c0 : Nat) (ps : List (List Int)) (A1 : Option Addr) (c1 : Nat) (bs : List S123) (A2 : Option Addr) (c2 : Nat) (parents : List Int) (A3 : Option Addr) (c3 : Nat) (lines : List ByteArray) (r1 : List (List Int)) (r2 : List S123) (r3 r4 : Int) (w : World) (hr0 : Kd.C (Kd.slice 3 (Kd.int .i64)) w A0 ps.length ps) (hc0 : ps.length ≤ c0) (hr1 : Kd.C k123 w A1 bs.length bs) (hc1 : bs.length ≤ c1) (hr2 : Kd.C (Kd.int .i64) w A2 parents.length parents) (hc2 : parents.length ≤ c2) (hr3 : Kd.C Kd.string w A3 lines.length lines) (hc3 : lines.length ≤ c3) (h : impl_AddVersion.f k ps bs parents lines = some (r1, r2, r3, r4)) :
    Calls Try.prog 25 #[.agg #[.slice A0 ps.length c0, .slice A1 bs.length c1], .slice A2 parents.length c2, .slice A3 lines.length c3] w fun e w' => ∃ v0_ v1_ : Value, e = .returned (.tuple #[.agg #[v0_, v1_], .int .i64 r3, .int .i64 r4]) ∧ Kd.S (Kd.slice 3 (Kd.int .i64)) 45 w' w.heap.size (fun _ => True) v0_ r1 ∧ Kd.S k123 123 w' w.heap.size (fun _ => True) v1_ r2 ∧ Below w.heap.size w w' :=
  (impl_AddVersion.calls_ap k A0 c0 ps A1 c1 bs A2 c2 parents A3 c3 lines r1 r2 r3 r4 w hr0 hc0 hr1 hc1 hr2 hc2 hr3 hc3 h).mono (by rintro e w' ⟨P, vp, vb, rfl, h1, h2, hb⟩; exact ⟨vp, vb, rfl, Kd.S_mono h1 (fun _ _ => trivial), Kd.S_mono h2 (fun _ _ => trivial), hb⟩)
/-! ### laws_big: function 31 -/
def laws_big.f (l0 : List Int) : Option (Bool) := some (decide ((l0.length : Int) > 1048576))
set_option maxHeartbeats 8000000 in
set_option maxRecDepth 100000 in
theorem laws_big.calls (A0 : Option Addr) (c0 : Nat) (l0 : List Int) (r : Bool) (w : World) (hr0 : Kd.C (Kd.int .u8) w A0 l0.length l0) (hc0 : l0.length ≤ c0) (h : laws_big.f l0 = some r) :
    Calls Try.prog 31 #[.slice A0 l0.length c0] w fun e w' => e = .returned (.bool r) ∧ Drawn0 w w' := by
  have HR0 := Aside0.mk hr0; have HC0 := Aside0.mk hc0; clear hr0 hc0; have H := h; unfold laws_big.f at H; clear h; obtain rfl := Option.some.inj H; go_enter Try.func31, Try.ntmps31; go_wp2; go_ret; exact ⟨by first | rfl | (simp; done) | (simp [*]; done), by repeat (first | exact Drawn0.refl _ | apply Drawn0.step)⟩

/-- A state of type 145 at block g of W; what its slices lead to came in by w0. -/
def IsS145 (w0 W : World) (g : Nat) (f0 : List Int) (f1 : Int) (f2 : Int) : Prop := ∃ A0 c0, W.heap[g]? = some (.cells #[.slice A0 f0.length c0, .int .i64 f1, .int .i64 f2] 145 (0, 0)) ∧ w0.heap.size ≤ g ∧ Kd.C (Kd.int .u8) w0 A0 f0.length f0
theorem IsS145.grown {w0 W : World} {g : Nat} {f0 : List Int} {f1 : Int} {f2 : Int} {W1 : World} {row : Option Nat} (h : IsS145 w0 W g f0 f1 f2) (hw : W.grownBy W1 row) (hne : some g ≠ row) : IsS145 w0 W1 g f0 f1 f2 := by
  obtain ⟨A0, c0, hb, hg, hr0⟩ := h; exact ⟨A0, c0, blk_grown hb hw hne, hg, hr0⟩
theorem IsS145.fresh {w0 W : World} {g : Nat} {f0 : List Int} {f1 : Int} {f2 : Int} (h : IsS145 w0 W g f0 f1 f2) : ∀ k, W.heap.size ≤ k → k ≠ g := by
  obtain ⟨A0, c0, hb, hg, hr0⟩ := h; exact Kd.freshB hb
theorem IsS145.kept {w0 W : World} {g : Nat} {f0 : List Int} {f1 : Int} {f2 : Int} {W1 : World} {S : Nat → Prop} (h : IsS145 w0 W g f0 f1 f2) (hk : Kept W W1 S) (hne : ¬ S g) : IsS145 w0 W1 g f0 f1 f2 := by
  obtain ⟨A0, c0, hb, hg, hr0⟩ := h; exact ⟨A0, c0, blk_kept hb hk hne, hg, hr0⟩
theorem IsS145.below {w0 W : World} {g : Nat} {f0 : List Int} {f1 : Int} {f2 : Int} {W1 : World} (h : IsS145 w0 W g f0 f1 f2) (hw : Below W.heap.size W W1) : IsS145 w0 W1 g f0 f1 f2 := h.grown (grown_of_below hw none) (by simp)
theorem IsS145.alloc {w0 W : World} {g : Nat} {f0 : List Int} {f1 : Int} {f2 : Int} (h : IsS145 w0 W g f0 f1 f2) (o : Obj) : IsS145 w0 (W.alloc o) g f0 f1 f2 := h.below (below_alloc (Below.refl _ _) o)
theorem IsS145.drewN {w0 W : World} {g : Nat} {f0 : List Int} {f1 : Int} {f2 : Int} (h : IsS145 w0 W g f0 f1 f2) (m : Nat) : IsS145 w0 (W.drewN m) g f0 f1 f2 := h
theorem IsS145.drew {w0 W : World} {g : Nat} {f0 : List Int} {f1 : Int} {f2 : Int} (h : IsS145 w0 W g f0 f1 f2) : IsS145 w0 W.drew g f0 f1 f2 := h
theorem IsS145.at_ {w0 W : World} {g : Nat} {f0 : List Int} {f1 : Int} {f2 : Int} {w' : World} {m : Nat} (hq : W.drewN m = w') (h : IsS145 w0 W g f0 f1 f2) : IsS145 w0 w' g f0 f1 f2 := by subst hq; exact IsS145.drewN h m
theorem IsS145.apart {w0 W : World} {g : Nat} {f0 : List Int} {f1 : Int} {f2 : Int} {α : Type} {d : Kd α} {e : Nat} {base : Nat} {ok : Nat → Prop} {v : Value} {xs : List α} (h : IsS145 w0 W g f0 f1 f2) (ho : d.R e W base ok v xs) (ht : ∀ q, q ∈ e :: d.E → q ≠ 145) : d.R e W base (fun k => ok k ∧ k ≠ g) v xs := by
  obtain ⟨A0, c0, hb, hg, hr0⟩ := h; exact Kd.R_types ho hb ht
theorem IsS145.own_ne {w0 W : World} {g : Nat} {f0 : List Int} {f1 : Int} {f2 : Int} {α : Type} {d : Kd α} {e : Nat} {base : Nat} {ok : Nat → Prop} {v : Value} {xs : List α} (h : IsS145 w0 W g f0 f1 f2) (ho : d.R e W base ok v xs) (ht : e ≠ 145) : some g ≠ v.ownBlock := by
  obtain ⟨A0, c0, hb, hg, hr0⟩ := h; exact Kd.R_ne ho hb ht
theorem IsS145.apartS {w0 W : World} {g : Nat} {f0 : List Int} {f1 : Int} {f2 : Int} {α : Type} {d : Kd α} {e : Nat} {base : Nat} {ok : Nat → Prop} {v : Value} {xs : List α} (h : IsS145 w0 W g f0 f1 f2) (ho : d.S e W base ok v xs) (ht : ∀ q, q ∈ e :: d.E → q ≠ 145) : d.S e W base (fun k => ok k ∧ k ≠ g) v xs := by
  obtain ⟨A0, c0, hb, hg, hr0⟩ := h; exact Kd.S_types ho hb ht
theorem IsS145.lt {w0 W : World} {g : Nat} {f0 : List Int} {f1 : Int} {f2 : Int} (h : IsS145 w0 W g f0 f1 f2) : g < W.heap.size := by
  obtain ⟨A0, c0, hb, hg, hr0⟩ := h; exact blk_lt hb
theorem IsS145.ge {w0 W : World} {g : Nat} {f0 : List Int} {f1 : Int} {f2 : Int} (h : IsS145 w0 W g f0 f1 f2) : w0.heap.size ≤ g := by
  obtain ⟨A0, c0, hb, hg, hr0⟩ := h; exact hg
theorem IsS145.far {w0 W : World} {g : Nat} {f0 : List Int} {f1 : Int} {f2 : Int} {p : Addr} (h : IsS145 w0 W g f0 f1 f2) (hne : g ≠ p.block) (u : Value) : IsS145 w0 (W.setCell p u) g f0 f1 f2 := by
  obtain ⟨A0, c0, hb, hg, hr0⟩ := h; exact ⟨A0, c0, blk_far hb hne u, hg, hr0⟩
theorem cellS145_0 {W : World} {g : Nat} {A0 : Option Addr} {c0 : Nat} {f0 : List Int} {f1 : Int} {f2 : Int} (h : W.heap[g]? = some (.cells #[.slice A0 f0.length c0, .int .i64 f1, .int .i64 f2] 145 (0, 0))) : W.cell? ⟨g, 0, none⟩ = some (.slice A0 f0.length c0) := (blk_cell h 0).trans rfl
theorem cellS145_1 {W : World} {g : Nat} {A0 : Option Addr} {c0 : Nat} {f0 : List Int} {f1 : Int} {f2 : Int} (h : W.heap[g]? = some (.cells #[.slice A0 f0.length c0, .int .i64 f1, .int .i64 f2] 145 (0, 0))) : W.cell? ⟨g, 1, none⟩ = some (.int .i64 f1) := (blk_cell h 1).trans rfl
theorem IsS145.set_1 {w0 W : World} {g : Nat} {f0 : List Int} {f1 : Int} {f2 : Int} (h : IsS145 w0 W g f0 f1 f2) (x : Int) : IsS145 w0 (W.setCell ⟨g, 1, none⟩ (.int .i64 x)) g f0 x f2 := by
  obtain ⟨A0, c0, hb, hg, hr0⟩ := h; exact ⟨A0, c0, by simpa using blk_set hb 1 (.int .i64 x), hg, hr0⟩
theorem cellS145_2 {W : World} {g : Nat} {A0 : Option Addr} {c0 : Nat} {f0 : List Int} {f1 : Int} {f2 : Int} (h : W.heap[g]? = some (.cells #[.slice A0 f0.length c0, .int .i64 f1, .int .i64 f2] 145 (0, 0))) : W.cell? ⟨g, 2, none⟩ = some (.int .i64 f2) := (blk_cell h 2).trans rfl
theorem IsS145.set_2 {w0 W : World} {g : Nat} {f0 : List Int} {f1 : Int} {f2 : Int} (h : IsS145 w0 W g f0 f1 f2) (x : Int) : IsS145 w0 (W.setCell ⟨g, 2, none⟩ (.int .i64 x)) g f0 f1 x := by
  obtain ⟨A0, c0, hb, hg, hr0⟩ := h; exact ⟨A0, c0, by simpa using blk_set hb 2 (.int .i64 x), hg, hr0⟩
theorem IsS145.new (w0 W : World) (A0 : Option Addr) (c0 : Nat) (f0 : List Int) (f1 : Int) (f2 : Int) (hB : Below w0.heap.size w0 W) (hr0 : Kd.C (Kd.int .u8) w0 A0 f0.length f0) : IsS145 w0 (W.alloc (.cells #[.slice A0 f0.length c0, .int .i64 f1, .int .i64 f2] 145)) W.heap.size f0 f1 f2 := ⟨A0, c0, by simpa using heap_alloc_new W _, hB.size, hr0⟩

/-! ### spec_l01New: function 75 -/
def spec_l01New.l0 : Nat → List Int → Int → Int → Option (List Int × Int × Int)
  | 0, _, _, _ => none
  | k + 1, x0, x3, x4 => if x4 < (x0.length : Int) then (if x4 < 4000 then (if 0 ≤ x4 then (spec_l01New.l0 k x0 (Go.bits .and .i64 (wrap64 ((wrap64 ((wrap64 (x3 * 131)) + (wrap64 (rd x0 x4)))) + 7)) 1073741823) (wrap64 (x4 + 1))) else (none)) else (some (x0, 0, x3))) else (some (x0, 0, x3))
def spec_l01New.f (k : Nat) (l0 : List Int) : Option (List Int × Int × Int) := spec_l01New.l0 k l0 (wrap64 (73073 + (l0.length : Int))) 0
theorem spec_l01New.mono_l : ∀ k, (∀ y0 y1 y2, LeO (spec_l01New.l0 k y0 y1 y2) (spec_l01New.l0 (k + 1) y0 y1 y2))
  | 0 => by intros; exact LeO.none _
  | k + 1 => by
    have ih0 := spec_l01New.mono_l k; intros ; unfold spec_l01New.l0 ; repeat' with_reducible first | exact LeO.refl _ | exact LeO.none _ | refine LeO.ite ?_ ?_ | refine LeO.bind ?_ (fun _ => ?_) | apply ih0
theorem spec_l01New.mono : ∀ a0 k, LeO (spec_l01New.f k a0) (spec_l01New.f (k + 1) a0) := by
  intro a0 k; have ih0 := spec_l01New.mono_l k; unfold spec_l01New.f
  repeat' with_reducible first | exact LeO.refl _ | exact LeO.none _ | refine LeO.ite ?_ ?_ | refine LeO.bind ?_ (fun _ => ?_) | apply ih0
set_option maxHeartbeats 8000000 in
set_option maxRecDepth 100000 in
theorem spec_l01New.calls (k : Nat) (A0 : Option Addr) (c0 : Nat) (l0 : List Int) (r1 : List Int) (r2 : Int) (r3 : Int) (w0 w : World) (hB : Below w0.heap.size w0 w) (hr0 : Kd.C (Kd.int .u8) w0 A0 l0.length l0) (hc0 : l0.length ≤ c0) (h : spec_l01New.f k l0 = some (r1, r2, r3)) :
    Calls Try.prog 75 #[.slice A0 l0.length c0] w fun e w' => ∃ g_ : Nat, e = .returned (.pointer (some ⟨g_, 0, none⟩)) ∧ IsS145 w0 w' g_ r1 r2 r3 ∧ Below w0.heap.size w0 w' ∧ Below w.heap.size w w' := by
  have hu145 := Try.underlying145; have HR0 := Aside0.mk hr0; have HC0 := Aside0.mk hc0; clear hr0 hc0; have HBW := Aside0.mk (Below.refl w.heap.size w); have HW0 := Aside0.mk hB.size; have HB := Aside0.mk hB; clear hB; have H := h; unfold spec_l01New.f at H; clear h; have H' := Aside0.mk H; clear H; go_enter Try.func75, Try.ntmps75; go_wp2; go_loopg [3, 4] k (fun kq v3 v4 w' => ∃ (x3_1 : Int) (x4_1 : Int), v3 = .int .i64 x3_1 ∧ v4 = .int .i64 x4_1 ∧ Aside0 (spec_l01New.l0 kq l0 x3_1 x4_1 = some (r1, r2, r3)) ∧ Aside0 (kq ≤ k) ∧ Aside0 (Below w0.heap.size w0 w') ∧ Aside0 (Below w.heap.size w w'))
  case atStart => exact ⟨(wrap64 (73073 + (l0.length : Int))), (0), q4_, q4_, H', ⟨Nat.le_refl _⟩, ⟨zb_⟩, ⟨by repeat (first | (with_reducible first | exact HBW.out | apply below_alloc | apply pw_below_drewN | apply below_drew1) | exact HBW.out)⟩⟩
  case round =>
    clear H'; obtain ⟨x3_1, x4_1, rfl, rfl, HA, HK1, HB, HBW⟩ := hrel
    cases gk with
    | zero => exact absurd HA.out (by simp [spec_l01New.l0])
    | succ k1 =>
     have H := HA.out; clear HA; simp only [spec_l01New.l0] at H; by_cases c2 : x4_1 < (l0.length : Int)
     ·rw [if_pos c2] at H; have c2b0 := decide_eq_true c2; clear c2; by_cases c3 : x4_1 < 4000
      ·rw [if_pos c3] at H; have c3b0 := decide_eq_true c3; clear c3; obtain ⟨c4b0, H⟩ := ifd_ H; have H' := Aside0.mk H; clear H; obtain ⟨p212, q212, ad212, e212, hx212_0⟩ := pq_ (Kd.at_int HR0.out x4_1); cases e212; replace hx212_0 := pw_cell_below HB.out hx212_0; go_wp2; go_roundg k1
       case measure => have := HK1.out; omega
       case rel => exact ⟨(Go.bits .and .i64 (wrap64 ((wrap64 ((wrap64 (x3_1 * 131)) + (wrap64 (rd l0 x4_1)))) + 7)) 1073741823), (wrap64 (x4_1 + 1)), q4_, q4_, H', ⟨by have := HK1.out; omega⟩, ⟨zb_⟩, ⟨by repeat (first | (with_reducible first | exact HBW.out | apply below_alloc | apply pw_below_drewN | apply below_drew1) | exact HBW.out)⟩⟩
      ·rw [if_neg c3] at H; have c3b0 := decide_eq_false c3; clear c3; simp only [Option.some.injEq, Prod.mk.injEq] at H; obtain ⟨rfl, rfl, rfl⟩ := H; go_wp2_with (first | ((with_reducible refine gate_dst (N := 31) rfl ?_); refine be_ 31 #[.slice A0 l0.length c0, .int .i64 0, .int .i64 x3_1] 145 ?_; intro gb213 hg w5 hbox hb; refine ai5_ (below_step q110_ hb) (below_step q1_ hb) (hbox) (gw_ hg q110_) ((Nat.le_trans HW0.out (gw_ hg q110_) : w0.heap.size ≤ gb213)) ?_; clear HBW HB; intro HBW HB BK213 GW213 GE213; clear hb hbox hg)); go_ret; exact ⟨_, rfl, (show IsS145 w0 _ gb213 l0 0 x3_1 from ⟨_, _, zp_ BK213, GE213.out, HR0.out⟩), zb_, by repeat (first | (with_reducible first | exact HBW.out | apply below_alloc | apply pw_below_drewN | apply below_drew1 | refine below_set ?_ GW213.out) | exact HBW.out)⟩
     ·rw [if_neg c2] at H; have c2b0 := decide_eq_false c2; clear c2; simp only [Option.some.injEq, Prod.mk.injEq] at H; obtain ⟨rfl, rfl, rfl⟩ := H; go_wp2_with (first | ((with_reducible refine gate_dst (N := 31) rfl ?_); refine be_ 31 #[.slice A0 l0.length c0, .int .i64 0, .int .i64 x3_1] 145 ?_; intro gb214 hg w6 hbox hb; refine ai5_ (below_step q110_ hb) (below_step q1_ hb) (hbox) (gw_ hg q110_) ((Nat.le_trans HW0.out (gw_ hg q110_) : w0.heap.size ≤ gb214)) ?_; clear HBW HB; intro HBW HB BK214 GW214 GE214; clear hb hbox hg)); go_ret; exact ⟨_, rfl, (show IsS145 w0 _ gb214 l0 0 x3_1 from ⟨_, _, zp_ BK214, GE214.out, HR0.out⟩), zb_, by repeat (first | (with_reducible first | exact HBW.out | apply below_alloc | apply pw_below_drewN | apply below_drew1 | refine below_set ?_ GW214.out) | exact HBW.out)⟩

/-! ### spec_LineOk: function 100 -/
def spec_LineOk.l0 : Nat → ByteArray → Int → Option (Bool)
  | 0, _, _ => none
  | k + 1, x0, x3 => if x3 < (x0.size : Int) then (if 0 ≤ x3 then (if (bt x0 x3) = 10 then (some false) else (spec_LineOk.l0 k x0 (wrap64 (x3 + 1)))) else (none)) else (some (decide ((x0.size : Int) ≤ 60)))
def spec_LineOk.f (k : Nat) (a0 : ByteArray) : Option (Bool) := spec_LineOk.l0 k a0 0
theorem spec_LineOk.mono_l : ∀ k, (∀ y0 y1, LeO (spec_LineOk.l0 k y0 y1) (spec_LineOk.l0 (k + 1) y0 y1))
  | 0 => by intros; exact LeO.none _
  | k + 1 => by
    have ih0 := spec_LineOk.mono_l k; intros ; unfold spec_LineOk.l0 ; repeat' with_reducible first | exact LeO.refl _ | exact LeO.none _ | refine LeO.ite ?_ ?_ | refine LeO.bind ?_ (fun _ => ?_) | apply ih0
theorem spec_LineOk.mono : ∀ a0 k, LeO (spec_LineOk.f k a0) (spec_LineOk.f (k + 1) a0) := by
  intro a0 k; have ih0 := spec_LineOk.mono_l k; unfold spec_LineOk.f
  repeat' with_reducible first | exact LeO.refl _ | exact LeO.none _ | refine LeO.ite ?_ ?_ | refine LeO.bind ?_ (fun _ => ?_) | apply ih0
set_option maxHeartbeats 8000000 in
set_option maxRecDepth 100000 in
theorem spec_LineOk.calls (k : Nat) (a0 : ByteArray) (r : Bool) (w : World) (h : spec_LineOk.f k a0 = some r) :
    Calls Try.prog 100 #[.string a0] w fun e w' => e = .returned (.bool r) ∧ Drawn0 w w' := by
  have H := h; unfold spec_LineOk.f at H; clear h; have H' := Aside0.mk H; clear H; go_enter Try.func100, Try.ntmps100; go_wp2; go_loopg [3] k (fun kq v3 w' => ∃ (x3_1 : Int), v3 = .int .i64 x3_1 ∧ Aside0 (spec_LineOk.l0 kq a0 x3_1 = some r) ∧ Aside0 (kq ≤ k) ∧ Drawn0 w w')
  case atStart => exact ⟨(0), q4_, H', ⟨Nat.le_refl _⟩, by repeat (first | exact Drawn0.refl _ | apply Drawn0.step)⟩
  case round =>
    clear H'; obtain ⟨x3_1, rfl, HA, HK1, ⟨m1, rfl⟩⟩ := hrel
    cases gk with
    | zero => exact absurd HA.out (by simp [spec_LineOk.l0])
    | succ k1 =>
     have H := HA.out; clear HA; simp only [spec_LineOk.l0] at H; by_cases c2 : x3_1 < (a0.size : Int)
     ·rw [if_pos c2] at H; have c2b0 := decide_eq_true c2; clear c2; obtain ⟨c3b0, H⟩ := ifd_ H; by_cases c5 : (bt a0 x3_1) = 10
      ·rw [if_pos c5] at H; have c5b0 : ((bt a0 x3_1) == 10) = true := beq_iff_eq.mpr c5; have c5b1 : ((bt a0 x3_1) != 10) = false := bne_eq_false_iff_eq.mpr c5; clear c5; obtain rfl := Option.some.inj H; have p4 : 0 ≤ (x3_1 : Int) := of_decide_eq_true q0_; have q4 : x3_1 < (a0.size : Int) := of_decide_eq_true q0_; have hx4 := bt_at a0 x3_1; replace p4 := eq_true p4; replace q4 := eq_true q4; go_wp2; go_ret; exact ⟨by first | rfl | (simp; done) | (simp [*]; done), by repeat (first | exact Drawn0.refl _ | apply Drawn0.step)⟩
      ·rw [if_neg c5] at H; have c5b0 : ((bt a0 x3_1) == 10) = false := beq_eq_false_iff_ne.mpr c5; have c5b1 : ((bt a0 x3_1) != 10) = true := bne_iff_ne.mpr c5; have H' := Aside0.mk H; clear H; have p4 : 0 ≤ (x3_1 : Int) := of_decide_eq_true q0_; have q4 : x3_1 < (a0.size : Int) := of_decide_eq_true q0_; have hx4 := bt_at a0 x3_1; replace p4 := eq_true p4; replace q4 := eq_true q4; go_wp2; go_roundg k1
       case measure => have := HK1.out; omega
       case rel => exact ⟨(wrap64 (x3_1 + 1)), q4_, H', ⟨by have := HK1.out; omega⟩, by repeat (first | exact Drawn0.refl _ | apply Drawn0.step)⟩
     ·rw [if_neg c2] at H; have c2b0 := decide_eq_false c2; clear c2; obtain rfl := Option.some.inj H; go_wp2; go_ret; exact ⟨by first | rfl | (simp; done) | (simp [*]; done), by repeat (first | exact Drawn0.refl _ | apply Drawn0.step)⟩

/-! ### spec_l03All: function 129 -/
def spec_l03All.l0 : Nat → List ByteArray → Int → Option (Bool)
  | 0, _, _ => none
  | k + 1, x0, x5 => if x5 < (x0.length : Int) then (if 0 ≤ x5 then ((spec_LineOk.f k (rdOf ByteArray.empty x0 x5)).bind fun t216 => (if t216 = true then (spec_l03All.l0 k x0 (wrap64 (x5 + 1))) else (some false))) else (none)) else (some true)
def spec_l03All.f (k : Nat) (l0 : List ByteArray) (a1 : Int) : Option (Bool) := if (l0.length : Int) > a1 then (some false) else (spec_l03All.l0 k l0 0)
theorem spec_l03All.mono_l : ∀ k, (∀ y0 y1, LeO (spec_l03All.l0 k y0 y1) (spec_l03All.l0 (k + 1) y0 y1))
  | 0 => by intros; exact LeO.none _
  | k + 1 => by
    have ih0 := spec_l03All.mono_l k; intros ; unfold spec_l03All.l0 ; repeat' with_reducible first | exact LeO.refl _ | exact LeO.none _ | refine LeO.ite ?_ ?_ | refine LeO.bind ?_ (fun _ => ?_) | apply ih0 | apply spec_LineOk.mono
theorem spec_l03All.mono : ∀ a0 a1 k, LeO (spec_l03All.f k a0 a1) (spec_l03All.f (k + 1) a0 a1) := by
  intro a0 a1 k; have ih0 := spec_l03All.mono_l k; unfold spec_l03All.f
  repeat' with_reducible first | exact LeO.refl _ | exact LeO.none _ | refine LeO.ite ?_ ?_ | refine LeO.bind ?_ (fun _ => ?_) | apply ih0 | apply spec_LineOk.mono
set_option maxHeartbeats 8000000 in
set_option maxRecDepth 100000 in
theorem spec_l03All.calls (k : Nat) (A0 : Option Addr) (c0 : Nat) (l0 : List ByteArray) (a1 : Int) (r : Bool) (w : World) (hr0 : Kd.C Kd.string w A0 l0.length l0) (hc0 : l0.length ≤ c0) (h : spec_l03All.f k l0 a1 = some r) :
    Calls Try.prog 129 #[.slice A0 l0.length c0, .int .i64 a1] w fun e w' => e = .returned (.bool r) ∧ Drawn0 w w' := by
  have HR0 := Aside0.mk hr0; have HC0 := Aside0.mk hc0; clear hr0 hc0; have H := h; unfold spec_l03All.f at H; clear h; by_cases c3 : (l0.length : Int) > a1
  · rw [if_pos c3] at H; have c3b0 := decide_eq_true c3; clear c3; obtain rfl := Option.some.inj H; go_enter Try.func129, Try.ntmps129; go_wp2; go_ret; exact ⟨by first | rfl | (simp; done) | (simp [*]; done), by repeat (first | exact Drawn0.refl _ | apply Drawn0.step)⟩
  · rw [if_neg c3] at H; have c3b0 := decide_eq_false c3; clear c3; have H' := Aside0.mk H; clear H; go_enter Try.func129, Try.ntmps129; go_wp2; go_loopg [5] k (fun kq v5 w' => ∃ (x5_1 : Int), v5 = .int .i64 x5_1 ∧ Aside0 (spec_l03All.l0 kq l0 x5_1 = some r) ∧ Aside0 (kq ≤ k) ∧ Drawn0 w w')
    case atStart => exact ⟨(0), q4_, H', ⟨Nat.le_refl _⟩, by repeat (first | exact Drawn0.refl _ | apply Drawn0.step)⟩
    case round =>
     clear H'; obtain ⟨x5_1, rfl, HA, HK1, ⟨m1, rfl⟩⟩ := hrel
     cases gk with
     | zero => exact absurd HA.out (by simp [spec_l03All.l0])
     | succ k1 =>
      have H := HA.out; clear HA; simp only [spec_l03All.l0] at H; by_cases c4 : x5_1 < (l0.length : Int)
      ·rw [if_pos c4] at H; have c4b0 := decide_eq_true c4; clear c4; obtain ⟨c5b0, H⟩ := ifd_ H; replace H := Option.bind_eq_some_iff.mp H; obtain ⟨t216, A60, H⟩ := H; (try dsimp only at H); have A6 := Aside0.mk A60; clear A60; by_cases c7 : t216 = true
       ·subst c7; rw [if_pos rfl] at H; have H' := Aside0.mk H; clear H; obtain ⟨p215, q215, ad215, e215, hx215_0⟩ := pq_ (Kd.at_string HR0.out x5_1); cases e215; go_wp2_with (first | ((with_reducible refine gate_callee (f := 100) rfl ?_); refine gl_ 20 Try.func100 #[.string (rdOf ByteArray.empty l0 x5_1)] ?_; (with_reducible refine (spec_LineOk.calls k1 (rdOf ByteArray.empty l0 x5_1) true _ A6.out).mono ?_); rintro e w' ⟨rfl, ⟨nd, rfl⟩⟩; refine ⟨_, rfl, ?_⟩)); go_roundg k1
        case measure => have := HK1.out; omega
        case rel => exact ⟨(wrap64 (x5_1 + 1)), q4_, H', ⟨by have := HK1.out; omega⟩, by repeat (first | exact Drawn0.refl _ | apply Drawn0.step)⟩
       ·replace c7 := Bool.eq_false_iff.mpr c7; subst c7; rw [if_neg nf_] at H; obtain rfl := Option.some.inj H; obtain ⟨p215, q215, ad215, e215, hx215_0⟩ := pq_ (Kd.at_string HR0.out x5_1); cases e215; go_wp2_with (first | ((with_reducible refine gate_callee (f := 100) rfl ?_); refine gl_ 20 Try.func100 #[.string (rdOf ByteArray.empty l0 x5_1)] ?_; (with_reducible refine (spec_LineOk.calls k1 (rdOf ByteArray.empty l0 x5_1) false _ A6.out).mono ?_); rintro e w' ⟨rfl, ⟨nd, rfl⟩⟩; refine ⟨_, rfl, ?_⟩)); go_ret; exact ⟨by first | rfl | (simp; done) | (simp [*]; done), by repeat (first | exact Drawn0.refl _ | apply Drawn0.step)⟩
      ·rw [if_neg c4] at H; have c4b0 := decide_eq_false c4; clear c4; obtain rfl := Option.some.inj H; go_wp2; go_ret; exact ⟨by first | rfl | (simp; done) | (simp [*]; done), by repeat (first | exact Drawn0.refl _ | apply Drawn0.step)⟩

end Go.Proofs.Ytmodgiingohphaa.PFnTop
