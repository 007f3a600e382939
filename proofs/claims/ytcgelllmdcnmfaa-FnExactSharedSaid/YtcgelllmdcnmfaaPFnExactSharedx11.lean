-- Made by a program (the kit's print with additions of this session: wip/tools/patch_print.py, ext.py).
import Derived.Test.YtcgelllmdcnmfaaPFnExactSharedx0
import Derived.Test.YtcgelllmdcnmfaaPFnExactSharedx7
import Derived.Test.YtcgelllmdcnmfaaPFnExactSharedx8
import Derived.Test.YtcgelllmdcnmfaaPFnExactSharedx10
namespace Go.Proofs.Ytcgelllmdcnmfaa.PFnExactShared
open Go.RowKit Go.Proofs.YtcgelllmdcnmfaaW.PrintWords Go.Proofs.YtcgelllmdcnmfaaW.PrintLast Go.Proofs.YtcgelllmdcnmfaaW.PrintMore
attribute [local go_sem] max2_int min2_int max_two min_two max_three min_three max_four min_four   -- for this text's walks alone
set_option linter.unusedVariables false
set_option linter.unusedSimpArgs false

def bv11_0 : Array Bool := #[false, false, false, false, false, false, false, false, false, false, false, false, false, false]
def bv11_1 : Array Bool := #[false, true, false, false, false, false, false, false, false, false, false, false, false, false]
def bv11_2 : Array Bool := #[false, true, true, false, false, false, false, false, false, false, false, false, false, false]
def bv11_3 : Array Bool := #[false, true, true, true, false, false, false, false, false, false, false, false, false, false]
def bv11_4 : Array Bool := #[true, true, true, true, false, false, false, false, false, false, false, false, false, false]
def bv11_5 : Array Bool := #[true, true, true, true, true, false, false, false, false, false, false, false, false, false]
def bv11_6 : Array Bool := #[true, true, true, true, true, true, false, false, false, false, false, false, false, false]
def bv11_7 : Array Bool := #[true, true, true, true, true, true, true, false, false, false, false, false, false, false]
def bv11_8 : Array Bool := #[true, true, true, true, true, true, true, true, true, true, true, false, false, false]
def bv11_9 : Array Bool := #[true, true, true, true, true, true, true, true, true, true, true, true, false, false]
def bv11_10 : Array Bool := #[true, true, true, true, true, true, true, true, true, true, true, true, true, false]
def bv11_11 : Array Bool := #[true, true, true, true, true, true, true, true, true, true, true, true, true, true]
/-! ### impl_Shared: function 20 -/
def impl_Shared.l0 : Nat → Int → Int → List Int → Int → List (S68) → Int → Int → Option (Int)
  | 0, _, _, _, _, _, _, _ => none
  | k + 1, x1, x2, x7, x8, x21, x22, x23 => if x23 < x22 then (if 0 ≤ x23 then (if x23 < (x21.length : Int) then (if 0 ≤ x1 then (if x1 < (x7.length : Int) then ((impl_Body_isLive.f k ((rd_T68 x21 x23).f0) ((rd_T68 x21 x23).f1) ((rd_T68 x21 x23).f2) ((rd_T68 x21 x23).f3) (rd x7 x1)).bind fun t325 => (if t325 = true then (if 0 ≤ x2 then (if x2 < (x7.length : Int) then ((impl_Body_isLive.f k ((rd_T68 x21 x23).f0) ((rd_T68 x21 x23).f1) ((rd_T68 x21 x23).f2) ((rd_T68 x21 x23).f3) (rd x7 x2)).bind fun t327 => (if t327 = true then (impl_Shared.l0 k x1 x2 x7 (wrap64 (x8 + 1)) x21 x22 (wrap64 (x23 + 1))) else (impl_Shared.l0 k x1 x2 x7 x8 x21 x22 (wrap64 (x23 + 1))))) else (none)) else (none)) else (impl_Shared.l0 k x1 x2 x7 x8 x21 x22 (wrap64 (x23 + 1))))) else (none)) else (none)) else (none)) else (none)) else (some x8)
def impl_Shared.f (k : Nat) (l0_0 : List (List Int)) (l0_1 : List (S68)) (a1 : Int) (a2 : Int) : Option (Int) := (impl_versionsCode.f k l0_0 l0_1 (([a1, a2] : List Int))).bind fun t318 => (if t318 = 0 then ((impl_closures.f k l0_0).bind fun t319 => (impl_Shared.l0 k a1 a2 t319 0 l0_1 (l0_1.length : Int) 0)) else (some (-1)))
theorem impl_Shared.mono_l : ∀ k, (∀ y0 y1 y2 y3 y4 y5 y6, LeO (impl_Shared.l0 k y0 y1 y2 y3 y4 y5 y6) (impl_Shared.l0 (k + 1) y0 y1 y2 y3 y4 y5 y6))
  | 0 => fun _ _ _ _ _ _ _ r h => by simp [impl_Shared.l0] at h
  | k + 1 => by
    have ih0 := impl_Shared.mono_l k
    ·intro y0 y1 y2 y3 y4 y5 y6
     unfold impl_Shared.l0
     repeat' first
     | (with_reducible exact ih0 _ _ _ _ _ _ _)
     | (with_reducible exact impl_Body_isLive.mono _ _ _ _ _ _)
     | (with_reducible exact impl_closures.mono _ _)
     | (with_reducible exact impl_versionsCode.mono _ _ _ _)
     | (with_reducible exact LeO.refl _)
     | (with_reducible exact LeO.none _)
     | (with_reducible refine LeO.ite ?_ ?_)
     | (with_reducible refine LeO.bind ?_ (fun _ => ?_))
     | exact ih0 _ _ _ _ _ _ _
     | exact impl_Body_isLive.mono _ _ _ _ _ _
     | exact impl_closures.mono _ _
     | exact impl_versionsCode.mono _ _ _ _
     | exact LeO.none _
     | refine LeO.ite ?_ ?_
     | refine LeO.bind ?_ (fun _ => ?_)
theorem impl_Shared.mono : ∀ a0 a1 a2 a3 k, LeO (impl_Shared.f k a0 a1 a2 a3) (impl_Shared.f (k + 1) a0 a1 a2 a3) := by
  intro a0 a1 a2 a3 k
  have ih0 := impl_Shared.mono_l k
  unfold impl_Shared.f
  repeat' first
     | (with_reducible exact ih0 _ _ _ _ _ _ _)
     | (with_reducible exact impl_Body_isLive.mono _ _ _ _ _ _)
     | (with_reducible exact impl_closures.mono _ _)
     | (with_reducible exact impl_versionsCode.mono _ _ _ _)
     | (with_reducible exact LeO.refl _)
     | (with_reducible exact LeO.none _)
     | (with_reducible refine LeO.ite ?_ ?_)
     | (with_reducible refine LeO.bind ?_ (fun _ => ?_))
     | exact ih0 _ _ _ _ _ _ _
     | exact impl_Body_isLive.mono _ _ _ _ _ _
     | exact impl_closures.mono _ _
     | exact impl_versionsCode.mono _ _ _ _
     | exact LeO.none _
     | refine LeO.ite ?_ ?_
     | refine LeO.bind ?_ (fun _ => ?_)
def impl_Shared.T8 : Bool × List (List Nat × List Nat) := (true, [([], []), ([], []), ([], []), ([1, 2], [1, 2]), ([3], [3]), ([0, 4], [0, 4]), ([5, 5], [5]), ([6], [6]), ([6], [6]), ([6], [6]), ([8, 9, 6], [6, 8, 9]), ([10, 6], [6, 10]), ([7, 11, 6, 6], [6, 7, 11]), ([6, 12], [6, 12])])
def impl_Shared.B8 : List Nat := [0, 0, 0, 6, 14, 31, 63, 127, 127, 127, 895, 1919, 4095, 8191]
theorem impl_Shared.tab8 : rtab .any (opsOf Try.f20 8) = impl_Shared.T8 := by kernel_rfl
theorem impl_Shared.bits8 : waitsOk impl_Shared.T8.2 impl_Shared.B8 = true := by kernel_rfl
set_option maxHeartbeats 8000000 in
set_option maxRecDepth 100000 in
theorem impl_Shared.calls (k : Nat) (A0_0 : Option Addr) (c0_0 : Nat) (l0_0 : List (List Int)) (A0_1 : Option Addr) (c0_1 : Nat) (l0_1 : List (S68)) (a1 : Int) (a2 : Int) (r : Int) (w : World) (hr0_0 : Kd.C (Kd.slice 3 (Kd.int .i64)) w A0_0 l0_0.length l0_0) (hc0_0 : l0_0.length ≤ c0_0) (hr0_1 : Kd.C k68 w A0_1 l0_1.length l0_1) (hc0_1 : l0_1.length ≤ c0_1) (h : impl_Shared.f k l0_0 l0_1 a1 a2 = some r) :
    Calls Try.prog 20 #[.agg #[.slice A0_0 l0_0.length c0_0, .slice A0_1 l0_1.length c0_1], .int .i64 a1, .int .i64 a2] w fun e w' => e = .returned (.int .i64 r) ∧ Below w.heap.size w w' := by
  have hu30 := Try.underlying30
  have hu68 := Try.underlying68
  have HR0_0 := Aside0.mk hr0_0
  have HC0_0 := Aside0.mk hc0_0
  clear hr0_0 hc0_0
  have HR0_1 := Aside0.mk hr0_1
  have HC0_1 := Aside0.mk hc0_1
  clear hr0_1 hc0_1
  have HB := Aside0.mk (Below.refl w.heap.size w)
  have H : ((impl_versionsCode.f k l0_0 l0_1 (([a1, a2] : List Int))).bind fun t318 => (if t318 = 0 then ((impl_closures.f k l0_0).bind fun t319 => (impl_Shared.l0 k a1 a2 t319 0 l0_1 (l0_1.length : Int) 0)) else (some (-1)))) = some r := h
  clear h
  obtain ⟨y315, hy315⟩ : ∃ y_ : List Int, y_ = (([a1, a2] : List Int)) := ⟨_, rfl⟩
  replace H : ((impl_versionsCode.f k l0_0 l0_1 y315).bind fun t318 => (if t318 = 0 then ((impl_closures.f k l0_0).bind fun t319 => (impl_Shared.l0 k a1 a2 t319 0 l0_1 (l0_1.length : Int) 0)) else (some (-1)))) = some r := by first | (rw [hy315]; with_reducible exact H) | (have H2_ := (Option.bind_some _ _).symm.trans H; rw [hy315]; with_reducible exact H2_) | (have H2_ := (Option.bind_some _ _).symm.trans H; with_reducible exact H2_) | with_reducible exact H | (rw [hy315]; exact H) | exact H
  have Ny315 := Aside0.mk hy315
  clear hy315
  replace H := Option.bind_eq_some_iff.mp H
  obtain ⟨t318, A40, H⟩ := H
  replace H : (if t318 = 0 then ((impl_closures.f k l0_0).bind fun t319 => (impl_Shared.l0 k a1 a2 t319 0 l0_1 (l0_1.length : Int) 0)) else (some (-1))) = some r := H
  have A4 := Aside0.mk A40
  clear A40
  by_cases c5 : t318 = 0
  · rw [if_pos c5] at H
    have c5b0 : (t318 == 0) = true := beq_iff_eq.mpr c5
    have c5b1 : (t318 != 0) = false := bne_eq_false_iff_eq.mpr c5
    clear c5
    replace H := Option.bind_eq_some_iff.mp H
    obtain ⟨t319, A60, H⟩ := H
    replace H : (impl_Shared.l0 k a1 a2 t319 0 l0_1 (l0_1.length : Int) 0) = some r := H
    have A6 := Aside0.mk A60
    clear A60
    have H' := Aside0.mk H
    clear H
    go_enter Try.func20, Try.ntmps20
    go_wp2_with (first | ((with_reducible refine gate_dst (N := 3) rfl ?_); refine box_event ?hg (N := 3) ?hd (cs := #[.slice A0_0 l0_0.length c0_0, .slice A0_1 l0_1.length c0_1]) (t := 30) ?hr ?_; (case hd => rfl); (case hg => rfl); (case hr => first | (go_simp; done) | (go_simp; rfl)); intro gb314 hg w7 hbox hb; have n0_ := Aside0.mk (below_step q1_ hb); have n1_ := Aside0.mk (hbox); have n2_ := Aside0.mk ((by rw [hg]; exact (below_size q1_) : w.heap.size ≤ gb314)); have n3_ := Aside0.mk ((by rw [hg]; exact (below_size q1_) : w.heap.size ≤ gb314)); clear HB; have HB := n0_; have BK314 := n1_; have GW314 := n2_; have GE314 := n3_; clear n0_ n1_ n2_ n3_; clear hb hbox hg; have hcz8_0 : w7.cell? ⟨gb314, 0, none⟩ = some (.slice A0_0 l0_0.length c0_0) := (blk_cell BK314.out 0).trans rfl; have hcz8_1 : w7.cell? ⟨gb314, 1, none⟩ = some (.slice A0_1 l0_1.length c0_1) := (blk_cell BK314.out 1).trans rfl; have hfz8_0 := blk_frozen BK314.out 0; have hfz8_1 := blk_frozen BK314.out 1) | ((with_reducible refine gate_dst (N := 14) rfl ?_); refine Kd.R_lit (Kd.int .i64) _ 3 ?hg (N := 14) ?hd (xs := ([a1, a2] : List Int)) (inner := [.int .i64 a1, .int .i64 a2]) (ok := fun _ => True) (okp := fun _ => True) ?hr ?hp (fun _ hk => hk) trivial (Below.refl _ _) (Nat.le_refl _) (by simp) ?_; (case hd => rfl); (case hg => rfl); (case hr => first | (go_simp; done) | (go_simp; rfl)); (case hp => exact (Reps.one (show Kd.M (Kd.int .i64) _ _ _ a1 [.int .i64 a1] from rfl) (Reps.one (show Kd.M (Kd.int .i64) _ _ _ a2 [.int .i64 a2] from rfl) (Reps.none _ _)))); intro v316 w9 ho10 hb hg_ hnew_; clear hg_ hnew_; (first | rw [← Ny315.out] at ho10 | (simp only [Int.reduceToNat] at ho10; rw [← Ny315.out] at ho10)); have n0_ := Aside0.mk (Kd.R_lower ho10 (below_size q9_)); have n1_ := Aside0.mk (blk_below (g := gb314) (o := .cells #[.slice A0_0 l0_0.length c0_0, .slice A0_1 l0_1.length c0_1] 30 (0, 0)) q12_ hb); have n2_ := Aside0.mk (below_step q9_ hb); clear BK314; clear HB; have HO317 := n0_; have BK314 := n1_; have HB := n2_; clear n0_ n1_ n2_; clear hb ho10; obtain ⟨Ao11, co11, eo11⟩ := Kd.R_slice HO317.out; subst eo11) | ((with_reducible refine gate_callee (f := 67) rfl ?_); refine goesL_ (some 15) rfl rfl Try.func67 (by kernel_rfl) rfl #[.agg #[.slice A0_0 l0_0.length c0_0, .slice A0_1 l0_1.length c0_1], .slice Ao11 y315.length co11] rfl q0_ ?_; (with_reducible refine (impl_versionsCode.calls k _ _ l0_0 _ _ l0_1 _ _ y315 t318 _ ?side1 ?side2 ?side3 ?side4 ?side5 ?side6 A4.out).mono ?_); (case side1 => exact q3_); (case side2 => exact HC0_0.out); (case side3 => exact q4_); (case side4 => exact HC0_1.out); (case side5 => exact (by repeat (first | exact (Kd.R_reads' HO317.out).2.2 | (with_reducible refine Kd.C_alloc ?_ _) | (with_reducible refine Kd.C_drewN ?_ _) | (with_reducible refine Kd.C_drew ?_)))); (case side6 => exact (Kd.R_reads' HO317.out).2.1); rintro e w12 ⟨rfl, hb⟩; refine ⟨_, rfl, ?_⟩; have n0_ := Aside0.mk (Kd.R_below (by (with_reducible repeat (first | apply Kd.R_alloc | apply Kd.R_drewN | apply Kd.R_drew)); exact HO317.out) hb); have n1_ := Aside0.mk (blk_below (g := gb314) (o := .cells #[.slice A0_0 l0_0.length c0_0, .slice A0_1 l0_1.length c0_1] 30 (0, 0)) q12_ hb); have n2_ := Aside0.mk (below_step q9_ hb); clear HO317; clear BK314; clear HB; have HO317 := n0_; have BK314 := n1_; have HB := n2_; clear n0_ n1_ n2_; (try clear hb); (try clear hb2); (try clear hk); (try clear hi); have hcz13_0 : w12.cell? ⟨gb314, 0, none⟩ = some (.slice A0_0 l0_0.length c0_0) := (blk_cell BK314.out 0).trans rfl; have hcz13_1 : w12.cell? ⟨gb314, 1, none⟩ = some (.slice A0_1 l0_1.length c0_1) := (blk_cell BK314.out 1).trans rfl; have hfz13_0 := blk_frozen BK314.out 0; have hfz13_1 := blk_frozen BK314.out 1) | ((with_reducible refine gate_callee (f := 63) rfl ?_); refine goesL_ (some 19) rfl rfl Try.func63 (by kernel_rfl) rfl #[.slice A0_0 l0_0.length c0_0] rfl q0_ ?_; (with_reducible refine (impl_closures.calls k _ _ l0_0 t319 _ ?side1 ?side2 A6.out).mono ?_); (case side1 => exact q3_); (case side2 => exact HC0_0.out); rintro e w14 ⟨v320, rfl, ho0, hb⟩; refine ⟨_, rfl, ?_⟩; have n0_ := Aside0.mk (Kd.R_below (by (with_reducible repeat (first | apply Kd.R_alloc | apply Kd.R_drewN | apply Kd.R_drew)); exact HO317.out) hb); have n1_ := Aside0.mk (Kd.R_lower ho0 (below_size q9_)); have n2_ := Aside0.mk (blk_below (g := gb314) (o := .cells #[.slice A0_0 l0_0.length c0_0, .slice A0_1 l0_1.length c0_1] 30 (0, 0)) q12_ hb); have n3_ := Aside0.mk (below_step q9_ hb); clear HO317; clear BK314; clear HB; have HO317 := n0_; have HO321 := n1_; have BK314 := n2_; have HB := n3_; clear n0_ n1_ n2_ n3_; (try clear hb); (try clear hb2); (try clear hk); (try clear hi); (try clear ho0); have hcz15_0 : w14.cell? ⟨gb314, 0, none⟩ = some (.slice A0_0 l0_0.length c0_0) := (blk_cell BK314.out 0).trans rfl; have hcz15_1 : w14.cell? ⟨gb314, 1, none⟩ = some (.slice A0_1 l0_1.length c0_1) := (blk_cell BK314.out 1).trans rfl; have hfz15_0 := blk_frozen BK314.out 0; have hfz15_1 := blk_frozen BK314.out 1))
    go_loopg [8, 23] k (fun kq v8 v23 w' => ∃ (x8_1 : Int) (x23_1 : Int), v8 = .int .i64 x8_1 ∧ v23 = .int .i64 x23_1 ∧ Aside0 (impl_Shared.l0 kq a1 a2 t319 x8_1 l0_1 (l0_1.length : Int) x23_1 = some r) ∧ Aside0 (kq ≤ k) ∧ Aside0 (Kd.R (Kd.int .u64) 86 w' w.heap.size (fun _ => True) v320 t319) ∧ Aside0 (w'.heap[gb314]? = some (.cells #[(.slice A0_0 l0_0.length c0_0), (.slice A0_1 l0_1.length c0_1)] 30 (0, 0))) ∧ Aside0 (Below w.heap.size w w'))
    case atStart => exact ⟨(0), (0), q6_, q6_, H', ⟨Nat.le_refl _⟩, ⟨by (with_reducible repeat (first | apply Kd.R_alloc | apply Kd.R_drewN | apply Kd.R_drew)); exact HO321.out⟩, ⟨by (with_reducible repeat (first | refine blk_drewN ?_ _ | refine blk_drew ?_ | refine blk_alloc ?_ _)); exact BK314.out⟩, ⟨by repeat (first | (with_reducible first | exact HB.out | apply below_alloc | apply pw_below_drewN | apply below_drew1 | refine below_set ?_ GE314.out) | exact HB.out)⟩⟩
    case round =>
     clear H'
     try clear c2
     try clear p2
     try clear c5
     try clear c5b0
     try clear c5b1
     try clear c6
     try clear hcz13_0
     try clear hcz13_1
     try clear hcz15_0
     try clear hcz15_1
     try clear hcz8_0
     try clear hcz8_1
     try clear hfz13_0
     try clear hfz13_1
     try clear hfz15_0
     try clear hfz15_1
     try clear hfz8_0
     try clear hfz8_1
     obtain ⟨x8_1, x23_1, rfl, rfl, HA, HK1, HO_7, BK314, HB⟩ := hrel
     cases gk with
     | zero => exact absurd HA.out (by simp [impl_Shared.l0])
     | succ k1 =>
      have H := HA.out
      clear HA
      simp only [impl_Shared.l0] at H
      by_cases c16 : x23_1 < (l0_1.length : Int)
      ·rw [if_pos c16] at H
       have c16b0 : decide (x23_1 < (l0_1.length : Int)) = true := decide_eq_true c16
       clear c16
       by_cases c17 : 0 ≤ x23_1
       case neg =>
        rw [if_neg c17] at H
        exact absurd H (by simp)
       rw [if_pos c17] at H
       have c17b0 : decide (0 ≤ x23_1) = true := decide_eq_true c17
       clear c17
       by_cases c18 : x23_1 < (l0_1.length : Int)
       case neg =>
        rw [if_neg c18] at H
        exact absurd H (by simp)
       rw [if_pos c18] at H
       have c18b0 : decide (x23_1 < (l0_1.length : Int)) = true := decide_eq_true c18
       clear c18
       by_cases c19 : 0 ≤ a1
       case neg =>
        rw [if_neg c19] at H
        exact absurd H (by simp)
       rw [if_pos c19] at H
       have c19b0 : decide (0 ≤ a1) = true := decide_eq_true c19
       clear c19
       by_cases c20 : a1 < (t319.length : Int)
       case neg =>
        rw [if_neg c20] at H
        exact absurd H (by simp)
       rw [if_pos c20] at H
       have c20b0 : decide (a1 < (t319.length : Int)) = true := decide_eq_true c20
       clear c20
       replace H := Option.bind_eq_some_iff.mp H
       obtain ⟨t325, A210, H⟩ := H
       replace H : (if t325 = true then (if 0 ≤ a2 then (if a2 < (t319.length : Int) then ((impl_Body_isLive.f k1 ((rd_T68 l0_1 x23_1).f0) ((rd_T68 l0_1 x23_1).f1) ((rd_T68 l0_1 x23_1).f2) ((rd_T68 l0_1 x23_1).f3) (rd t319 a2)).bind fun t327 => (if t327 = true then (impl_Shared.l0 k1 a1 a2 t319 (wrap64 (x8_1 + 1)) l0_1 (l0_1.length : Int) (wrap64 (x23_1 + 1))) else (impl_Shared.l0 k1 a1 a2 t319 x8_1 l0_1 (l0_1.length : Int) (wrap64 (x23_1 + 1))))) else (none)) else (none)) else (impl_Shared.l0 k1 a1 a2 t319 x8_1 l0_1 (l0_1.length : Int) (wrap64 (x23_1 + 1)))) = some r := H
       have A21 := Aside0.mk A210
       clear A210
       by_cases c22 : t325 = true
       ·subst c22
        have H1 : (if 0 ≤ a2 then (if a2 < (t319.length : Int) then ((impl_Body_isLive.f k1 ((rd_T68 l0_1 x23_1).f0) ((rd_T68 l0_1 x23_1).f1) ((rd_T68 l0_1 x23_1).f2) ((rd_T68 l0_1 x23_1).f3) (rd t319 a2)).bind fun t327 => (if t327 = true then (impl_Shared.l0 k1 a1 a2 t319 (wrap64 (x8_1 + 1)) l0_1 (l0_1.length : Int) (wrap64 (x23_1 + 1))) else (impl_Shared.l0 k1 a1 a2 t319 x8_1 l0_1 (l0_1.length : Int) (wrap64 (x23_1 + 1))))) else (none)) else (none)) = some r := by rw [if_pos rfl] at H; exact H
        clear H
        have H := H1
        clear H1
        by_cases c23 : 0 ≤ a2
        case neg =>
         rw [if_neg c23] at H
         exact absurd H (by simp)
        rw [if_pos c23] at H
        have c23b0 : decide (0 ≤ a2) = true := decide_eq_true c23
        clear c23
        by_cases c24 : a2 < (t319.length : Int)
        case neg =>
         rw [if_neg c24] at H
         exact absurd H (by simp)
        rw [if_pos c24] at H
        have c24b0 : decide (a2 < (t319.length : Int)) = true := decide_eq_true c24
        clear c24
        replace H := Option.bind_eq_some_iff.mp H
        obtain ⟨t327, A250, H⟩ := H
        replace H : (if t327 = true then (impl_Shared.l0 k1 a1 a2 t319 (wrap64 (x8_1 + 1)) l0_1 (l0_1.length : Int) (wrap64 (x23_1 + 1))) else (impl_Shared.l0 k1 a1 a2 t319 x8_1 l0_1 (l0_1.length : Int) (wrap64 (x23_1 + 1)))) = some r := H
        have A25 := Aside0.mk A250
        clear A250
        by_cases c26 : t327 = true
        ·subst c26
         have H1 : (impl_Shared.l0 k1 a1 a2 t319 (wrap64 (x8_1 + 1)) l0_1 (l0_1.length : Int) (wrap64 (x23_1 + 1))) = some r := by rw [if_pos rfl] at H; exact H
         clear H
         have H := H1
         clear H1
         have H' := Aside0.mk H
         clear H
         have p322 : 0 ≤ (x23_1 : Int) := of_decide_eq_true q2_
         have q322 : x23_1 < (l0_1.length : Int) := of_decide_eq_true q2_
         obtain ⟨ad322, A322_3, c322_3, e322, hx322_0, hx322_1, hx322_2, hx322_3, hl322_3, hi322_3⟩ := at_T68 HR0_1.out x23_1 p322 q322
         cases e322
         replace hx322_0 := (HB.out.cell (World.block_lt_of_cell? w _ hx322_0)).trans hx322_0
         replace hx322_1 := (HB.out.cell (World.block_lt_of_cell? w _ hx322_1)).trans hx322_1
         replace hx322_2 := (HB.out.cell (World.block_lt_of_cell? w _ hx322_2)).trans hx322_2
         replace hx322_3 := (HB.out.cell (World.block_lt_of_cell? w _ hx322_3)).trans hx322_3
         have HR322_3 := Aside0.mk hi322_3
         have HC322_3 := Aside0.mk hl322_3
         clear hi322_3 hl322_3
         replace p322 := eq_true p322
         replace q322 := eq_true q322
         try go_wp2_with (first | ((with_reducible refine gate_dst (N := 10) rfl ?_); refine box_event ?hg (N := 10) ?hd (cs := #[.string (⟨#[]⟩ : ByteArray), .int .i64 0, .int .i64 0, .slice none 0 0]) (t := 68) ?hr ?_; (case hd => rfl); (case hg => rfl); (case hr => first | (go_simp; done) | (go_simp; rfl)); intro gb323 hg w27 hbox hb; have n0_ := Aside0.mk (Kd.R_below q42_ hb); have n1_ := Aside0.mk (blk_below (g := gb314) (o := .cells #[.slice A0_0 l0_0.length c0_0, .slice (some ad322) l0_1.length c0_1] 30 (0, 0)) q12_ hb); have n2_ := Aside0.mk (below_step q9_ hb); have n3_ := Aside0.mk (hbox); have n4_ := Aside0.mk ((by rw [hg]; exact (below_size q9_) : w.heap.size ≤ gb323)); have n5_ := Aside0.mk ((by rw [hg]; exact (below_size q9_) : w.heap.size ≤ gb323)); have n6_ := Aside0.mk ((by rw [hg]; exact Nat.ne_of_lt (blk_lt (g := gb314) (o := .cells #[.slice A0_0 l0_0.length c0_0, .slice (some ad322) l0_1.length c0_1] 30 (0, 0)) q12_) : gb314 ≠ gb323)); have n7_ := Aside0.mk ((by rw [hg]; exact Nat.ne_of_gt (blk_lt (g := gb314) (o := .cells #[.slice A0_0 l0_0.length c0_0, .slice (some ad322) l0_1.length c0_1] 30 (0, 0)) q12_) : gb323 ≠ gb314)); clear HO_7; clear BK314; clear HB; have HO_7 := n0_; have BK314 := n1_; have HB := n2_; have BK323 := n3_; have GW323 := n4_; have GE323 := n5_; have NB314_323 := n6_; have NB323_314 := n7_; clear n0_ n1_ n2_ n3_ n4_ n5_ n6_ n7_; clear hb hbox hg; have hnb28 := NB323_314.out; have hnc28 := NB314_323.out; have hcz29_0 : w27.cell? ⟨gb323, 0, none⟩ = some (.string (⟨#[]⟩ : ByteArray)) := (blk_cell BK323.out 0).trans rfl; have hcz29_1 : w27.cell? ⟨gb323, 1, none⟩ = some (.int .i64 0) := (blk_cell BK323.out 1).trans rfl; have hcz29_2 : w27.cell? ⟨gb323, 2, none⟩ = some (.int .i64 0) := (blk_cell BK323.out 2).trans rfl; have hcz29_3 : w27.cell? ⟨gb323, 3, none⟩ = some (.slice none 0 0) := (blk_cell BK323.out 3).trans rfl; have hfz29_0 := blk_frozen BK323.out 0; have hfz29_1 := blk_frozen BK323.out 1; have hfz29_2 := blk_frozen BK323.out 2; have hfz29_3 := blk_frozen BK323.out 3))
         have n0_ : Aside0 (Kd.R (Kd.int .u64) 86 ((((w27.setCell ⟨gb323, 0, none⟩ (.string ((rd_T68 l0_1 x23_1).f0))).setCell ⟨gb323, 1, none⟩ (.int .i64 ((rd_T68 l0_1 x23_1).f1))).setCell ⟨gb323, 2, none⟩ (.int .i64 ((rd_T68 l0_1 x23_1).f2))).setCell ⟨gb323, 3, none⟩ (.slice A322_3 ((rd_T68 l0_1 x23_1).f3).length c322_3)) w.heap.size (fun _ => True) v320 t319) := ⟨by (with_reducible repeat (first | apply Kd.R_alloc | apply Kd.R_drewN | apply Kd.R_drew)); exact Kd.R_mono (Kd.R_far (p := ⟨gb323, 3, none⟩) (Kd.R_far (p := ⟨gb323, 2, none⟩) (Kd.R_far (p := ⟨gb323, 1, none⟩) (Kd.R_far (p := ⟨gb323, 0, none⟩) (Kd.R_types HO_7.out BK323.out (by decide)) (fun _ hk => hk.2) (.string ((rd_T68 l0_1 x23_1).f0))) (fun _ hk => hk.2) (.int .i64 ((rd_T68 l0_1 x23_1).f1))) (fun _ hk => hk.2) (.int .i64 ((rd_T68 l0_1 x23_1).f2))) (fun _ hk => hk.2) (.slice A322_3 ((rd_T68 l0_1 x23_1).f3).length c322_3)) (fun _ hk => trivial)⟩
         have n1_ : Aside0 (((((w27.setCell ⟨gb323, 0, none⟩ (.string ((rd_T68 l0_1 x23_1).f0))).setCell ⟨gb323, 1, none⟩ (.int .i64 ((rd_T68 l0_1 x23_1).f1))).setCell ⟨gb323, 2, none⟩ (.int .i64 ((rd_T68 l0_1 x23_1).f2))).setCell ⟨gb323, 3, none⟩ (.slice A322_3 ((rd_T68 l0_1 x23_1).f3).length c322_3)).heap[gb314]? = some (.cells #[.slice A0_0 l0_0.length c0_0, .slice (some ad322) l0_1.length c0_1] 30 (0, 0))) := ⟨by (with_reducible repeat (first | refine blk_drewN ?_ _ | refine blk_drew ?_ | refine blk_alloc ?_ _)); refine blk_far ?_ NB314_323.out _; (with_reducible repeat (first | refine blk_drewN ?_ _ | refine blk_drew ?_ | refine blk_alloc ?_ _)); refine blk_far ?_ NB314_323.out _; (with_reducible repeat (first | refine blk_drewN ?_ _ | refine blk_drew ?_ | refine blk_alloc ?_ _)); refine blk_far ?_ NB314_323.out _; (with_reducible repeat (first | refine blk_drewN ?_ _ | refine blk_drew ?_ | refine blk_alloc ?_ _)); refine blk_far ?_ NB314_323.out _; (with_reducible repeat (first | refine blk_drewN ?_ _ | refine blk_drew ?_ | refine blk_alloc ?_ _)); exact BK314.out⟩
         have n2_ : Aside0 (((((w27.setCell ⟨gb323, 0, none⟩ (.string ((rd_T68 l0_1 x23_1).f0))).setCell ⟨gb323, 1, none⟩ (.int .i64 ((rd_T68 l0_1 x23_1).f1))).setCell ⟨gb323, 2, none⟩ (.int .i64 ((rd_T68 l0_1 x23_1).f2))).setCell ⟨gb323, 3, none⟩ (.slice A322_3 ((rd_T68 l0_1 x23_1).f3).length c322_3)).heap[gb323]? = some (.cells #[.string ((rd_T68 l0_1 x23_1).f0), .int .i64 ((rd_T68 l0_1 x23_1).f1), .int .i64 ((rd_T68 l0_1 x23_1).f2), .slice A322_3 ((rd_T68 l0_1 x23_1).f3).length c322_3] 68 (0, 0))) := ⟨by (with_reducible repeat (first | refine blk_drewN ?_ _ | refine blk_drew ?_ | refine blk_alloc ?_ _)); refine blk_put (cs := #[.string ((rd_T68 l0_1 x23_1).f0), .int .i64 ((rd_T68 l0_1 x23_1).f1), .int .i64 ((rd_T68 l0_1 x23_1).f2), .slice none 0 0]) ?_ 3 _ rfl; (with_reducible repeat (first | refine blk_drewN ?_ _ | refine blk_drew ?_ | refine blk_alloc ?_ _)); refine blk_put (cs := #[.string ((rd_T68 l0_1 x23_1).f0), .int .i64 ((rd_T68 l0_1 x23_1).f1), .int .i64 0, .slice none 0 0]) ?_ 2 _ rfl; (with_reducible repeat (first | refine blk_drewN ?_ _ | refine blk_drew ?_ | refine blk_alloc ?_ _)); refine blk_put (cs := #[.string ((rd_T68 l0_1 x23_1).f0), .int .i64 0, .int .i64 0, .slice none 0 0]) ?_ 1 _ rfl; (with_reducible repeat (first | refine blk_drewN ?_ _ | refine blk_drew ?_ | refine blk_alloc ?_ _)); refine blk_put (cs := #[.string (⟨#[]⟩ : ByteArray), .int .i64 0, .int .i64 0, .slice none 0 0]) ?_ 0 _ rfl; (with_reducible repeat (first | refine blk_drewN ?_ _ | refine blk_drew ?_ | refine blk_alloc ?_ _)); exact BK323.out⟩
         have n3_ : Aside0 (Below w.heap.size w ((((w27.setCell ⟨gb323, 0, none⟩ (.string ((rd_T68 l0_1 x23_1).f0))).setCell ⟨gb323, 1, none⟩ (.int .i64 ((rd_T68 l0_1 x23_1).f1))).setCell ⟨gb323, 2, none⟩ (.int .i64 ((rd_T68 l0_1 x23_1).f2))).setCell ⟨gb323, 3, none⟩ (.slice A322_3 ((rd_T68 l0_1 x23_1).f3).length c322_3))) := ⟨by repeat (first | (with_reducible first | exact HB.out | apply below_alloc | apply pw_below_drewN | apply below_drew1 | refine below_set ?_ GE314.out | refine below_set ?_ GE323.out) | exact HB.out)⟩
         (try clear HO_7)
         (try clear BK314)
         (try clear BK323)
         (try clear HB)
         generalize ((((w27.setCell ⟨gb323, 0, none⟩ (.string ((rd_T68 l0_1 x23_1).f0))).setCell ⟨gb323, 1, none⟩ (.int .i64 ((rd_T68 l0_1 x23_1).f1))).setCell ⟨gb323, 2, none⟩ (.int .i64 ((rd_T68 l0_1 x23_1).f2))).setCell ⟨gb323, 3, none⟩ (.slice A322_3 ((rd_T68 l0_1 x23_1).f3).length c322_3)) = w30 at n0_ n1_ n2_ n3_ ⊢
         have HO_7 := n0_
         have BK314 := n1_
         have BK323 := n2_
         have HB := n3_
         clear n0_ n1_ n2_ n3_
         have n0_ := Aside0.mk (Kd.R_drew HO_7.out)
         have n1_ := Aside0.mk (blk_drew BK314.out)
         have n2_ := Aside0.mk (blk_drew BK323.out)
         have n3_ := Aside0.mk (below_drew1 HB.out)
         clear HO_7
         clear BK314
         clear BK323
         clear HB
         have HO_7 := n0_
         have BK314 := n1_
         have BK323 := n2_
         have HB := n3_
         clear n0_ n1_ n2_ n3_
         obtain ⟨Ao32, co32, eo32⟩ := Kd.R_slice HO_7.out
         (first | subst eo32 | (injection eo32 with f1_ f2_ f3_; have f4_ := f1_.symm; have f5_ := f3_.symm; clear f1_ f2_ f3_; subst f4_; subst f5_))
         have p324 : 0 ≤ (a1 : Int) := of_decide_eq_true q2_
         have q324 : a1 < (t319.length : Int) := of_decide_eq_true q2_
         obtain ⟨ad324, e324, hx324_0⟩ := Kd.at_int (Kd.R_reads' HO_7.out).2.2 a1 p324 q324
         cases e324
         replace p324 := eq_true p324
         replace q324 := eq_true q324
         have p326 : 0 ≤ (a2 : Int) := of_decide_eq_true q2_
         have q326 : a2 < (t319.length : Int) := of_decide_eq_true q2_
         obtain ⟨ad326, e326, hx326_0⟩ := Kd.at_int (Kd.R_reads' HO_7.out).2.2 a2 p326 q326
         obtain rfl : ad324 = ad326 := (by injection e326)
         replace p326 := eq_true p326
         replace q326 := eq_true q326
         refine start_ (n := 14) (S := fun w' => w'.cell? ⟨gb323, 0, none⟩ = some (.string ((rd_T68 l0_1 x23_1).f0)) ∧ w'.cell? ⟨gb323, 1, none⟩ = some (.int .i64 ((rd_T68 l0_1 x23_1).f1)) ∧ w'.cell? ⟨gb323, 2, none⟩ = some (.int .i64 ((rd_T68 l0_1 x23_1).f2)) ∧ w'.cell? ⟨gb323, 3, none⟩ = some (.slice A322_3 ((rd_T68 l0_1 x23_1).f3).length c322_3) ∧ w'.cell? (ad324.add (a1).toNat) = some (.int .u64 (rd t319 a1)) ∧ w'.cell? (ad324.add (a2).toNat) = some (.int .u64 (rd t319 a2))) (ds := []) bv11_0 (by kernel_rfl) rfl rfl ⟨(blk_cell BK323.out 0).trans rfl, (blk_cell BK323.out 1).trans rfl, (blk_cell BK323.out 2).trans rfl, (blk_cell BK323.out 3).trans rfl, hx324_0, hx326_0⟩ (fun hHeld => ?_); refine with_tabW impl_Shared.tab8 impl_Shared.bits8 (fun HT_ HW_ => ?_)
         generalize w30.drew = w31 at HO_7 BK314 BK323 HB hx324_0 hx326_0 hHeld ⊢
         refine pure_ (i := 1) (N := some 28) (v := ?_) (a' := ?_) bv11_1 rfl rfl (any_of HT_.out (by kernel_rfl)) (fun _ _ _ h => h) (Or.inl ⟨by rfl, ?_⟩) ?_ ?_
         rotate_left; exact pw_; rotate_left; exact pz_
         refine pure_ (i := 2) (N := some 29) (v := ?_) (a' := ?_) bv11_2 rfl rfl (any_of HT_.out (by kernel_rfl)) (fun _ _ _ h => h) (Or.inl ⟨by rfl, ?_⟩) ?_ ?_
         rotate_left; exact pw_; rotate_left; exact pz_
         refine pure_ (i := 3) (N := some 30) (v := ?_) (a' := ?_) bv11_3 rfl rfl (any_of HT_.out (by kernel_rfl)) (fun _ _ _ h => h) (Or.inl ⟨by rfl, ?_⟩) ?_ ?_
         rotate_left; exact pw_; rotate_left; exact pz_
         refine take_ (i := 0) (N := some 27) (v := ?_) (a' := ?_) bv11_4 rfl rfl (take_ofW HT_.out HW_.out (by kernel_rfl)) (fun _ _ _ h => h) (Or.inl ⟨by rfl, ?_⟩) hHeld ?_ ?_
         rotate_left; exact pw6_; rotate_left; exact pz_
         refine take_ (i := 4) (N := some 31) (v := ?_) (a' := ?_) bv11_5 rfl rfl (take_ofW HT_.out HW_.out (by kernel_rfl)) (fun _ _ _ h => h) (Or.inl ⟨by rfl, ?_⟩) hHeld ?_ ?_
         rotate_left; exact pw6_; rotate_left; exact pz_
         refine one_ (i := 5) (N := some 32) bv11_6 rfl rfl (one_of HT_.out (by kernel_rfl)) (by decide) (fun K hK => ?_)
         refine goes_ Try.func68 (by kernel_rfl) rfl #[.agg #[.string ((rd_T68 l0_1 x23_1).f0), .int .i64 ((rd_T68 l0_1 x23_1).f1), .int .i64 ((rd_T68 l0_1 x23_1).f2), .slice A322_3 ((rd_T68 l0_1 x23_1).f3).length c322_3], .int .u64 (rd t319 a1)] (by rfl) rfl rfl q0_ ?_
         with_reducible refine (impl_Body_isLive.calls k1 ((rd_T68 l0_1 x23_1).f0) ((rd_T68 l0_1 x23_1).f1) ((rd_T68 l0_1 x23_1).f2) _ _ ((rd_T68 l0_1 x23_1).f3) (rd t319 a1) true _ ?side1 ?side2 A21.out).mono ?_
         (case side1 => exact q41_)
         (case side2 => exact HC322_3.out)
         rintro e w33 ⟨rfl, hb⟩
         have HS4_ := (hb.cell (World.block_lt_of_cell? _ _ (hHeld.2.2.2.2.1))).trans (hHeld.2.2.2.2.1)
         have HS5_ := (hb.cell (World.block_lt_of_cell? _ _ (hHeld.2.2.2.2.2))).trans (hHeld.2.2.2.2.2)
         refine ⟨_, rfl, ?_⟩
         have n0_ := Aside0.mk (Kd.R_below q42_ hb)
         have n1_ := Aside0.mk (blk_below (g := gb314) (o := .cells #[.slice A0_0 l0_0.length c0_0, .slice (some ad322) l0_1.length c0_1] 30 (0, 0)) q12_ hb)
         have n2_ := Aside0.mk (blk_below (g := gb323) (o := .cells #[.string ((rd_T68 l0_1 x23_1).f0), .int .i64 ((rd_T68 l0_1 x23_1).f1), .int .i64 ((rd_T68 l0_1 x23_1).f2), .slice A322_3 ((rd_T68 l0_1 x23_1).f3).length c322_3] 68 (0, 0)) q55_ hb)
         have n3_ := Aside0.mk (below_step q34_ hb)
         clear HO_7
         clear BK314
         clear BK323
         clear HB
         have HO_7 := n0_
         have BK314 := n1_
         have BK323 := n2_
         have HB := n3_
         clear n0_ n1_ n2_ n3_
         (try clear hb)
         (try clear hb2)
         (try clear hk)
         (try clear hi)
         refine hK.out _ _ ⟨(blk_cell BK323.out 0).trans rfl, (blk_cell BK323.out 1).trans rfl, (blk_cell BK323.out 2).trans rfl, (blk_cell BK323.out 3).trans rfl, HS4_, HS5_⟩ (fun hHeld => ?_)
         clear hK K
         refine norm_ (a' := ?_) ?_ ?_
         rotate_left
         ·show Act.put _ (some 32) _ = _
          simp only [Act.put, List.setIfInBounds_toArray, List.set_cons_zero, List.set_cons_succ, i64_w, i32_w]
          rfl
         refine pure_ (i := 6) (N := some 33) (v := ?_) (a' := ?_) bv11_7 rfl rfl (any_of HT_.out (by kernel_rfl)) (fun _ _ _ h => h) (Or.inl ⟨by rfl, ?_⟩) ?_ ?_
         rotate_left; exact pw_; rotate_left; exact pz_
         refine pure_ (i := 8) (N := some 35) (v := ?_) (a' := ?_) #[true, true, true, true, true, true, true, false, true, false, false, false, false, false] rfl rfl (any_of HT_.out (by kernel_rfl)) (fun _ _ _ h => h) (Or.inl ⟨by rfl, ?_⟩) ?_ ?_
         rotate_left; exact pw_; rotate_left; exact pz_
         refine pure_ (i := 9) (N := some 36) (v := ?_) (a' := ?_) #[true, true, true, true, true, true, true, false, true, true, false, false, false, false] rfl rfl (any_of HT_.out (by kernel_rfl)) (fun _ _ _ h => h) (Or.inl ⟨by rfl, ?_⟩) ?_ ?_
         rotate_left; exact pw_; rotate_left; exact pz_
         refine pure_ (i := 10) (N := some 37) (v := ?_) (a' := ?_) #[true, true, true, true, true, true, true, false, true, true, true, false, false, false] rfl rfl (any_of HT_.out (by kernel_rfl)) (fun _ _ _ h => h) (Or.inl ⟨by rfl, ?_⟩) ?_ ?_
         rotate_left; exact pw_; rotate_left; exact pz_
         refine take_ (i := 7) (N := some 34) (v := ?_) (a' := ?_) bv11_8 rfl rfl (take_ofW HT_.out HW_.out (by kernel_rfl)) (fun _ _ _ h => h) (Or.inl ⟨by rfl, ?_⟩) hHeld ?_ ?_
         rotate_left; exact pw6_; rotate_left; exact pz_
         refine take_ (i := 11) (N := some 38) (v := ?_) (a' := ?_) bv11_9 rfl rfl (take_ofW HT_.out HW_.out (by kernel_rfl)) (fun _ _ _ h => h) (Or.inl ⟨by rfl, ?_⟩) hHeld ?_ ?_
         rotate_left; exact pw6_; rotate_left; exact pz_
         refine one_ (i := 12) (N := some 39) bv11_10 rfl rfl (one_of HT_.out (by kernel_rfl)) (by decide) (fun K hK => ?_)
         refine goes_ Try.func68 (by kernel_rfl) rfl #[.agg #[.string ((rd_T68 l0_1 x23_1).f0), .int .i64 ((rd_T68 l0_1 x23_1).f1), .int .i64 ((rd_T68 l0_1 x23_1).f2), .slice A322_3 ((rd_T68 l0_1 x23_1).f3).length c322_3], .int .u64 (rd t319 a2)] (by rfl) rfl rfl q0_ ?_
         with_reducible refine (impl_Body_isLive.calls k1 ((rd_T68 l0_1 x23_1).f0) ((rd_T68 l0_1 x23_1).f1) ((rd_T68 l0_1 x23_1).f2) _ _ ((rd_T68 l0_1 x23_1).f3) (rd t319 a2) true _ ?side1 ?side2 A25.out).mono ?_
         (case side1 => exact q41_)
         (case side2 => exact HC322_3.out)
         rintro e w34 ⟨rfl, hb⟩
         have HS4_ := (hb.cell (World.block_lt_of_cell? _ _ (hHeld.2.2.2.2.1))).trans (hHeld.2.2.2.2.1)
         have HS5_ := (hb.cell (World.block_lt_of_cell? _ _ (hHeld.2.2.2.2.2))).trans (hHeld.2.2.2.2.2)
         refine ⟨_, rfl, ?_⟩
         have n0_ := Aside0.mk (Kd.R_below q42_ hb)
         have n1_ := Aside0.mk (blk_below (g := gb314) (o := .cells #[.slice A0_0 l0_0.length c0_0, .slice (some ad322) l0_1.length c0_1] 30 (0, 0)) q12_ hb)
         have n2_ := Aside0.mk (blk_below (g := gb323) (o := .cells #[.string ((rd_T68 l0_1 x23_1).f0), .int .i64 ((rd_T68 l0_1 x23_1).f1), .int .i64 ((rd_T68 l0_1 x23_1).f2), .slice A322_3 ((rd_T68 l0_1 x23_1).f3).length c322_3] 68 (0, 0)) q55_ hb)
         have n3_ := Aside0.mk (below_step q34_ hb)
         clear HO_7
         clear BK314
         clear BK323
         clear HB
         have HO_7 := n0_
         have BK314 := n1_
         have BK323 := n2_
         have HB := n3_
         clear n0_ n1_ n2_ n3_
         (try clear hb)
         (try clear hb2)
         (try clear hk)
         (try clear hi)
         refine hK.out _ _ ⟨(blk_cell BK323.out 0).trans rfl, (blk_cell BK323.out 1).trans rfl, (blk_cell BK323.out 2).trans rfl, (blk_cell BK323.out 3).trans rfl, HS4_, HS5_⟩ (fun hHeld => ?_)
         clear hK K
         refine norm_ (a' := ?_) ?_ ?_
         rotate_left
         ·show Act.put _ (some 39) _ = _
          simp only [Act.put, List.setIfInBounds_toArray, List.set_cons_zero, List.set_cons_succ, i64_w, i32_w]
          rfl
         refine pure_ (i := 13) (N := some 40) (v := ?_) (a' := ?_) bv11_11 rfl rfl (any_of HT_.out (by kernel_rfl)) (fun _ _ _ h => h) (Or.inl ⟨by rfl, ?_⟩) ?_ ?_
         rotate_left; exact pw_; rotate_left; exact pz_
         refine done_ (done_of HT_.out (by kernel_rfl)) ?_
         try go_wp2
         go_roundg k1
         case measure => have := HK1.out; omega
         case rel => exact ⟨(wrap64 (x8_1 + 1)), (wrap64 (x23_1 + 1)), q6_, q6_, H', ⟨by have := HK1.out; omega⟩, ⟨by (with_reducible repeat (first | apply Kd.R_alloc | apply Kd.R_drewN | apply Kd.R_drew)); exact HO_7.out⟩, ⟨by (with_reducible repeat (first | refine blk_drewN ?_ _ | refine blk_drew ?_ | refine blk_alloc ?_ _)); exact BK314.out⟩, ⟨by repeat (first | (with_reducible first | exact HB.out | apply below_alloc | apply pw_below_drewN | apply below_drew1 | refine below_set ?_ GE314.out | refine below_set ?_ GE323.out) | exact HB.out)⟩⟩
        ·replace c26 := Bool.eq_false_iff.mpr c26
         subst c26
         have H1 : (impl_Shared.l0 k1 a1 a2 t319 x8_1 l0_1 (l0_1.length : Int) (wrap64 (x23_1 + 1))) = some r := by rw [if_neg (show ¬ (false = true) by decide)] at H; exact H
         clear H
         have H := H1
         clear H1
         have H' := Aside0.mk H
         clear H
         have p322 : 0 ≤ (x23_1 : Int) := of_decide_eq_true q2_
         have q322 : x23_1 < (l0_1.length : Int) := of_decide_eq_true q2_
         obtain ⟨ad322, A322_3, c322_3, e322, hx322_0, hx322_1, hx322_2, hx322_3, hl322_3, hi322_3⟩ := at_T68 HR0_1.out x23_1 p322 q322
         cases e322
         replace hx322_0 := (HB.out.cell (World.block_lt_of_cell? w _ hx322_0)).trans hx322_0
         replace hx322_1 := (HB.out.cell (World.block_lt_of_cell? w _ hx322_1)).trans hx322_1
         replace hx322_2 := (HB.out.cell (World.block_lt_of_cell? w _ hx322_2)).trans hx322_2
         replace hx322_3 := (HB.out.cell (World.block_lt_of_cell? w _ hx322_3)).trans hx322_3
         have HR322_3 := Aside0.mk hi322_3
         have HC322_3 := Aside0.mk hl322_3
         clear hi322_3 hl322_3
         replace p322 := eq_true p322
         replace q322 := eq_true q322
         try go_wp2_with (first | ((with_reducible refine gate_dst (N := 10) rfl ?_); refine box_event ?hg (N := 10) ?hd (cs := #[.string (⟨#[]⟩ : ByteArray), .int .i64 0, .int .i64 0, .slice none 0 0]) (t := 68) ?hr ?_; (case hd => rfl); (case hg => rfl); (case hr => first | (go_simp; done) | (go_simp; rfl)); intro gb323 hg w35 hbox hb; have n0_ := Aside0.mk (Kd.R_below q42_ hb); have n1_ := Aside0.mk (blk_below (g := gb314) (o := .cells #[.slice A0_0 l0_0.length c0_0, .slice (some ad322) l0_1.length c0_1] 30 (0, 0)) q12_ hb); have n2_ := Aside0.mk (below_step q9_ hb); have n3_ := Aside0.mk (hbox); have n4_ := Aside0.mk ((by rw [hg]; exact (below_size q9_) : w.heap.size ≤ gb323)); have n5_ := Aside0.mk ((by rw [hg]; exact (below_size q9_) : w.heap.size ≤ gb323)); have n6_ := Aside0.mk ((by rw [hg]; exact Nat.ne_of_lt (blk_lt (g := gb314) (o := .cells #[.slice A0_0 l0_0.length c0_0, .slice (some ad322) l0_1.length c0_1] 30 (0, 0)) q12_) : gb314 ≠ gb323)); have n7_ := Aside0.mk ((by rw [hg]; exact Nat.ne_of_gt (blk_lt (g := gb314) (o := .cells #[.slice A0_0 l0_0.length c0_0, .slice (some ad322) l0_1.length c0_1] 30 (0, 0)) q12_) : gb323 ≠ gb314)); clear HO_7; clear BK314; clear HB; have HO_7 := n0_; have BK314 := n1_; have HB := n2_; have BK323 := n3_; have GW323 := n4_; have GE323 := n5_; have NB314_323 := n6_; have NB323_314 := n7_; clear n0_ n1_ n2_ n3_ n4_ n5_ n6_ n7_; clear hb hbox hg; have hnb36 := NB323_314.out; have hnc36 := NB314_323.out; have hcz37_0 : w35.cell? ⟨gb323, 0, none⟩ = some (.string (⟨#[]⟩ : ByteArray)) := (blk_cell BK323.out 0).trans rfl; have hcz37_1 : w35.cell? ⟨gb323, 1, none⟩ = some (.int .i64 0) := (blk_cell BK323.out 1).trans rfl; have hcz37_2 : w35.cell? ⟨gb323, 2, none⟩ = some (.int .i64 0) := (blk_cell BK323.out 2).trans rfl; have hcz37_3 : w35.cell? ⟨gb323, 3, none⟩ = some (.slice none 0 0) := (blk_cell BK323.out 3).trans rfl; have hfz37_0 := blk_frozen BK323.out 0; have hfz37_1 := blk_frozen BK323.out 1; have hfz37_2 := blk_frozen BK323.out 2; have hfz37_3 := blk_frozen BK323.out 3))
         have n0_ : Aside0 (Kd.R (Kd.int .u64) 86 ((((w35.setCell ⟨gb323, 0, none⟩ (.string ((rd_T68 l0_1 x23_1).f0))).setCell ⟨gb323, 1, none⟩ (.int .i64 ((rd_T68 l0_1 x23_1).f1))).setCell ⟨gb323, 2, none⟩ (.int .i64 ((rd_T68 l0_1 x23_1).f2))).setCell ⟨gb323, 3, none⟩ (.slice A322_3 ((rd_T68 l0_1 x23_1).f3).length c322_3)) w.heap.size (fun _ => True) v320 t319) := ⟨by (with_reducible repeat (first | apply Kd.R_alloc | apply Kd.R_drewN | apply Kd.R_drew)); exact Kd.R_mono (Kd.R_far (p := ⟨gb323, 3, none⟩) (Kd.R_far (p := ⟨gb323, 2, none⟩) (Kd.R_far (p := ⟨gb323, 1, none⟩) (Kd.R_far (p := ⟨gb323, 0, none⟩) (Kd.R_types HO_7.out BK323.out (by decide)) (fun _ hk => hk.2) (.string ((rd_T68 l0_1 x23_1).f0))) (fun _ hk => hk.2) (.int .i64 ((rd_T68 l0_1 x23_1).f1))) (fun _ hk => hk.2) (.int .i64 ((rd_T68 l0_1 x23_1).f2))) (fun _ hk => hk.2) (.slice A322_3 ((rd_T68 l0_1 x23_1).f3).length c322_3)) (fun _ hk => trivial)⟩
         have n1_ : Aside0 (((((w35.setCell ⟨gb323, 0, none⟩ (.string ((rd_T68 l0_1 x23_1).f0))).setCell ⟨gb323, 1, none⟩ (.int .i64 ((rd_T68 l0_1 x23_1).f1))).setCell ⟨gb323, 2, none⟩ (.int .i64 ((rd_T68 l0_1 x23_1).f2))).setCell ⟨gb323, 3, none⟩ (.slice A322_3 ((rd_T68 l0_1 x23_1).f3).length c322_3)).heap[gb314]? = some (.cells #[.slice A0_0 l0_0.length c0_0, .slice (some ad322) l0_1.length c0_1] 30 (0, 0))) := ⟨by (with_reducible repeat (first | refine blk_drewN ?_ _ | refine blk_drew ?_ | refine blk_alloc ?_ _)); refine blk_far ?_ NB314_323.out _; (with_reducible repeat (first | refine blk_drewN ?_ _ | refine blk_drew ?_ | refine blk_alloc ?_ _)); refine blk_far ?_ NB314_323.out _; (with_reducible repeat (first | refine blk_drewN ?_ _ | refine blk_drew ?_ | refine blk_alloc ?_ _)); refine blk_far ?_ NB314_323.out _; (with_reducible repeat (first | refine blk_drewN ?_ _ | refine blk_drew ?_ | refine blk_alloc ?_ _)); refine blk_far ?_ NB314_323.out _; (with_reducible repeat (first | refine blk_drewN ?_ _ | refine blk_drew ?_ | refine blk_alloc ?_ _)); exact BK314.out⟩
         have n2_ : Aside0 (((((w35.setCell ⟨gb323, 0, none⟩ (.string ((rd_T68 l0_1 x23_1).f0))).setCell ⟨gb323, 1, none⟩ (.int .i64 ((rd_T68 l0_1 x23_1).f1))).setCell ⟨gb323, 2, none⟩ (.int .i64 ((rd_T68 l0_1 x23_1).f2))).setCell ⟨gb323, 3, none⟩ (.slice A322_3 ((rd_T68 l0_1 x23_1).f3).length c322_3)).heap[gb323]? = some (.cells #[.string ((rd_T68 l0_1 x23_1).f0), .int .i64 ((rd_T68 l0_1 x23_1).f1), .int .i64 ((rd_T68 l0_1 x23_1).f2), .slice A322_3 ((rd_T68 l0_1 x23_1).f3).length c322_3] 68 (0, 0))) := ⟨by (with_reducible repeat (first | refine blk_drewN ?_ _ | refine blk_drew ?_ | refine blk_alloc ?_ _)); refine blk_put (cs := #[.string ((rd_T68 l0_1 x23_1).f0), .int .i64 ((rd_T68 l0_1 x23_1).f1), .int .i64 ((rd_T68 l0_1 x23_1).f2), .slice none 0 0]) ?_ 3 _ rfl; (with_reducible repeat (first | refine blk_drewN ?_ _ | refine blk_drew ?_ | refine blk_alloc ?_ _)); refine blk_put (cs := #[.string ((rd_T68 l0_1 x23_1).f0), .int .i64 ((rd_T68 l0_1 x23_1).f1), .int .i64 0, .slice none 0 0]) ?_ 2 _ rfl; (with_reducible repeat (first | refine blk_drewN ?_ _ | refine blk_drew ?_ | refine blk_alloc ?_ _)); refine blk_put (cs := #[.string ((rd_T68 l0_1 x23_1).f0), .int .i64 0, .int .i64 0, .slice none 0 0]) ?_ 1 _ rfl; (with_reducible repeat (first | refine blk_drewN ?_ _ | refine blk_drew ?_ | refine blk_alloc ?_ _)); refine blk_put (cs := #[.string (⟨#[]⟩ : ByteArray), .int .i64 0, .int .i64 0, .slice none 0 0]) ?_ 0 _ rfl; (with_reducible repeat (first | refine blk_drewN ?_ _ | refine blk_drew ?_ | refine blk_alloc ?_ _)); exact BK323.out⟩
         have n3_ : Aside0 (Below w.heap.size w ((((w35.setCell ⟨gb323, 0, none⟩ (.string ((rd_T68 l0_1 x23_1).f0))).setCell ⟨gb323, 1, none⟩ (.int .i64 ((rd_T68 l0_1 x23_1).f1))).setCell ⟨gb323, 2, none⟩ (.int .i64 ((rd_T68 l0_1 x23_1).f2))).setCell ⟨gb323, 3, none⟩ (.slice A322_3 ((rd_T68 l0_1 x23_1).f3).length c322_3))) := ⟨by repeat (first | (with_reducible first | exact HB.out | apply below_alloc | apply pw_below_drewN | apply below_drew1 | refine below_set ?_ GE314.out | refine below_set ?_ GE323.out) | exact HB.out)⟩
         (try clear HO_7)
         (try clear BK314)
         (try clear BK323)
         (try clear HB)
         generalize ((((w35.setCell ⟨gb323, 0, none⟩ (.string ((rd_T68 l0_1 x23_1).f0))).setCell ⟨gb323, 1, none⟩ (.int .i64 ((rd_T68 l0_1 x23_1).f1))).setCell ⟨gb323, 2, none⟩ (.int .i64 ((rd_T68 l0_1 x23_1).f2))).setCell ⟨gb323, 3, none⟩ (.slice A322_3 ((rd_T68 l0_1 x23_1).f3).length c322_3)) = w38 at n0_ n1_ n2_ n3_ ⊢
         have HO_7 := n0_
         have BK314 := n1_
         have BK323 := n2_
         have HB := n3_
         clear n0_ n1_ n2_ n3_
         have n0_ := Aside0.mk (Kd.R_drew HO_7.out)
         have n1_ := Aside0.mk (blk_drew BK314.out)
         have n2_ := Aside0.mk (blk_drew BK323.out)
         have n3_ := Aside0.mk (below_drew1 HB.out)
         clear HO_7
         clear BK314
         clear BK323
         clear HB
         have HO_7 := n0_
         have BK314 := n1_
         have BK323 := n2_
         have HB := n3_
         clear n0_ n1_ n2_ n3_
         obtain ⟨Ao40, co40, eo40⟩ := Kd.R_slice HO_7.out
         (first | subst eo40 | (injection eo40 with f1_ f2_ f3_; have f4_ := f1_.symm; have f5_ := f3_.symm; clear f1_ f2_ f3_; subst f4_; subst f5_))
         have p324 : 0 ≤ (a1 : Int) := of_decide_eq_true q2_
         have q324 : a1 < (t319.length : Int) := of_decide_eq_true q2_
         obtain ⟨ad324, e324, hx324_0⟩ := Kd.at_int (Kd.R_reads' HO_7.out).2.2 a1 p324 q324
         cases e324
         replace p324 := eq_true p324
         replace q324 := eq_true q324
         have p326 : 0 ≤ (a2 : Int) := of_decide_eq_true q2_
         have q326 : a2 < (t319.length : Int) := of_decide_eq_true q2_
         obtain ⟨ad326, e326, hx326_0⟩ := Kd.at_int (Kd.R_reads' HO_7.out).2.2 a2 p326 q326
         obtain rfl : ad324 = ad326 := (by injection e326)
         replace p326 := eq_true p326
         replace q326 := eq_true q326
         refine start_ (n := 14) (S := fun w' => w'.cell? ⟨gb323, 0, none⟩ = some (.string ((rd_T68 l0_1 x23_1).f0)) ∧ w'.cell? ⟨gb323, 1, none⟩ = some (.int .i64 ((rd_T68 l0_1 x23_1).f1)) ∧ w'.cell? ⟨gb323, 2, none⟩ = some (.int .i64 ((rd_T68 l0_1 x23_1).f2)) ∧ w'.cell? ⟨gb323, 3, none⟩ = some (.slice A322_3 ((rd_T68 l0_1 x23_1).f3).length c322_3) ∧ w'.cell? (ad324.add (a1).toNat) = some (.int .u64 (rd t319 a1)) ∧ w'.cell? (ad324.add (a2).toNat) = some (.int .u64 (rd t319 a2))) (ds := []) bv11_0 (by kernel_rfl) rfl rfl ⟨(blk_cell BK323.out 0).trans rfl, (blk_cell BK323.out 1).trans rfl, (blk_cell BK323.out 2).trans rfl, (blk_cell BK323.out 3).trans rfl, hx324_0, hx326_0⟩ (fun hHeld => ?_); refine with_tabW impl_Shared.tab8 impl_Shared.bits8 (fun HT_ HW_ => ?_)
         generalize w38.drew = w39 at HO_7 BK314 BK323 HB hx324_0 hx326_0 hHeld ⊢
         refine pure_ (i := 1) (N := some 28) (v := ?_) (a' := ?_) bv11_1 rfl rfl (any_of HT_.out (by kernel_rfl)) (fun _ _ _ h => h) (Or.inl ⟨by rfl, ?_⟩) ?_ ?_
         rotate_left; exact pw_; rotate_left; exact pz_
         refine pure_ (i := 2) (N := some 29) (v := ?_) (a' := ?_) bv11_2 rfl rfl (any_of HT_.out (by kernel_rfl)) (fun _ _ _ h => h) (Or.inl ⟨by rfl, ?_⟩) ?_ ?_
         rotate_left; exact pw_; rotate_left; exact pz_
         refine pure_ (i := 3) (N := some 30) (v := ?_) (a' := ?_) bv11_3 rfl rfl (any_of HT_.out (by kernel_rfl)) (fun _ _ _ h => h) (Or.inl ⟨by rfl, ?_⟩) ?_ ?_
         rotate_left; exact pw_; rotate_left; exact pz_
         refine take_ (i := 0) (N := some 27) (v := ?_) (a' := ?_) bv11_4 rfl rfl (take_ofW HT_.out HW_.out (by kernel_rfl)) (fun _ _ _ h => h) (Or.inl ⟨by rfl, ?_⟩) hHeld ?_ ?_
         rotate_left; exact pw6_; rotate_left; exact pz_
         refine take_ (i := 4) (N := some 31) (v := ?_) (a' := ?_) bv11_5 rfl rfl (take_ofW HT_.out HW_.out (by kernel_rfl)) (fun _ _ _ h => h) (Or.inl ⟨by rfl, ?_⟩) hHeld ?_ ?_
         rotate_left; exact pw6_; rotate_left; exact pz_
         refine one_ (i := 5) (N := some 32) bv11_6 rfl rfl (one_of HT_.out (by kernel_rfl)) (by decide) (fun K hK => ?_)
         refine goes_ Try.func68 (by kernel_rfl) rfl #[.agg #[.string ((rd_T68 l0_1 x23_1).f0), .int .i64 ((rd_T68 l0_1 x23_1).f1), .int .i64 ((rd_T68 l0_1 x23_1).f2), .slice A322_3 ((rd_T68 l0_1 x23_1).f3).length c322_3], .int .u64 (rd t319 a1)] (by rfl) rfl rfl q0_ ?_
         with_reducible refine (impl_Body_isLive.calls k1 ((rd_T68 l0_1 x23_1).f0) ((rd_T68 l0_1 x23_1).f1) ((rd_T68 l0_1 x23_1).f2) _ _ ((rd_T68 l0_1 x23_1).f3) (rd t319 a1) true _ ?side1 ?side2 A21.out).mono ?_
         (case side1 => exact q41_)
         (case side2 => exact HC322_3.out)
         rintro e w41 ⟨rfl, hb⟩
         have HS4_ := (hb.cell (World.block_lt_of_cell? _ _ (hHeld.2.2.2.2.1))).trans (hHeld.2.2.2.2.1)
         have HS5_ := (hb.cell (World.block_lt_of_cell? _ _ (hHeld.2.2.2.2.2))).trans (hHeld.2.2.2.2.2)
         refine ⟨_, rfl, ?_⟩
         have n0_ := Aside0.mk (Kd.R_below q42_ hb)
         have n1_ := Aside0.mk (blk_below (g := gb314) (o := .cells #[.slice A0_0 l0_0.length c0_0, .slice (some ad322) l0_1.length c0_1] 30 (0, 0)) q12_ hb)
         have n2_ := Aside0.mk (blk_below (g := gb323) (o := .cells #[.string ((rd_T68 l0_1 x23_1).f0), .int .i64 ((rd_T68 l0_1 x23_1).f1), .int .i64 ((rd_T68 l0_1 x23_1).f2), .slice A322_3 ((rd_T68 l0_1 x23_1).f3).length c322_3] 68 (0, 0)) q55_ hb)
         have n3_ := Aside0.mk (below_step q34_ hb)
         clear HO_7
         clear BK314
         clear BK323
         clear HB
         have HO_7 := n0_
         have BK314 := n1_
         have BK323 := n2_
         have HB := n3_
         clear n0_ n1_ n2_ n3_
         (try clear hb)
         (try clear hb2)
         (try clear hk)
         (try clear hi)
         refine hK.out _ _ ⟨(blk_cell BK323.out 0).trans rfl, (blk_cell BK323.out 1).trans rfl, (blk_cell BK323.out 2).trans rfl, (blk_cell BK323.out 3).trans rfl, HS4_, HS5_⟩ (fun hHeld => ?_)
         clear hK K
         refine norm_ (a' := ?_) ?_ ?_
         rotate_left
         ·show Act.put _ (some 32) _ = _
          simp only [Act.put, List.setIfInBounds_toArray, List.set_cons_zero, List.set_cons_succ, i64_w, i32_w]
          rfl
         refine pure_ (i := 6) (N := some 33) (v := ?_) (a' := ?_) bv11_7 rfl rfl (any_of HT_.out (by kernel_rfl)) (fun _ _ _ h => h) (Or.inl ⟨by rfl, ?_⟩) ?_ ?_
         rotate_left; exact pw_; rotate_left; exact pz_
         refine pure_ (i := 8) (N := some 35) (v := ?_) (a' := ?_) #[true, true, true, true, true, true, true, false, true, false, false, false, false, false] rfl rfl (any_of HT_.out (by kernel_rfl)) (fun _ _ _ h => h) (Or.inl ⟨by rfl, ?_⟩) ?_ ?_
         rotate_left; exact pw_; rotate_left; exact pz_
         refine pure_ (i := 9) (N := some 36) (v := ?_) (a' := ?_) #[true, true, true, true, true, true, true, false, true, true, false, false, false, false] rfl rfl (any_of HT_.out (by kernel_rfl)) (fun _ _ _ h => h) (Or.inl ⟨by rfl, ?_⟩) ?_ ?_
         rotate_left; exact pw_; rotate_left; exact pz_
         refine pure_ (i := 10) (N := some 37) (v := ?_) (a' := ?_) #[true, true, true, true, true, true, true, false, true, true, true, false, false, false] rfl rfl (any_of HT_.out (by kernel_rfl)) (fun _ _ _ h => h) (Or.inl ⟨by rfl, ?_⟩) ?_ ?_
         rotate_left; exact pw_; rotate_left; exact pz_
         refine take_ (i := 7) (N := some 34) (v := ?_) (a' := ?_) bv11_8 rfl rfl (take_ofW HT_.out HW_.out (by kernel_rfl)) (fun _ _ _ h => h) (Or.inl ⟨by rfl, ?_⟩) hHeld ?_ ?_
         rotate_left; exact pw6_; rotate_left; exact pz_
         refine take_ (i := 11) (N := some 38) (v := ?_) (a' := ?_) bv11_9 rfl rfl (take_ofW HT_.out HW_.out (by kernel_rfl)) (fun _ _ _ h => h) (Or.inl ⟨by rfl, ?_⟩) hHeld ?_ ?_
         rotate_left; exact pw6_; rotate_left; exact pz_
         refine one_ (i := 12) (N := some 39) bv11_10 rfl rfl (one_of HT_.out (by kernel_rfl)) (by decide) (fun K hK => ?_)
         refine goes_ Try.func68 (by kernel_rfl) rfl #[.agg #[.string ((rd_T68 l0_1 x23_1).f0), .int .i64 ((rd_T68 l0_1 x23_1).f1), .int .i64 ((rd_T68 l0_1 x23_1).f2), .slice A322_3 ((rd_T68 l0_1 x23_1).f3).length c322_3], .int .u64 (rd t319 a2)] (by rfl) rfl rfl q0_ ?_
         with_reducible refine (impl_Body_isLive.calls k1 ((rd_T68 l0_1 x23_1).f0) ((rd_T68 l0_1 x23_1).f1) ((rd_T68 l0_1 x23_1).f2) _ _ ((rd_T68 l0_1 x23_1).f3) (rd t319 a2) false _ ?side1 ?side2 A25.out).mono ?_
         (case side1 => exact q41_)
         (case side2 => exact HC322_3.out)
         rintro e w42 ⟨rfl, hb⟩
         have HS4_ := (hb.cell (World.block_lt_of_cell? _ _ (hHeld.2.2.2.2.1))).trans (hHeld.2.2.2.2.1)
         have HS5_ := (hb.cell (World.block_lt_of_cell? _ _ (hHeld.2.2.2.2.2))).trans (hHeld.2.2.2.2.2)
         refine ⟨_, rfl, ?_⟩
         have n0_ := Aside0.mk (Kd.R_below q42_ hb)
         have n1_ := Aside0.mk (blk_below (g := gb314) (o := .cells #[.slice A0_0 l0_0.length c0_0, .slice (some ad322) l0_1.length c0_1] 30 (0, 0)) q12_ hb)
         have n2_ := Aside0.mk (blk_below (g := gb323) (o := .cells #[.string ((rd_T68 l0_1 x23_1).f0), .int .i64 ((rd_T68 l0_1 x23_1).f1), .int .i64 ((rd_T68 l0_1 x23_1).f2), .slice A322_3 ((rd_T68 l0_1 x23_1).f3).length c322_3] 68 (0, 0)) q55_ hb)
         have n3_ := Aside0.mk (below_step q34_ hb)
         clear HO_7
         clear BK314
         clear BK323
         clear HB
         have HO_7 := n0_
         have BK314 := n1_
         have BK323 := n2_
         have HB := n3_
         clear n0_ n1_ n2_ n3_
         (try clear hb)
         (try clear hb2)
         (try clear hk)
         (try clear hi)
         refine hK.out _ _ ⟨(blk_cell BK323.out 0).trans rfl, (blk_cell BK323.out 1).trans rfl, (blk_cell BK323.out 2).trans rfl, (blk_cell BK323.out 3).trans rfl, HS4_, HS5_⟩ (fun hHeld => ?_)
         clear hK K
         refine norm_ (a' := ?_) ?_ ?_
         rotate_left
         ·show Act.put _ (some 39) _ = _
          simp only [Act.put, List.setIfInBounds_toArray, List.set_cons_zero, List.set_cons_succ, i64_w, i32_w]
          rfl
         refine pure_ (i := 13) (N := some 40) (v := ?_) (a' := ?_) bv11_11 rfl rfl (any_of HT_.out (by kernel_rfl)) (fun _ _ _ h => h) (Or.inl ⟨by rfl, ?_⟩) ?_ ?_
         rotate_left; exact pw_; rotate_left; exact pz_
         refine done_ (done_of HT_.out (by kernel_rfl)) ?_
         try go_wp2
         go_roundg k1
         case measure => have := HK1.out; omega
         case rel => exact ⟨(x8_1), (wrap64 (x23_1 + 1)), q6_, q6_, H', ⟨by have := HK1.out; omega⟩, ⟨by (with_reducible repeat (first | apply Kd.R_alloc | apply Kd.R_drewN | apply Kd.R_drew)); exact HO_7.out⟩, ⟨by (with_reducible repeat (first | refine blk_drewN ?_ _ | refine blk_drew ?_ | refine blk_alloc ?_ _)); exact BK314.out⟩, ⟨by repeat (first | (with_reducible first | exact HB.out | apply below_alloc | apply pw_below_drewN | apply below_drew1 | refine below_set ?_ GE314.out | refine below_set ?_ GE323.out) | exact HB.out)⟩⟩
       ·replace c22 := Bool.eq_false_iff.mpr c22
        subst c22
        have H1 : (impl_Shared.l0 k1 a1 a2 t319 x8_1 l0_1 (l0_1.length : Int) (wrap64 (x23_1 + 1))) = some r := by rw [if_neg (show ¬ (false = true) by decide)] at H; exact H
        clear H
        have H := H1
        clear H1
        have H' := Aside0.mk H
        clear H
        have p322 : 0 ≤ (x23_1 : Int) := of_decide_eq_true q2_
        have q322 : x23_1 < (l0_1.length : Int) := of_decide_eq_true q2_
        obtain ⟨ad322, A322_3, c322_3, e322, hx322_0, hx322_1, hx322_2, hx322_3, hl322_3, hi322_3⟩ := at_T68 HR0_1.out x23_1 p322 q322
        cases e322
        replace hx322_0 := (HB.out.cell (World.block_lt_of_cell? w _ hx322_0)).trans hx322_0
        replace hx322_1 := (HB.out.cell (World.block_lt_of_cell? w _ hx322_1)).trans hx322_1
        replace hx322_2 := (HB.out.cell (World.block_lt_of_cell? w _ hx322_2)).trans hx322_2
        replace hx322_3 := (HB.out.cell (World.block_lt_of_cell? w _ hx322_3)).trans hx322_3
        have HR322_3 := Aside0.mk hi322_3
        have HC322_3 := Aside0.mk hl322_3
        clear hi322_3 hl322_3
        replace p322 := eq_true p322
        replace q322 := eq_true q322
        try go_wp2_with (first | ((with_reducible refine gate_dst (N := 10) rfl ?_); refine box_event ?hg (N := 10) ?hd (cs := #[.string (⟨#[]⟩ : ByteArray), .int .i64 0, .int .i64 0, .slice none 0 0]) (t := 68) ?hr ?_; (case hd => rfl); (case hg => rfl); (case hr => first | (go_simp; done) | (go_simp; rfl)); intro gb323 hg w43 hbox hb; have n0_ := Aside0.mk (Kd.R_below q42_ hb); have n1_ := Aside0.mk (blk_below (g := gb314) (o := .cells #[.slice A0_0 l0_0.length c0_0, .slice (some ad322) l0_1.length c0_1] 30 (0, 0)) q12_ hb); have n2_ := Aside0.mk (below_step q9_ hb); have n3_ := Aside0.mk (hbox); have n4_ := Aside0.mk ((by rw [hg]; exact (below_size q9_) : w.heap.size ≤ gb323)); have n5_ := Aside0.mk ((by rw [hg]; exact (below_size q9_) : w.heap.size ≤ gb323)); have n6_ := Aside0.mk ((by rw [hg]; exact Nat.ne_of_lt (blk_lt (g := gb314) (o := .cells #[.slice A0_0 l0_0.length c0_0, .slice (some ad322) l0_1.length c0_1] 30 (0, 0)) q12_) : gb314 ≠ gb323)); have n7_ := Aside0.mk ((by rw [hg]; exact Nat.ne_of_gt (blk_lt (g := gb314) (o := .cells #[.slice A0_0 l0_0.length c0_0, .slice (some ad322) l0_1.length c0_1] 30 (0, 0)) q12_) : gb323 ≠ gb314)); clear HO_7; clear BK314; clear HB; have HO_7 := n0_; have BK314 := n1_; have HB := n2_; have BK323 := n3_; have GW323 := n4_; have GE323 := n5_; have NB314_323 := n6_; have NB323_314 := n7_; clear n0_ n1_ n2_ n3_ n4_ n5_ n6_ n7_; clear hb hbox hg; have hnb44 := NB323_314.out; have hnc44 := NB314_323.out; have hcz45_0 : w43.cell? ⟨gb323, 0, none⟩ = some (.string (⟨#[]⟩ : ByteArray)) := (blk_cell BK323.out 0).trans rfl; have hcz45_1 : w43.cell? ⟨gb323, 1, none⟩ = some (.int .i64 0) := (blk_cell BK323.out 1).trans rfl; have hcz45_2 : w43.cell? ⟨gb323, 2, none⟩ = some (.int .i64 0) := (blk_cell BK323.out 2).trans rfl; have hcz45_3 : w43.cell? ⟨gb323, 3, none⟩ = some (.slice none 0 0) := (blk_cell BK323.out 3).trans rfl; have hfz45_0 := blk_frozen BK323.out 0; have hfz45_1 := blk_frozen BK323.out 1; have hfz45_2 := blk_frozen BK323.out 2; have hfz45_3 := blk_frozen BK323.out 3))
        have n0_ : Aside0 (Kd.R (Kd.int .u64) 86 ((((w43.setCell ⟨gb323, 0, none⟩ (.string ((rd_T68 l0_1 x23_1).f0))).setCell ⟨gb323, 1, none⟩ (.int .i64 ((rd_T68 l0_1 x23_1).f1))).setCell ⟨gb323, 2, none⟩ (.int .i64 ((rd_T68 l0_1 x23_1).f2))).setCell ⟨gb323, 3, none⟩ (.slice A322_3 ((rd_T68 l0_1 x23_1).f3).length c322_3)) w.heap.size (fun _ => True) v320 t319) := ⟨by (with_reducible repeat (first | apply Kd.R_alloc | apply Kd.R_drewN | apply Kd.R_drew)); exact Kd.R_mono (Kd.R_far (p := ⟨gb323, 3, none⟩) (Kd.R_far (p := ⟨gb323, 2, none⟩) (Kd.R_far (p := ⟨gb323, 1, none⟩) (Kd.R_far (p := ⟨gb323, 0, none⟩) (Kd.R_types HO_7.out BK323.out (by decide)) (fun _ hk => hk.2) (.string ((rd_T68 l0_1 x23_1).f0))) (fun _ hk => hk.2) (.int .i64 ((rd_T68 l0_1 x23_1).f1))) (fun _ hk => hk.2) (.int .i64 ((rd_T68 l0_1 x23_1).f2))) (fun _ hk => hk.2) (.slice A322_3 ((rd_T68 l0_1 x23_1).f3).length c322_3)) (fun _ hk => trivial)⟩
        have n1_ : Aside0 (((((w43.setCell ⟨gb323, 0, none⟩ (.string ((rd_T68 l0_1 x23_1).f0))).setCell ⟨gb323, 1, none⟩ (.int .i64 ((rd_T68 l0_1 x23_1).f1))).setCell ⟨gb323, 2, none⟩ (.int .i64 ((rd_T68 l0_1 x23_1).f2))).setCell ⟨gb323, 3, none⟩ (.slice A322_3 ((rd_T68 l0_1 x23_1).f3).length c322_3)).heap[gb314]? = some (.cells #[.slice A0_0 l0_0.length c0_0, .slice (some ad322) l0_1.length c0_1] 30 (0, 0))) := ⟨by (with_reducible repeat (first | refine blk_drewN ?_ _ | refine blk_drew ?_ | refine blk_alloc ?_ _)); refine blk_far ?_ NB314_323.out _; (with_reducible repeat (first | refine blk_drewN ?_ _ | refine blk_drew ?_ | refine blk_alloc ?_ _)); refine blk_far ?_ NB314_323.out _; (with_reducible repeat (first | refine blk_drewN ?_ _ | refine blk_drew ?_ | refine blk_alloc ?_ _)); refine blk_far ?_ NB314_323.out _; (with_reducible repeat (first | refine blk_drewN ?_ _ | refine blk_drew ?_ | refine blk_alloc ?_ _)); refine blk_far ?_ NB314_323.out _; (with_reducible repeat (first | refine blk_drewN ?_ _ | refine blk_drew ?_ | refine blk_alloc ?_ _)); exact BK314.out⟩
        have n2_ : Aside0 (((((w43.setCell ⟨gb323, 0, none⟩ (.string ((rd_T68 l0_1 x23_1).f0))).setCell ⟨gb323, 1, none⟩ (.int .i64 ((rd_T68 l0_1 x23_1).f1))).setCell ⟨gb323, 2, none⟩ (.int .i64 ((rd_T68 l0_1 x23_1).f2))).setCell ⟨gb323, 3, none⟩ (.slice A322_3 ((rd_T68 l0_1 x23_1).f3).length c322_3)).heap[gb323]? = some (.cells #[.string ((rd_T68 l0_1 x23_1).f0), .int .i64 ((rd_T68 l0_1 x23_1).f1), .int .i64 ((rd_T68 l0_1 x23_1).f2), .slice A322_3 ((rd_T68 l0_1 x23_1).f3).length c322_3] 68 (0, 0))) := ⟨by (with_reducible repeat (first | refine blk_drewN ?_ _ | refine blk_drew ?_ | refine blk_alloc ?_ _)); refine blk_put (cs := #[.string ((rd_T68 l0_1 x23_1).f0), .int .i64 ((rd_T68 l0_1 x23_1).f1), .int .i64 ((rd_T68 l0_1 x23_1).f2), .slice none 0 0]) ?_ 3 _ rfl; (with_reducible repeat (first | refine blk_drewN ?_ _ | refine blk_drew ?_ | refine blk_alloc ?_ _)); refine blk_put (cs := #[.string ((rd_T68 l0_1 x23_1).f0), .int .i64 ((rd_T68 l0_1 x23_1).f1), .int .i64 0, .slice none 0 0]) ?_ 2 _ rfl; (with_reducible repeat (first | refine blk_drewN ?_ _ | refine blk_drew ?_ | refine blk_alloc ?_ _)); refine blk_put (cs := #[.string ((rd_T68 l0_1 x23_1).f0), .int .i64 0, .int .i64 0, .slice none 0 0]) ?_ 1 _ rfl; (with_reducible repeat (first | refine blk_drewN ?_ _ | refine blk_drew ?_ | refine blk_alloc ?_ _)); refine blk_put (cs := #[.string (⟨#[]⟩ : ByteArray), .int .i64 0, .int .i64 0, .slice none 0 0]) ?_ 0 _ rfl; (with_reducible repeat (first | refine blk_drewN ?_ _ | refine blk_drew ?_ | refine blk_alloc ?_ _)); exact BK323.out⟩
        have n3_ : Aside0 (Below w.heap.size w ((((w43.setCell ⟨gb323, 0, none⟩ (.string ((rd_T68 l0_1 x23_1).f0))).setCell ⟨gb323, 1, none⟩ (.int .i64 ((rd_T68 l0_1 x23_1).f1))).setCell ⟨gb323, 2, none⟩ (.int .i64 ((rd_T68 l0_1 x23_1).f2))).setCell ⟨gb323, 3, none⟩ (.slice A322_3 ((rd_T68 l0_1 x23_1).f3).length c322_3))) := ⟨by repeat (first | (with_reducible first | exact HB.out | apply below_alloc | apply pw_below_drewN | apply below_drew1 | refine below_set ?_ GE314.out | refine below_set ?_ GE323.out) | exact HB.out)⟩
        (try clear HO_7)
        (try clear BK314)
        (try clear BK323)
        (try clear HB)
        generalize ((((w43.setCell ⟨gb323, 0, none⟩ (.string ((rd_T68 l0_1 x23_1).f0))).setCell ⟨gb323, 1, none⟩ (.int .i64 ((rd_T68 l0_1 x23_1).f1))).setCell ⟨gb323, 2, none⟩ (.int .i64 ((rd_T68 l0_1 x23_1).f2))).setCell ⟨gb323, 3, none⟩ (.slice A322_3 ((rd_T68 l0_1 x23_1).f3).length c322_3)) = w46 at n0_ n1_ n2_ n3_ ⊢
        have HO_7 := n0_
        have BK314 := n1_
        have BK323 := n2_
        have HB := n3_
        clear n0_ n1_ n2_ n3_
        have n0_ := Aside0.mk (Kd.R_drew HO_7.out)
        have n1_ := Aside0.mk (blk_drew BK314.out)
        have n2_ := Aside0.mk (blk_drew BK323.out)
        have n3_ := Aside0.mk (below_drew1 HB.out)
        clear HO_7
        clear BK314
        clear BK323
        clear HB
        have HO_7 := n0_
        have BK314 := n1_
        have BK323 := n2_
        have HB := n3_
        clear n0_ n1_ n2_ n3_
        obtain ⟨Ao48, co48, eo48⟩ := Kd.R_slice HO_7.out
        (first | subst eo48 | (injection eo48 with f1_ f2_ f3_; have f4_ := f1_.symm; have f5_ := f3_.symm; clear f1_ f2_ f3_; subst f4_; subst f5_))
        have p324 : 0 ≤ (a1 : Int) := of_decide_eq_true q2_
        have q324 : a1 < (t319.length : Int) := of_decide_eq_true q2_
        obtain ⟨ad324, e324, hx324_0⟩ := Kd.at_int (Kd.R_reads' HO_7.out).2.2 a1 p324 q324
        cases e324
        replace p324 := eq_true p324
        replace q324 := eq_true q324
        refine start_ (n := 14) (S := fun w' => w'.cell? ⟨gb323, 0, none⟩ = some (.string ((rd_T68 l0_1 x23_1).f0)) ∧ w'.cell? ⟨gb323, 1, none⟩ = some (.int .i64 ((rd_T68 l0_1 x23_1).f1)) ∧ w'.cell? ⟨gb323, 2, none⟩ = some (.int .i64 ((rd_T68 l0_1 x23_1).f2)) ∧ w'.cell? ⟨gb323, 3, none⟩ = some (.slice A322_3 ((rd_T68 l0_1 x23_1).f3).length c322_3) ∧ w'.cell? (ad324.add (a1).toNat) = some (.int .u64 (rd t319 a1))) (ds := []) bv11_0 (by kernel_rfl) rfl rfl ⟨(blk_cell BK323.out 0).trans rfl, (blk_cell BK323.out 1).trans rfl, (blk_cell BK323.out 2).trans rfl, (blk_cell BK323.out 3).trans rfl, hx324_0⟩ (fun hHeld => ?_); refine with_tabW impl_Shared.tab8 impl_Shared.bits8 (fun HT_ HW_ => ?_)
        generalize w46.drew = w47 at HO_7 BK314 BK323 HB hx324_0 hHeld ⊢
        refine pure_ (i := 1) (N := some 28) (v := ?_) (a' := ?_) bv11_1 rfl rfl (any_of HT_.out (by kernel_rfl)) (fun _ _ _ h => h) (Or.inl ⟨by rfl, ?_⟩) ?_ ?_
        rotate_left; exact pw_; rotate_left; exact pz_
        refine pure_ (i := 2) (N := some 29) (v := ?_) (a' := ?_) bv11_2 rfl rfl (any_of HT_.out (by kernel_rfl)) (fun _ _ _ h => h) (Or.inl ⟨by rfl, ?_⟩) ?_ ?_
        rotate_left; exact pw_; rotate_left; exact pz_
        refine pure_ (i := 3) (N := some 30) (v := ?_) (a' := ?_) bv11_3 rfl rfl (any_of HT_.out (by kernel_rfl)) (fun _ _ _ h => h) (Or.inl ⟨by rfl, ?_⟩) ?_ ?_
        rotate_left; exact pw_; rotate_left; exact pz_
        refine take_ (i := 0) (N := some 27) (v := ?_) (a' := ?_) bv11_4 rfl rfl (take_ofW HT_.out HW_.out (by kernel_rfl)) (fun _ _ _ h => h) (Or.inl ⟨by rfl, ?_⟩) hHeld ?_ ?_
        rotate_left; exact pw5_; rotate_left; exact pz_
        refine take_ (i := 4) (N := some 31) (v := ?_) (a' := ?_) bv11_5 rfl rfl (take_ofW HT_.out HW_.out (by kernel_rfl)) (fun _ _ _ h => h) (Or.inl ⟨by rfl, ?_⟩) hHeld ?_ ?_
        rotate_left; exact pw5_; rotate_left; exact pz_
        refine one_ (i := 5) (N := some 32) bv11_6 rfl rfl (one_of HT_.out (by kernel_rfl)) (by decide) (fun K hK => ?_)
        refine goes_ Try.func68 (by kernel_rfl) rfl #[.agg #[.string ((rd_T68 l0_1 x23_1).f0), .int .i64 ((rd_T68 l0_1 x23_1).f1), .int .i64 ((rd_T68 l0_1 x23_1).f2), .slice A322_3 ((rd_T68 l0_1 x23_1).f3).length c322_3], .int .u64 (rd t319 a1)] (by rfl) rfl rfl q0_ ?_
        with_reducible refine (impl_Body_isLive.calls k1 ((rd_T68 l0_1 x23_1).f0) ((rd_T68 l0_1 x23_1).f1) ((rd_T68 l0_1 x23_1).f2) _ _ ((rd_T68 l0_1 x23_1).f3) (rd t319 a1) false _ ?side1 ?side2 A21.out).mono ?_
        (case side1 => exact q41_)
        (case side2 => exact HC322_3.out)
        rintro e w49 ⟨rfl, hb⟩
        have HS4_ := (hb.cell (World.block_lt_of_cell? _ _ (hHeld.2.2.2.2))).trans (hHeld.2.2.2.2)
        refine ⟨_, rfl, ?_⟩
        have n0_ := Aside0.mk (Kd.R_below q42_ hb)
        have n1_ := Aside0.mk (blk_below (g := gb314) (o := .cells #[.slice A0_0 l0_0.length c0_0, .slice (some ad322) l0_1.length c0_1] 30 (0, 0)) q12_ hb)
        have n2_ := Aside0.mk (blk_below (g := gb323) (o := .cells #[.string ((rd_T68 l0_1 x23_1).f0), .int .i64 ((rd_T68 l0_1 x23_1).f1), .int .i64 ((rd_T68 l0_1 x23_1).f2), .slice A322_3 ((rd_T68 l0_1 x23_1).f3).length c322_3] 68 (0, 0)) q55_ hb)
        have n3_ := Aside0.mk (below_step q34_ hb)
        clear HO_7
        clear BK314
        clear BK323
        clear HB
        have HO_7 := n0_
        have BK314 := n1_
        have BK323 := n2_
        have HB := n3_
        clear n0_ n1_ n2_ n3_
        (try clear hb)
        (try clear hb2)
        (try clear hk)
        (try clear hi)
        refine hK.out _ _ ⟨(blk_cell BK323.out 0).trans rfl, (blk_cell BK323.out 1).trans rfl, (blk_cell BK323.out 2).trans rfl, (blk_cell BK323.out 3).trans rfl, HS4_⟩ (fun hHeld => ?_)
        clear hK K
        refine norm_ (a' := ?_) ?_ ?_
        rotate_left
        ·show Act.put _ (some 32) _ = _
         simp only [Act.put, List.setIfInBounds_toArray, List.set_cons_zero, List.set_cons_succ, i64_w, i32_w]
         rfl
        refine pure_ (i := 6) (N := some 33) (v := ?_) (a' := ?_) bv11_7 rfl rfl (any_of HT_.out (by kernel_rfl)) (fun _ _ _ h => h) (Or.inl ⟨by rfl, ?_⟩) ?_ ?_
        rotate_left; exact pw_; rotate_left; exact pz_
        refine pure_ (i := 7) (N := some 34) (v := undef) (a' := ?_) #[true, true, true, true, true, true, true, true, false, false, false, false, false, false] rfl rfl (any_of HT_.out (by kernel_rfl)) (fun _ _ _ h => h) (Or.inr ⟨by rfl, rfl⟩) ?_ ?_
        rotate_left; exact pz_
        refine pure_ (i := 8) (N := some 35) (v := undef) (a' := ?_) #[true, true, true, true, true, true, true, true, true, false, false, false, false, false] rfl rfl (any_of HT_.out (by kernel_rfl)) (fun _ _ _ h => h) (Or.inr ⟨by rfl, rfl⟩) ?_ ?_
        rotate_left; exact pz_
        refine pure_ (i := 9) (N := some 36) (v := undef) (a' := ?_) #[true, true, true, true, true, true, true, true, true, true, false, false, false, false] rfl rfl (any_of HT_.out (by kernel_rfl)) (fun _ _ _ h => h) (Or.inr ⟨by rfl, rfl⟩) ?_ ?_
        rotate_left; exact pz_
        refine pure_ (i := 10) (N := some 37) (v := undef) (a' := ?_) bv11_8 rfl rfl (any_of HT_.out (by kernel_rfl)) (fun _ _ _ h => h) (Or.inr ⟨by rfl, rfl⟩) ?_ ?_
        rotate_left; exact pz_
        refine pure_ (i := 11) (N := some 38) (v := undef) (a' := ?_) bv11_9 rfl rfl (any_of HT_.out (by kernel_rfl)) (fun _ _ _ h => h) (Or.inr ⟨by rfl, rfl⟩) ?_ ?_
        rotate_left; exact pz_
        refine pure_ (i := 12) (N := some 39) (v := undef) (a' := ?_) bv11_10 rfl rfl (any_of HT_.out (by kernel_rfl)) (fun _ _ _ h => h) (Or.inr ⟨by rfl, rfl⟩) ?_ ?_
        rotate_left; exact pz_
        refine pure_ (i := 13) (N := some 40) (v := ?_) (a' := ?_) bv11_11 rfl rfl (any_of HT_.out (by kernel_rfl)) (fun _ _ _ h => h) (Or.inl ⟨by rfl, ?_⟩) ?_ ?_
        rotate_left; exact pw_; rotate_left; exact pz_
        refine done_ (done_of HT_.out (by kernel_rfl)) ?_
        try go_wp2
        go_roundg k1
        case measure => have := HK1.out; omega
        case rel => exact ⟨(x8_1), (wrap64 (x23_1 + 1)), q6_, q6_, H', ⟨by have := HK1.out; omega⟩, ⟨by (with_reducible repeat (first | apply Kd.R_alloc | apply Kd.R_drewN | apply Kd.R_drew)); exact HO_7.out⟩, ⟨by (with_reducible repeat (first | refine blk_drewN ?_ _ | refine blk_drew ?_ | refine blk_alloc ?_ _)); exact BK314.out⟩, ⟨by repeat (first | (with_reducible first | exact HB.out | apply below_alloc | apply pw_below_drewN | apply below_drew1 | refine below_set ?_ GE314.out | refine below_set ?_ GE323.out) | exact HB.out)⟩⟩
      ·rw [if_neg c16] at H
       have c16b0 : decide (x23_1 < (l0_1.length : Int)) = false := decide_eq_false c16
       clear c16
       obtain rfl := Option.some.inj H
       go_wp2
       go_ret
       exact ⟨by first | rfl | (simp [errW_none, errW_some] <;> rfl) | (simp [*, errW_none, errW_some] <;> rfl), by repeat (first | (with_reducible first | exact HB.out | apply below_alloc | apply pw_below_drewN | apply below_drew1 | refine below_set ?_ GE314.out) | exact HB.out)⟩
  · rw [if_neg c5] at H
    have c5b0 : (t318 == 0) = false := beq_eq_false_iff_ne.mpr c5
    have c5b1 : (t318 != 0) = true := bne_iff_ne.mpr c5
    obtain rfl := Option.some.inj H
    go_enter Try.func20, Try.ntmps20
    go_wp2_with (first | ((with_reducible refine gate_dst (N := 3) rfl ?_); refine box_event ?hg (N := 3) ?hd (cs := #[.slice A0_0 l0_0.length c0_0, .slice A0_1 l0_1.length c0_1]) (t := 30) ?hr ?_; (case hd => rfl); (case hg => rfl); (case hr => first | (go_simp; done) | (go_simp; rfl)); intro gb314 hg w50 hbox hb; have n0_ := Aside0.mk (below_step q1_ hb); have n1_ := Aside0.mk (hbox); have n2_ := Aside0.mk ((by rw [hg]; exact (below_size q1_) : w.heap.size ≤ gb314)); have n3_ := Aside0.mk ((by rw [hg]; exact (below_size q1_) : w.heap.size ≤ gb314)); clear HB; have HB := n0_; have BK314 := n1_; have GW314 := n2_; have GE314 := n3_; clear n0_ n1_ n2_ n3_; clear hb hbox hg; have hcz51_0 : w50.cell? ⟨gb314, 0, none⟩ = some (.slice A0_0 l0_0.length c0_0) := (blk_cell BK314.out 0).trans rfl; have hcz51_1 : w50.cell? ⟨gb314, 1, none⟩ = some (.slice A0_1 l0_1.length c0_1) := (blk_cell BK314.out 1).trans rfl; have hfz51_0 := blk_frozen BK314.out 0; have hfz51_1 := blk_frozen BK314.out 1) | ((with_reducible refine gate_dst (N := 14) rfl ?_); refine Kd.R_lit (Kd.int .i64) _ 3 ?hg (N := 14) ?hd (xs := ([a1, a2] : List Int)) (inner := [.int .i64 a1, .int .i64 a2]) (ok := fun _ => True) (okp := fun _ => True) ?hr ?hp (fun _ hk => hk) trivial (Below.refl _ _) (Nat.le_refl _) (by simp) ?_; (case hd => rfl); (case hg => rfl); (case hr => first | (go_simp; done) | (go_simp; rfl)); (case hp => exact (Reps.one (show Kd.M (Kd.int .i64) _ _ _ a1 [.int .i64 a1] from rfl) (Reps.one (show Kd.M (Kd.int .i64) _ _ _ a2 [.int .i64 a2] from rfl) (Reps.none _ _)))); intro v316 w52 ho53 hb hg_ hnew_; clear hg_ hnew_; (first | rw [← Ny315.out] at ho53 | (simp only [Int.reduceToNat] at ho53; rw [← Ny315.out] at ho53)); have n0_ := Aside0.mk (Kd.R_lower ho53 (below_size q9_)); have n1_ := Aside0.mk (blk_below (g := gb314) (o := .cells #[.slice A0_0 l0_0.length c0_0, .slice A0_1 l0_1.length c0_1] 30 (0, 0)) q12_ hb); have n2_ := Aside0.mk (below_step q9_ hb); clear BK314; clear HB; have HO317 := n0_; have BK314 := n1_; have HB := n2_; clear n0_ n1_ n2_; clear hb ho53; obtain ⟨Ao54, co54, eo54⟩ := Kd.R_slice HO317.out; subst eo54) | ((with_reducible refine gate_callee (f := 67) rfl ?_); refine goesL_ (some 15) rfl rfl Try.func67 (by kernel_rfl) rfl #[.agg #[.slice A0_0 l0_0.length c0_0, .slice A0_1 l0_1.length c0_1], .slice Ao54 y315.length co54] rfl q0_ ?_; (with_reducible refine (impl_versionsCode.calls k _ _ l0_0 _ _ l0_1 _ _ y315 t318 _ ?side1 ?side2 ?side3 ?side4 ?side5 ?side6 A4.out).mono ?_); (case side1 => exact q3_); (case side2 => exact HC0_0.out); (case side3 => exact q4_); (case side4 => exact HC0_1.out); (case side5 => exact (by repeat (first | exact (Kd.R_reads' HO317.out).2.2 | (with_reducible refine Kd.C_alloc ?_ _) | (with_reducible refine Kd.C_drewN ?_ _) | (with_reducible refine Kd.C_drew ?_)))); (case side6 => exact (Kd.R_reads' HO317.out).2.1); rintro e w55 ⟨rfl, hb⟩; refine ⟨_, rfl, ?_⟩; have n0_ := Aside0.mk (Kd.R_below (by (with_reducible repeat (first | apply Kd.R_alloc | apply Kd.R_drewN | apply Kd.R_drew)); exact HO317.out) hb); have n1_ := Aside0.mk (blk_below (g := gb314) (o := .cells #[.slice A0_0 l0_0.length c0_0, .slice A0_1 l0_1.length c0_1] 30 (0, 0)) q12_ hb); have n2_ := Aside0.mk (below_step q9_ hb); clear HO317; clear BK314; clear HB; have HO317 := n0_; have BK314 := n1_; have HB := n2_; clear n0_ n1_ n2_; (try clear hb); (try clear hb2); (try clear hk); (try clear hi)))
    go_ret
    exact ⟨by first | rfl | (simp [errW_none, errW_some] <;> rfl) | (simp [*, errW_none, errW_some] <;> rfl), by repeat (first | (with_reducible first | exact HB.out | apply below_alloc | apply pw_below_drewN | apply below_drew1 | refine below_set ?_ GE314.out) | exact HB.out)⟩

end Go.Proofs.Ytcgelllmdcnmfaa.PFnExactShared
-- (flat)
-- (thin)
