-- Made by a program (the kit's print with additions of this session: wip/tools/patch_print.py, ext.py).
-- (turned)
import Derived.Test.YtcgelllmdcnmfaaPFnExactSharedx0
import Derived.Test.YtcgelllmdcnmfaaPFnExactSharedx3
import Derived.Test.YtcgelllmdcnmfaaPFnExactSharedx5
import Derived.Test.YtcgelllmdcnmfaaPFnExactSharedx6
namespace Go.Proofs.Ytcgelllmdcnmfaa.PFnExactShared
open Go.RowKit Go.Proofs.YtcgelllmdcnmfaaW.PrintWords Go.Proofs.YtcgelllmdcnmfaaW.PrintLast Go.Proofs.YtcgelllmdcnmfaaW.PrintMore
attribute [local go_sem] max2_int min2_int max_two min_two max_three min_three max_four min_four   -- for this text's walks alone
set_option linter.unusedVariables false
set_option linter.unusedSimpArgs false

/-! ### spec_l06Has: function 66 -/
def spec_l06Has.f (l0_0 : List (List Int)) (l0_1 : List (S68)) (a1 : Int) : Option (Bool) := (spec_l01In.f a1 0 (wrap64 ((l0_0.length : Int) - 1))).bind fun t240 => (some t240)
set_option maxHeartbeats 8000000 in
set_option maxRecDepth 100000 in
theorem spec_l06Has.calls (A0_0 : Option Addr) (c0_0 : Nat) (l0_0 : List (List Int)) (A0_1 : Option Addr) (c0_1 : Nat) (l0_1 : List (S68)) (a1 : Int) (r : Bool) (w : World) (hr0_0 : Kd.C (Kd.slice 3 (Kd.int .i64)) w A0_0 l0_0.length l0_0) (hc0_0 : l0_0.length ≤ c0_0) (hr0_1 : Kd.C k68 w A0_1 l0_1.length l0_1) (hc0_1 : l0_1.length ≤ c0_1) (h : spec_l06Has.f l0_0 l0_1 a1 = some r) :
    Calls Try.prog 66 #[.agg #[.slice A0_0 l0_0.length c0_0, .slice A0_1 l0_1.length c0_1], .int .i64 a1] w fun e w' => e = .returned (.bool r) ∧ Below w.heap.size w w' := by
  have hu30 := Try.underlying30
  have HR0_0 := Aside0.mk hr0_0
  have HC0_0 := Aside0.mk hc0_0
  clear hr0_0 hc0_0
  have HR0_1 := Aside0.mk hr0_1
  have HC0_1 := Aside0.mk hc0_1
  clear hr0_1 hc0_1
  have HB := Aside0.mk (Below.refl w.heap.size w)
  have H : ((spec_l01In.f a1 0 (wrap64 ((l0_0.length : Int) - 1))).bind fun t240 => (some t240)) = some r := h
  clear h
  replace H := Option.bind_eq_some_iff.mp H
  obtain ⟨t240, A30, H⟩ := H
  replace H : (some t240) = some r := H
  have A3 := Aside0.mk A30
  clear A30
  obtain rfl := Option.some.inj H
  go_enter Try.func66, Try.ntmps66
  go_wp2_with (first | ((with_reducible refine gate_dst (N := 2) rfl ?_); refine box_event ?hg (N := 2) ?hd (cs := #[.slice A0_0 l0_0.length c0_0, .slice A0_1 l0_1.length c0_1]) (t := 30) ?hr ?_; (case hd => rfl); (case hg => rfl); (case hr => first | (go_simp; done) | (go_simp; rfl)); intro gb239 hg w4 hbox hb; have n0_ := Aside0.mk (below_step q1_ hb); have n1_ := Aside0.mk (hbox); have n2_ := Aside0.mk ((by rw [hg]; exact (below_size q1_) : w.heap.size ≤ gb239)); have n3_ := Aside0.mk ((by rw [hg]; exact (below_size q1_) : w.heap.size ≤ gb239)); clear HB; have HB := n0_; have BK239 := n1_; have GW239 := n2_; have GE239 := n3_; clear n0_ n1_ n2_ n3_; clear hb hbox hg; have hcz5_0 : w4.cell? ⟨gb239, 0, none⟩ = some (.slice A0_0 l0_0.length c0_0) := (blk_cell BK239.out 0).trans rfl; have hcz5_1 : w4.cell? ⟨gb239, 1, none⟩ = some (.slice A0_1 l0_1.length c0_1) := (blk_cell BK239.out 1).trans rfl; have hfz5_0 := blk_frozen BK239.out 0; have hfz5_1 := blk_frozen BK239.out 1) | ((with_reducible refine gate_callee (f := 54) rfl ?_); refine goesL_ (some 10) rfl rfl Try.func54 (by kernel_rfl) rfl #[.int .i64 a1, .int .i64 0, .int .i64 (wrap64 ((l0_0.length : Int) - 1))] rfl q0_ ?_; (with_reducible refine (spec_l01In.calls a1 0 (wrap64 ((l0_0.length : Int) - 1)) t240 _ A3.out).mono ?_); rintro e w' ⟨rfl, ⟨nd, rfl⟩⟩; refine ⟨_, rfl, ?_⟩))
  go_ret
  exact ⟨by first | rfl | (simp [errW_none, errW_some] <;> rfl) | (simp [*, errW_none, errW_some] <;> rfl), by repeat (first | (with_reducible first | exact HB.out | apply below_alloc | apply pw_below_drewN | apply below_drew1 | refine below_set ?_ GE239.out) | exact HB.out)⟩

/-! ### spec_Shared: function 19 -/
mutual
def spec_Shared.j0 : Nat → Int → Int → Bool → List (List Int) → List (S68) → Option (Int)
  | 0, _, _, _, _, _ => none
  | k + 1, x1, x2, x25, x242000, x242001 => if x25 = true then (some (-1)) else ((spec_l06Closure.f k x242000 x242001 x1).bind fun t245 => ((spec_l06Closure.f k x242000 x242001 x2).bind fun t248 => (spec_Shared.l0 k 0 t245 t248 0 x242000 x242001)))
def spec_Shared.l0 : Nat → Int → List Bool → List Bool → Int → List (List Int) → List (S68) → Option (Int)
  | 0, _, _, _, _, _, _ => none
  | k + 1, x7, x8, x9, x10, x242000, x242001 => if x10 < (x242001.length : Int) then (if 0 ≤ x10 then ((spec_l06Live.f k ((rd_T68 x242001 x10).f0) ((rd_T68 x242001 x10).f1) ((rd_T68 x242001 x10).f2) ((rd_T68 x242001 x10).f3) x8).bind fun t252 => (if t252 = true then ((spec_l06Live.f k ((rd_T68 x242001 x10).f0) ((rd_T68 x242001 x10).f1) ((rd_T68 x242001 x10).f2) ((rd_T68 x242001 x10).f3) x9).bind fun t254 => (if t254 = true then (spec_Shared.l0 k (wrap64 (x7 + 1)) x8 x9 (wrap64 (x10 + 1)) x242000 x242001) else (spec_Shared.l0 k x7 x8 x9 (wrap64 (x10 + 1)) x242000 x242001))) else (spec_Shared.l0 k x7 x8 x9 (wrap64 (x10 + 1)) x242000 x242001))) else (none)) else (some x7)
end
def spec_Shared.f (k : Nat) (l0_0 : List (List Int)) (l0_1 : List (S68)) (a1 : Int) (a2 : Int) : Option (Int) := (spec_WeaveOk.f k l0_0 l0_1).bind fun t242 => (if t242 = true then ((spec_l06Has.f l0_0 l0_1 a1).bind fun t243 => (if t243 = true then ((spec_l06Has.f l0_0 l0_1 a2).bind fun t244 => (spec_Shared.j0 k a1 a2 (!t244) l0_0 l0_1)) else (spec_Shared.j0 k a1 a2 true l0_0 l0_1))) else (spec_Shared.j0 k a1 a2 true l0_0 l0_1))
theorem spec_Shared.mono_l : ∀ k, (∀ y0 y1 y2 y3 y4, LeO (spec_Shared.j0 k y0 y1 y2 y3 y4) (spec_Shared.j0 (k + 1) y0 y1 y2 y3 y4)) ∧ (∀ y0 y1 y2 y3 y4 y5, LeO (spec_Shared.l0 k y0 y1 y2 y3 y4 y5) (spec_Shared.l0 (k + 1) y0 y1 y2 y3 y4 y5))
  | 0 => ⟨fun _ _ _ _ _ r h => by simp [spec_Shared.j0] at h, fun _ _ _ _ _ _ r h => by simp [spec_Shared.l0] at h⟩
  | k + 1 => by
    obtain ⟨ih0, ih1⟩ := spec_Shared.mono_l k
    refine ⟨?_, ?_⟩
    ·intro y0 y1 y2 y3 y4
     unfold spec_Shared.j0
     repeat' first
     | (with_reducible exact ih0 _ _ _ _ _)
     | (with_reducible exact ih1 _ _ _ _ _ _)
     | (with_reducible exact spec_WeaveOk.mono _ _ _)
     | (with_reducible exact spec_l06Closure.mono _ _ _ _)
     | (with_reducible exact spec_l06Live.mono _ _ _ _ _ _)
     | (with_reducible exact LeO.refl _)
     | (with_reducible exact LeO.none _)
     | (with_reducible refine LeO.ite ?_ ?_)
     | (with_reducible refine LeO.bind ?_ (fun _ => ?_))
     | exact ih0 _ _ _ _ _
     | exact ih1 _ _ _ _ _ _
     | exact spec_WeaveOk.mono _ _ _
     | exact spec_l06Closure.mono _ _ _ _
     | exact spec_l06Live.mono _ _ _ _ _ _
     | exact LeO.none _
     | refine LeO.ite ?_ ?_
     | refine LeO.bind ?_ (fun _ => ?_)
    ·intro y0 y1 y2 y3 y4 y5
     unfold spec_Shared.l0
     repeat' first
     | (with_reducible exact ih0 _ _ _ _ _)
     | (with_reducible exact ih1 _ _ _ _ _ _)
     | (with_reducible exact spec_WeaveOk.mono _ _ _)
     | (with_reducible exact spec_l06Closure.mono _ _ _ _)
     | (with_reducible exact spec_l06Live.mono _ _ _ _ _ _)
     | (with_reducible exact LeO.refl _)
     | (with_reducible exact LeO.none _)
     | (with_reducible refine LeO.ite ?_ ?_)
     | (with_reducible refine LeO.bind ?_ (fun _ => ?_))
     | exact ih0 _ _ _ _ _
     | exact ih1 _ _ _ _ _ _
     | exact spec_WeaveOk.mono _ _ _
     | exact spec_l06Closure.mono _ _ _ _
     | exact spec_l06Live.mono _ _ _ _ _ _
     | exact LeO.none _
     | refine LeO.ite ?_ ?_
     | refine LeO.bind ?_ (fun _ => ?_)
theorem spec_Shared.mono : ∀ a0 a1 a2 a3 k, LeO (spec_Shared.f k a0 a1 a2 a3) (spec_Shared.f (k + 1) a0 a1 a2 a3) := by
  intro a0 a1 a2 a3 k
  obtain ⟨ih0, ih1⟩ := spec_Shared.mono_l k
  unfold spec_Shared.f
  repeat' first
     | (with_reducible exact ih0 _ _ _ _ _)
     | (with_reducible exact ih1 _ _ _ _ _ _)
     | (with_reducible exact spec_WeaveOk.mono _ _ _)
     | (with_reducible exact spec_l06Closure.mono _ _ _ _)
     | (with_reducible exact spec_l06Live.mono _ _ _ _ _ _)
     | (with_reducible exact LeO.refl _)
     | (with_reducible exact LeO.none _)
     | (with_reducible refine LeO.ite ?_ ?_)
     | (with_reducible refine LeO.bind ?_ (fun _ => ?_))
     | exact ih0 _ _ _ _ _
     | exact ih1 _ _ _ _ _ _
     | exact spec_WeaveOk.mono _ _ _
     | exact spec_l06Closure.mono _ _ _ _
     | exact spec_l06Live.mono _ _ _ _ _ _
     | exact LeO.none _
     | refine LeO.ite ?_ ?_
     | refine LeO.bind ?_ (fun _ => ?_)
set_option maxHeartbeats 8000000 in
set_option maxRecDepth 100000 in
theorem spec_Shared.calls (k : Nat) (A0_0 : Option Addr) (c0_0 : Nat) (l0_0 : List (List Int)) (A0_1 : Option Addr) (c0_1 : Nat) (l0_1 : List (S68)) (a1 : Int) (a2 : Int) (r : Int) (w : World) (hr0_0 : Kd.C (Kd.slice 3 (Kd.int .i64)) w A0_0 l0_0.length l0_0) (hc0_0 : l0_0.length ≤ c0_0) (hr0_1 : Kd.C k68 w A0_1 l0_1.length l0_1) (hc0_1 : l0_1.length ≤ c0_1) (h : spec_Shared.f k l0_0 l0_1 a1 a2 = some r) :
    Calls Try.prog 19 #[.agg #[.slice A0_0 l0_0.length c0_0, .slice A0_1 l0_1.length c0_1], .int .i64 a1, .int .i64 a2] w fun e w' => e = .returned (.int .i64 r) ∧ Below w.heap.size w w' := by
  have hu30 := Try.underlying30
  have hu68 := Try.underlying68
  have HR0_0 := Aside0.mk hr0_0
  have HC0_0 := Aside0.mk hc0_0
  clear hr0_0 hc0_0
  have HR0_1 := Aside0.mk hr0_1
  have HC0_1 := Aside0.mk hc0_1
  clear hr0_1 hc0_1
  have HB := Aside0.mk (Below.refl w.heap.size w)
  have H : ((spec_WeaveOk.f k l0_0 l0_1).bind fun t242 => (if t242 = true then ((spec_l06Has.f l0_0 l0_1 a1).bind fun t243 => (if t243 = true then ((spec_l06Has.f l0_0 l0_1 a2).bind fun t244 => (spec_Shared.j0 k a1 a2 (!t244) l0_0 l0_1)) else (spec_Shared.j0 k a1 a2 true l0_0 l0_1))) else (spec_Shared.j0 k a1 a2 true l0_0 l0_1))) = some r := h
  clear h
  have HC4 := Aside0.mk H
  clear H
  go_enter Try.func19, Try.ntmps19
  go_upto_region 1 with (first | ((with_reducible refine gate_dst (N := 3) rfl ?_); refine box_event ?hg (N := 3) ?hd (cs := #[.slice A0_0 l0_0.length c0_0, .slice A0_1 l0_1.length c0_1]) (t := 30) ?hr ?_; (case hd => rfl); (case hg => rfl); (case hr => first | (go_simp; done) | (go_simp; rfl)); intro gb241 hg w5 hbox hb; have n0_ := Aside0.mk (below_step q1_ hb); have n1_ := Aside0.mk (hbox); have n2_ := Aside0.mk ((by rw [hg]; exact (below_size q1_) : w.heap.size ≤ gb241)); have n3_ := Aside0.mk ((by rw [hg]; exact (below_size q1_) : w.heap.size ≤ gb241)); clear HB; have HB := n0_; have BK241 := n1_; have GW241 := n2_; have GE241 := n3_; clear n0_ n1_ n2_ n3_; clear hb hbox hg))
  (try simp only [Act.put, List.setIfInBounds_toArray, List.set_cons_zero, List.set_cons_succ])
  go_cut [25] (fun v25 wc => ∃ (kq : Nat) (x25_3 : Bool), v25 = .bool x25_3 ∧ Aside0 (spec_Shared.j0 kq a1 a2 x25_3 l0_0 l0_1 = some r) ∧ Aside0 (kq ≤ k) ∧ Aside0 (wc.heap[gb241]? = some (.cells #[(.slice A0_0 l0_0.length c0_0), (.slice A0_1 l0_1.length c0_1)] 30 (0, 0))) ∧ Aside0 (Below w.heap.size w wc))
  case first =>
    have H := HC4.out
    clear HC4
    replace H := Option.bind_eq_some_iff.mp H
    obtain ⟨t242, A60, H⟩ := H
    replace H : (if t242 = true then ((spec_l06Has.f l0_0 l0_1 a1).bind fun t243 => (if t243 = true then ((spec_l06Has.f l0_0 l0_1 a2).bind fun t244 => (spec_Shared.j0 k a1 a2 (!t244) l0_0 l0_1)) else (spec_Shared.j0 k a1 a2 true l0_0 l0_1))) else (spec_Shared.j0 k a1 a2 true l0_0 l0_1)) = some r := H
    have A6 := Aside0.mk A60
    clear A60
    by_cases c7 : t242 = true
    ·subst c7
     have H1 : ((spec_l06Has.f l0_0 l0_1 a1).bind fun t243 => (if t243 = true then ((spec_l06Has.f l0_0 l0_1 a2).bind fun t244 => (spec_Shared.j0 k a1 a2 (!t244) l0_0 l0_1)) else (spec_Shared.j0 k a1 a2 true l0_0 l0_1))) = some r := by rw [if_pos rfl] at H; exact H
     clear H
     have H := H1
     clear H1
     replace H := Option.bind_eq_some_iff.mp H
     obtain ⟨t243, A80, H⟩ := H
     replace H : (if t243 = true then ((spec_l06Has.f l0_0 l0_1 a2).bind fun t244 => (spec_Shared.j0 k a1 a2 (!t244) l0_0 l0_1)) else (spec_Shared.j0 k a1 a2 true l0_0 l0_1)) = some r := H
     have A8 := Aside0.mk A80
     clear A80
     by_cases c9 : t243 = true
     ·subst c9
      have H1 : ((spec_l06Has.f l0_0 l0_1 a2).bind fun t244 => (spec_Shared.j0 k a1 a2 (!t244) l0_0 l0_1)) = some r := by rw [if_pos rfl] at H; exact H
      clear H
      have H := H1
      clear H1
      replace H := Option.bind_eq_some_iff.mp H
      obtain ⟨t244, A100, H⟩ := H
      replace H : (spec_Shared.j0 k a1 a2 (!t244) l0_0 l0_1) = some r := H
      have A10 := Aside0.mk A100
      clear A100
      have H' := Aside0.mk H
      clear H
      have hcz11_0 : w5.cell? ⟨gb241, 0, none⟩ = some (.slice A0_0 l0_0.length c0_0) := (blk_cell BK241.out 0).trans rfl
      have hcz11_1 : w5.cell? ⟨gb241, 1, none⟩ = some (.slice A0_1 l0_1.length c0_1) := (blk_cell BK241.out 1).trans rfl
      have hfz11_0 := blk_frozen BK241.out 0
      have hfz11_1 := blk_frozen BK241.out 1
      go_wp2_with (first | ((with_reducible refine gate_callee (f := 15) rfl ?_); refine goesL_ (some 12) rfl rfl Try.func15 (by kernel_rfl) rfl #[.agg #[.slice A0_0 l0_0.length c0_0, .slice A0_1 l0_1.length c0_1]] rfl q0_ ?_; (with_reducible refine (spec_WeaveOk.calls k _ _ l0_0 _ _ l0_1 true _ ?side1 ?side2 ?side3 ?side4 A6.out).mono ?_); (case side1 => exact q3_); (case side2 => exact HC0_0.out); (case side3 => exact q4_); (case side4 => exact HC0_1.out); rintro e w12 ⟨rfl, hb⟩; refine ⟨_, rfl, ?_⟩; have n0_ := Aside0.mk (blk_below (g := gb241) (o := .cells #[.slice A0_0 l0_0.length c0_0, .slice A0_1 l0_1.length c0_1] 30 (0, 0)) q18_ hb); have n1_ := Aside0.mk (below_step q11_ hb); clear BK241; clear HB; have BK241 := n0_; have HB := n1_; clear n0_ n1_; (try clear hb); (try clear hb2); (try clear hk); (try clear hi); have hcz13_0 : w12.cell? ⟨gb241, 0, none⟩ = some (.slice A0_0 l0_0.length c0_0) := (blk_cell BK241.out 0).trans rfl; have hcz13_1 : w12.cell? ⟨gb241, 1, none⟩ = some (.slice A0_1 l0_1.length c0_1) := (blk_cell BK241.out 1).trans rfl; have hfz13_0 := blk_frozen BK241.out 0; have hfz13_1 := blk_frozen BK241.out 1) | (go_at_call 66; (try simp only [i64_w]); (with_reducible refine (spec_l06Has.calls _ _ l0_0 _ _ l0_1 a1 true _ ?side1 ?side2 ?side3 ?side4 A8.out).mono ?_); (case side1 => exact q3_); (case side2 => exact HC0_0.out); (case side3 => exact q4_); (case side4 => exact HC0_1.out); rintro e w14 ⟨rfl, hb⟩; have n0_ := Aside0.mk (blk_below (g := gb241) (o := .cells #[.slice A0_0 l0_0.length c0_0, .slice A0_1 l0_1.length c0_1] 30 (0, 0)) q18_ hb); have n1_ := Aside0.mk (below_step q11_ hb); clear BK241; clear HB; have BK241 := n0_; have HB := n1_; clear n0_ n1_; (try clear hb); (try clear hb2); (try clear hk); (try clear hi); have hcz15_0 : w14.cell? ⟨gb241, 0, none⟩ = some (.slice A0_0 l0_0.length c0_0) := (blk_cell BK241.out 0).trans rfl; have hcz15_1 : w14.cell? ⟨gb241, 1, none⟩ = some (.slice A0_1 l0_1.length c0_1) := (blk_cell BK241.out 1).trans rfl; have hfz15_0 := blk_frozen BK241.out 0; have hfz15_1 := blk_frozen BK241.out 1) | (go_at_call 66; (try simp only [i64_w]); (with_reducible refine (spec_l06Has.calls _ _ l0_0 _ _ l0_1 a2 t244 _ ?side1 ?side2 ?side3 ?side4 A10.out).mono ?_); (case side1 => exact q3_); (case side2 => exact HC0_0.out); (case side3 => exact q4_); (case side4 => exact HC0_1.out); rintro e w16 ⟨rfl, hb⟩; have n0_ := Aside0.mk (blk_below (g := gb241) (o := .cells #[.slice A0_0 l0_0.length c0_0, .slice A0_1 l0_1.length c0_1] 30 (0, 0)) q18_ hb); have n1_ := Aside0.mk (below_step q11_ hb); clear BK241; clear HB; have BK241 := n0_; have HB := n1_; clear n0_ n1_; (try clear hb); (try clear hb2); (try clear hk); (try clear hi)))
      go_meet
      case rel => exact ⟨_, (!t244), q6_, H', ⟨by first | omega | exact Nat.le_refl _⟩, ⟨by (with_reducible repeat (first | refine blk_drewN ?_ _ | refine blk_drew ?_ | refine blk_alloc ?_ _)); exact BK241.out⟩, ⟨by repeat (first | (with_reducible first | exact HB.out | apply below_alloc | apply pw_below_drewN | apply below_drew1 | refine below_set ?_ GE241.out) | exact HB.out)⟩⟩
     ·replace c9 := Bool.eq_false_iff.mpr c9
      subst c9
      have H1 : (spec_Shared.j0 k a1 a2 true l0_0 l0_1) = some r := by rw [if_neg (show ¬ (false = true) by decide)] at H; exact H
      clear H
      have H := H1
      clear H1
      have H' := Aside0.mk H
      clear H
      have hcz17_0 : w5.cell? ⟨gb241, 0, none⟩ = some (.slice A0_0 l0_0.length c0_0) := (blk_cell BK241.out 0).trans rfl
      have hcz17_1 : w5.cell? ⟨gb241, 1, none⟩ = some (.slice A0_1 l0_1.length c0_1) := (blk_cell BK241.out 1).trans rfl
      have hfz17_0 := blk_frozen BK241.out 0
      have hfz17_1 := blk_frozen BK241.out 1
      go_wp2_with (first | ((with_reducible refine gate_callee (f := 15) rfl ?_); refine goesL_ (some 12) rfl rfl Try.func15 (by kernel_rfl) rfl #[.agg #[.slice A0_0 l0_0.length c0_0, .slice A0_1 l0_1.length c0_1]] rfl q0_ ?_; (with_reducible refine (spec_WeaveOk.calls k _ _ l0_0 _ _ l0_1 true _ ?side1 ?side2 ?side3 ?side4 A6.out).mono ?_); (case side1 => exact q3_); (case side2 => exact HC0_0.out); (case side3 => exact q4_); (case side4 => exact HC0_1.out); rintro e w18 ⟨rfl, hb⟩; refine ⟨_, rfl, ?_⟩; have n0_ := Aside0.mk (blk_below (g := gb241) (o := .cells #[.slice A0_0 l0_0.length c0_0, .slice A0_1 l0_1.length c0_1] 30 (0, 0)) q18_ hb); have n1_ := Aside0.mk (below_step q11_ hb); clear BK241; clear HB; have BK241 := n0_; have HB := n1_; clear n0_ n1_; (try clear hb); (try clear hb2); (try clear hk); (try clear hi); have hcz19_0 : w18.cell? ⟨gb241, 0, none⟩ = some (.slice A0_0 l0_0.length c0_0) := (blk_cell BK241.out 0).trans rfl; have hcz19_1 : w18.cell? ⟨gb241, 1, none⟩ = some (.slice A0_1 l0_1.length c0_1) := (blk_cell BK241.out 1).trans rfl; have hfz19_0 := blk_frozen BK241.out 0; have hfz19_1 := blk_frozen BK241.out 1) | (go_at_call 66; (try simp only [i64_w]); (with_reducible refine (spec_l06Has.calls _ _ l0_0 _ _ l0_1 a1 false _ ?side1 ?side2 ?side3 ?side4 A8.out).mono ?_); (case side1 => exact q3_); (case side2 => exact HC0_0.out); (case side3 => exact q4_); (case side4 => exact HC0_1.out); rintro e w20 ⟨rfl, hb⟩; have n0_ := Aside0.mk (blk_below (g := gb241) (o := .cells #[.slice A0_0 l0_0.length c0_0, .slice A0_1 l0_1.length c0_1] 30 (0, 0)) q18_ hb); have n1_ := Aside0.mk (below_step q11_ hb); clear BK241; clear HB; have BK241 := n0_; have HB := n1_; clear n0_ n1_; (try clear hb); (try clear hb2); (try clear hk); (try clear hi)))
      go_meet
      case rel => exact ⟨_, (true), q6_, H', ⟨by first | omega | exact Nat.le_refl _⟩, ⟨by (with_reducible repeat (first | refine blk_drewN ?_ _ | refine blk_drew ?_ | refine blk_alloc ?_ _)); exact BK241.out⟩, ⟨by repeat (first | (with_reducible first | exact HB.out | apply below_alloc | apply pw_below_drewN | apply below_drew1 | refine below_set ?_ GE241.out) | exact HB.out)⟩⟩
    ·replace c7 := Bool.eq_false_iff.mpr c7
     subst c7
     have H1 : (spec_Shared.j0 k a1 a2 true l0_0 l0_1) = some r := by rw [if_neg (show ¬ (false = true) by decide)] at H; exact H
     clear H
     have H := H1
     clear H1
     have H' := Aside0.mk H
     clear H
     have hcz21_0 : w5.cell? ⟨gb241, 0, none⟩ = some (.slice A0_0 l0_0.length c0_0) := (blk_cell BK241.out 0).trans rfl
     have hcz21_1 : w5.cell? ⟨gb241, 1, none⟩ = some (.slice A0_1 l0_1.length c0_1) := (blk_cell BK241.out 1).trans rfl
     have hfz21_0 := blk_frozen BK241.out 0
     have hfz21_1 := blk_frozen BK241.out 1
     go_wp2_with (first | ((with_reducible refine gate_callee (f := 15) rfl ?_); refine goesL_ (some 12) rfl rfl Try.func15 (by kernel_rfl) rfl #[.agg #[.slice A0_0 l0_0.length c0_0, .slice A0_1 l0_1.length c0_1]] rfl q0_ ?_; (with_reducible refine (spec_WeaveOk.calls k _ _ l0_0 _ _ l0_1 false _ ?side1 ?side2 ?side3 ?side4 A6.out).mono ?_); (case side1 => exact q3_); (case side2 => exact HC0_0.out); (case side3 => exact q4_); (case side4 => exact HC0_1.out); rintro e w22 ⟨rfl, hb⟩; refine ⟨_, rfl, ?_⟩; have n0_ := Aside0.mk (blk_below (g := gb241) (o := .cells #[.slice A0_0 l0_0.length c0_0, .slice A0_1 l0_1.length c0_1] 30 (0, 0)) q18_ hb); have n1_ := Aside0.mk (below_step q11_ hb); clear BK241; clear HB; have BK241 := n0_; have HB := n1_; clear n0_ n1_; (try clear hb); (try clear hb2); (try clear hk); (try clear hi)))
     go_meet
     case rel => exact ⟨_, (true), q6_, H', ⟨by first | omega | exact Nat.le_refl _⟩, ⟨by (with_reducible repeat (first | refine blk_drewN ?_ _ | refine blk_drew ?_ | refine blk_alloc ?_ _)); exact BK241.out⟩, ⟨by repeat (first | (with_reducible first | exact HB.out | apply below_alloc | apply pw_below_drewN | apply below_drew1 | refine below_set ?_ GE241.out) | exact HB.out)⟩⟩
  case rest =>
    clear HC4
    try clear c1
    try clear p2
    try clear c7
    try clear c9
    try clear c15
    try clear c19
    try clear hcz11_0
    try clear hcz11_1
    try clear hcz13_0
    try clear hcz13_1
    try clear hcz15_0
    try clear hcz15_1
    try clear hcz17_0
    try clear hcz17_1
    try clear hcz19_0
    try clear hcz19_1
    try clear hcz21_0
    try clear hcz21_1
    try clear hfz11_0
    try clear hfz11_1
    try clear hfz13_0
    try clear hfz13_1
    try clear hfz15_0
    try clear hfz15_1
    try clear hfz17_0
    try clear hfz17_1
    try clear hfz19_0
    try clear hfz19_1
    try clear hfz21_0
    try clear hfz21_1
    obtain ⟨kq, x25_3, rfl, HA, HJ3, BK241, HB⟩ := hcut
    cases kq with
    | zero => exact absurd HA.out (by simp [spec_Shared.j0])
    | succ kj3 =>
     have H := HA.out
     clear HA
     simp only [spec_Shared.j0] at H
     by_cases c23 : x25_3 = true
     ·subst c23
      have H1 : (some (-1)) = some r := by rw [if_pos rfl] at H; exact H
      clear H
      have H := H1
      clear H1
      obtain rfl := Option.some.inj H
      go_wp2
      go_ret
      exact ⟨by first | rfl | (simp [errW_none, errW_some] <;> rfl) | (simp [*, errW_none, errW_some] <;> rfl), by repeat (first | (with_reducible first | exact HB.out | apply below_alloc | apply pw_below_drewN | apply below_drew1 | refine below_set ?_ GE241.out) | exact HB.out)⟩
     ·replace c23 := Bool.eq_false_iff.mpr c23
      subst c23
      have H1 : ((spec_l06Closure.f kj3 l0_0 l0_1 a1).bind fun t245 => ((spec_l06Closure.f kj3 l0_0 l0_1 a2).bind fun t248 => (spec_Shared.l0 kj3 0 t245 t248 0 l0_0 l0_1))) = some r := by rw [if_neg (show ¬ (false = true) by decide)] at H; exact H
      clear H
      have H := H1
      clear H1
      replace H := Option.bind_eq_some_iff.mp H
      obtain ⟨t245, A240, H⟩ := H
      replace H : ((spec_l06Closure.f kj3 l0_0 l0_1 a2).bind fun t248 => (spec_Shared.l0 kj3 0 t245 t248 0 l0_0 l0_1)) = some r := H
      have A24 := Aside0.mk A240
      clear A240
      replace H := Option.bind_eq_some_iff.mp H
      obtain ⟨t248, A250, H⟩ := H
      replace H : (spec_Shared.l0 kj3 0 t245 t248 0 l0_0 l0_1) = some r := H
      have A25 := Aside0.mk A250
      clear A250
      have H' := Aside0.mk H
      clear H
      have hcz26_0 : wc.cell? ⟨gb241, 0, none⟩ = some (.slice A0_0 l0_0.length c0_0) := (blk_cell BK241.out 0).trans rfl
      have hcz26_1 : wc.cell? ⟨gb241, 1, none⟩ = some (.slice A0_1 l0_1.length c0_1) := (blk_cell BK241.out 1).trans rfl
      have hfz26_0 := blk_frozen BK241.out 0
      have hfz26_1 := blk_frozen BK241.out 1
      go_wp2_with (first | ((with_reducible refine gate_callee (f := 58) rfl ?_); refine goesL_ (some 28) rfl rfl Try.func58 (by kernel_rfl) rfl #[.agg #[.slice A0_0 l0_0.length c0_0, .slice A0_1 l0_1.length c0_1], .int .i64 a1] rfl q0_ ?_; (with_reducible refine (spec_l06Closure.calls kj3 _ _ l0_0 _ _ l0_1 a1 t245 _ ?side1 ?side2 ?side3 ?side4 A24.out).mono ?_); (case side1 => exact q3_); (case side2 => exact HC0_0.out); (case side3 => exact q4_); (case side4 => exact HC0_1.out); rintro e w27 ⟨v246, rfl, ho0, hb⟩; refine ⟨_, rfl, ?_⟩; have n0_ := Aside0.mk (Kd.R_lower ho0 (below_size q11_)); have n1_ := Aside0.mk (blk_below (g := gb241) (o := .cells #[.slice A0_0 l0_0.length c0_0, .slice A0_1 l0_1.length c0_1] 30 (0, 0)) q18_ hb); have n2_ := Aside0.mk (below_step q11_ hb); clear BK241; clear HB; have HO247 := n0_; have BK241 := n1_; have HB := n2_; clear n0_ n1_ n2_; (try clear hb); (try clear hb2); (try clear hk); (try clear hi); (try clear ho0); have hcz28_0 : w27.cell? ⟨gb241, 0, none⟩ = some (.slice A0_0 l0_0.length c0_0) := (blk_cell BK241.out 0).trans rfl; have hcz28_1 : w27.cell? ⟨gb241, 1, none⟩ = some (.slice A0_1 l0_1.length c0_1) := (blk_cell BK241.out 1).trans rfl; have hfz28_0 := blk_frozen BK241.out 0; have hfz28_1 := blk_frozen BK241.out 1) | ((with_reducible refine gate_callee (f := 58) rfl ?_); refine goesL_ (some 31) rfl rfl Try.func58 (by kernel_rfl) rfl #[.agg #[.slice A0_0 l0_0.length c0_0, .slice A0_1 l0_1.length c0_1], .int .i64 a2] rfl q0_ ?_; (with_reducible refine (spec_l06Closure.calls kj3 _ _ l0_0 _ _ l0_1 a2 t248 _ ?side1 ?side2 ?side3 ?side4 A25.out).mono ?_); (case side1 => exact q3_); (case side2 => exact HC0_0.out); (case side3 => exact q4_); (case side4 => exact HC0_1.out); rintro e w29 ⟨v249, rfl, ho0, hb⟩; refine ⟨_, rfl, ?_⟩; have n0_ := Aside0.mk (Kd.R_elder' (by (with_reducible repeat (first | apply Kd.R_alloc | apply Kd.R_drewN | apply Kd.R_drew)); exact HO247.out) (Kd.R_base ho0) hb); have n1_ := Aside0.mk (Kd.R_lower (Kd.R_new' ho0 (Kd.R_lt (by (with_reducible repeat (first | apply Kd.R_alloc | apply Kd.R_drewN | apply Kd.R_drew)); exact HO247.out))) (below_size q11_)); have n2_ := Aside0.mk (blk_below (g := gb241) (o := .cells #[.slice A0_0 l0_0.length c0_0, .slice A0_1 l0_1.length c0_1] 30 (0, 0)) q18_ hb); have n3_ := Aside0.mk (below_step q11_ hb); clear HO247; clear BK241; clear HB; have HO247 := n0_; have HO250 := n1_; have BK241 := n2_; have HB := n3_; clear n0_ n1_ n2_ n3_; (try clear hb); (try clear hb2); (try clear hk); (try clear hi); (try clear ho0)))
      go_loopg [7, 10] kj3 (fun kq v7 v10 w' => ∃ (x7_2 : Int) (x10_2 : Int), v7 = .int .i64 x7_2 ∧ v10 = .int .i64 x10_2 ∧ Aside0 (spec_Shared.l0 kq x7_2 t245 t248 x10_2 l0_0 l0_1 = some r) ∧ Aside0 (kq ≤ kj3) ∧ Aside0 (Kd.R Kd.bool 4 w' w.heap.size (fun k_ => some k_ ≠ (v249 : Value).ownBlock) v246 t245) ∧ Aside0 (Kd.R Kd.bool 4 w' w.heap.size (fun k_ => some k_ ≠ (v246 : Value).ownBlock) v249 t248) ∧ Aside0 (w'.heap[gb241]? = some (.cells #[(.slice A0_0 l0_0.length c0_0), (.slice A0_1 l0_1.length c0_1)] 30 (0, 0))) ∧ Aside0 (Below w.heap.size w w'))
      case atStart => exact ⟨(0), (0), q6_, q6_, H', ⟨Nat.le_refl _⟩, ⟨by (with_reducible repeat (first | apply Kd.R_alloc | apply Kd.R_drewN | apply Kd.R_drew)); exact Kd.R_mono HO247.out (fun _ hk => hk.2)⟩, ⟨by (with_reducible repeat (first | apply Kd.R_alloc | apply Kd.R_drewN | apply Kd.R_drew)); exact Kd.R_mono HO250.out (fun _ hk => hk.2)⟩, ⟨by (with_reducible repeat (first | refine blk_drewN ?_ _ | refine blk_drew ?_ | refine blk_alloc ?_ _)); exact BK241.out⟩, ⟨by repeat (first | (with_reducible first | exact HB.out | apply below_alloc | apply pw_below_drewN | apply below_drew1 | refine below_set ?_ GE241.out) | exact HB.out)⟩⟩
      case round =>
       clear H'
       try clear c1
       try clear c2
       try clear p2
       try clear c5
       try clear c7
       try clear c9
       try clear c15
       try clear c19
       try clear c23
       try clear hcz11_0
       try clear hcz11_1
       try clear hcz13_0
       try clear hcz13_1
       try clear hcz15_0
       try clear hcz15_1
       try clear hcz17_0
       try clear hcz17_1
       try clear hcz19_0
       try clear hcz19_1
       try clear hcz21_0
       try clear hcz21_1
       try clear hcz26_0
       try clear hcz26_1
       try clear hcz28_0
       try clear hcz28_1
       try clear hfz11_0
       try clear hfz11_1
       try clear hfz13_0
       try clear hfz13_1
       try clear hfz15_0
       try clear hfz15_1
       try clear hfz17_0
       try clear hfz17_1
       try clear hfz19_0
       try clear hfz19_1
       try clear hfz21_0
       try clear hfz21_1
       try clear hfz26_0
       try clear hfz26_1
       try clear hfz28_0
       try clear hfz28_1
       try clear p2
       obtain ⟨x7_2, x10_2, rfl, rfl, HA, HK2, HO_8, HO_9, BK241, HB⟩ := hrel
       cases gk with
       | zero => exact absurd HA.out (by simp [spec_Shared.l0])
       | succ k2 =>
        have H := HA.out
        clear HA
        simp only [spec_Shared.l0] at H
        by_cases c30 : x10_2 < (l0_1.length : Int)
        ·rw [if_pos c30] at H
         have c30b0 : decide (x10_2 < (l0_1.length : Int)) = true := decide_eq_true c30
         clear c30
         by_cases c31 : 0 ≤ x10_2
         case neg =>
          rw [if_neg c31] at H
          exact absurd H (by simp)
         rw [if_pos c31] at H
         have c31b0 : decide (0 ≤ x10_2) = true := decide_eq_true c31
         clear c31
         replace H := Option.bind_eq_some_iff.mp H
         obtain ⟨t252, A320, H⟩ := H
         replace H : (if t252 = true then ((spec_l06Live.f k2 ((rd_T68 l0_1 x10_2).f0) ((rd_T68 l0_1 x10_2).f1) ((rd_T68 l0_1 x10_2).f2) ((rd_T68 l0_1 x10_2).f3) t248).bind fun t254 => (if t254 = true then (spec_Shared.l0 k2 (wrap64 (x7_2 + 1)) t245 t248 (wrap64 (x10_2 + 1)) l0_0 l0_1) else (spec_Shared.l0 k2 x7_2 t245 t248 (wrap64 (x10_2 + 1)) l0_0 l0_1))) else (spec_Shared.l0 k2 x7_2 t245 t248 (wrap64 (x10_2 + 1)) l0_0 l0_1)) = some r := H
         have A32 := Aside0.mk A320
         clear A320
         by_cases c33 : t252 = true
         ·subst c33
          have H1 : ((spec_l06Live.f k2 ((rd_T68 l0_1 x10_2).f0) ((rd_T68 l0_1 x10_2).f1) ((rd_T68 l0_1 x10_2).f2) ((rd_T68 l0_1 x10_2).f3) t248).bind fun t254 => (if t254 = true then (spec_Shared.l0 k2 (wrap64 (x7_2 + 1)) t245 t248 (wrap64 (x10_2 + 1)) l0_0 l0_1) else (spec_Shared.l0 k2 x7_2 t245 t248 (wrap64 (x10_2 + 1)) l0_0 l0_1))) = some r := by rw [if_pos rfl] at H; exact H
          clear H
          have H := H1
          clear H1
          replace H := Option.bind_eq_some_iff.mp H
          obtain ⟨t254, A340, H⟩ := H
          replace H : (if t254 = true then (spec_Shared.l0 k2 (wrap64 (x7_2 + 1)) t245 t248 (wrap64 (x10_2 + 1)) l0_0 l0_1) else (spec_Shared.l0 k2 x7_2 t245 t248 (wrap64 (x10_2 + 1)) l0_0 l0_1)) = some r := H
          have A34 := Aside0.mk A340
          clear A340
          by_cases c35 : t254 = true
          ·subst c35
           have H1 : (spec_Shared.l0 k2 (wrap64 (x7_2 + 1)) t245 t248 (wrap64 (x10_2 + 1)) l0_0 l0_1) = some r := by rw [if_pos rfl] at H; exact H
           clear H
           have H := H1
           clear H1
           have H' := Aside0.mk H
           clear H
           have hcz36_0 : wr.cell? ⟨gb241, 0, none⟩ = some (.slice A0_0 l0_0.length c0_0) := (blk_cell BK241.out 0).trans rfl
           have hcz36_1 : wr.cell? ⟨gb241, 1, none⟩ = some (.slice A0_1 l0_1.length c0_1) := (blk_cell BK241.out 1).trans rfl
           have hfz36_0 := blk_frozen BK241.out 0
           have hfz36_1 := blk_frozen BK241.out 1
           have p251 : 0 ≤ (x10_2 : Int) := of_decide_eq_true q2_
           have q251 : x10_2 < (l0_1.length : Int) := of_decide_eq_true q2_
           obtain ⟨ad251, A251_3, c251_3, e251, hx251_0, hx251_1, hx251_2, hx251_3, hl251_3, hi251_3⟩ := at_T68 HR0_1.out x10_2 p251 q251
           cases e251
           replace hx251_0 := (HB.out.cell (World.block_lt_of_cell? w _ hx251_0)).trans hx251_0
           replace hx251_1 := (HB.out.cell (World.block_lt_of_cell? w _ hx251_1)).trans hx251_1
           replace hx251_2 := (HB.out.cell (World.block_lt_of_cell? w _ hx251_2)).trans hx251_2
           replace hx251_3 := (HB.out.cell (World.block_lt_of_cell? w _ hx251_3)).trans hx251_3
           have HR251_3 := Aside0.mk hi251_3
           have HC251_3 := Aside0.mk hl251_3
           clear hi251_3 hl251_3
           replace p251 := eq_true p251
           replace q251 := eq_true q251
           obtain ⟨Ao37, co37, eo37⟩ := Kd.R_slice HO_8.out
           subst eo37
           go_wp2_with (first | ((with_reducible refine gate_callee (f := 56) rfl ?_); refine goesL_ (some 45) rfl rfl Try.func56 (by kernel_rfl) rfl #[.agg #[.string ((rd_T68 l0_1 x10_2).f0), .int .i64 ((rd_T68 l0_1 x10_2).f1), .int .i64 ((rd_T68 l0_1 x10_2).f2), .slice A251_3 ((rd_T68 l0_1 x10_2).f3).length c251_3], .slice Ao37 t245.length co37] rfl q0_ ?_; (with_reducible refine (spec_l06Live.calls k2 ((rd_T68 l0_1 x10_2).f0) ((rd_T68 l0_1 x10_2).f1) ((rd_T68 l0_1 x10_2).f2) _ _ ((rd_T68 l0_1 x10_2).f3) _ _ t245 true _ ?side1 ?side2 ?side3 ?side4 A32.out).mono ?_); (case side1 => exact (by repeat (first | exact (Kd.C_below HR251_3.out HB.out) | (with_reducible refine Kd.C_alloc ?_ _) | (with_reducible refine Kd.C_drewN ?_ _) | (with_reducible refine Kd.C_drew ?_)))); (case side2 => exact HC251_3.out); (case side3 => exact (by repeat (first | exact (Kd.R_reads' HO_8.out).2.2 | (with_reducible refine Kd.C_alloc ?_ _) | (with_reducible refine Kd.C_drewN ?_ _) | (with_reducible refine Kd.C_drew ?_)))); (case side4 => exact (Kd.R_reads' HO_8.out).2.1); rintro e w38 ⟨rfl, hb⟩; refine ⟨_, rfl, ?_⟩; have n0_ := Aside0.mk (Kd.R_below q57_ hb); have n1_ := Aside0.mk (Kd.R_below q58_ hb); have n2_ := Aside0.mk (blk_below (g := gb241) (o := .cells #[.slice A0_0 l0_0.length c0_0, .slice (some ad251) l0_1.length c0_1] 30 (0, 0)) q18_ hb); have n3_ := Aside0.mk (below_step q11_ hb); clear HO_8; clear HO_9; clear BK241; clear HB; have HO_8 := n0_; have HO_9 := n1_; have BK241 := n2_; have HB := n3_; clear n0_ n1_ n2_ n3_; (try clear hb); (try clear hb2); (try clear hk); (try clear hi); have hcz39_0 : w38.cell? ⟨gb241, 0, none⟩ = some (.slice A0_0 l0_0.length c0_0) := (blk_cell BK241.out 0).trans rfl; have hcz39_1 : w38.cell? ⟨gb241, 1, none⟩ = some (.slice (some ad251) l0_1.length c0_1) := (blk_cell BK241.out 1).trans rfl; have hfz39_0 := blk_frozen BK241.out 0; have hfz39_1 := blk_frozen BK241.out 1; have p253 : 0 ≤ (x10_2 : Int) := of_decide_eq_true q2_; have q253 : x10_2 < (l0_1.length : Int) := of_decide_eq_true q2_; obtain ⟨ad253, A253_3, c253_3, e253, hx253_0, hx253_1, hx253_2, hx253_3, hl253_3, hi253_3⟩ := at_T68 HR0_1.out x10_2 p253 q253; obtain rfl : ad251 = ad253 := (by injection e253); replace hx253_0 := (HB.out.cell (World.block_lt_of_cell? w _ hx253_0)).trans hx253_0; replace hx253_1 := (HB.out.cell (World.block_lt_of_cell? w _ hx253_1)).trans hx253_1; replace hx253_2 := (HB.out.cell (World.block_lt_of_cell? w _ hx253_2)).trans hx253_2; replace hx253_3 := (HB.out.cell (World.block_lt_of_cell? w _ hx253_3)).trans hx253_3; have HR253_3 := Aside0.mk hi253_3; have HC253_3 := Aside0.mk hl253_3; clear hi253_3 hl253_3; replace p253 := eq_true p253; replace q253 := eq_true q253; obtain ⟨Ao40, co40, eo40⟩ := Kd.R_slice HO_9.out; subst eo40) | (go_at_call 56; (try simp only [i64_w]); (with_reducible refine (spec_l06Live.calls k2 ((rd_T68 l0_1 x10_2).f0) ((rd_T68 l0_1 x10_2).f1) ((rd_T68 l0_1 x10_2).f2) _ _ ((rd_T68 l0_1 x10_2).f3) _ _ t248 true _ ?side1 ?side2 ?side3 ?side4 A34.out).mono ?_); (case side1 => exact (by repeat (first | exact (Kd.C_below HR253_3.out HB.out) | (with_reducible refine Kd.C_alloc ?_ _) | (with_reducible refine Kd.C_drewN ?_ _) | (with_reducible refine Kd.C_drew ?_)))); (case side2 => exact HC253_3.out); (case side3 => exact (by repeat (first | exact (Kd.R_reads' HO_9.out).2.2 | (with_reducible refine Kd.C_alloc ?_ _) | (with_reducible refine Kd.C_drewN ?_ _) | (with_reducible refine Kd.C_drew ?_)))); (case side4 => exact (Kd.R_reads' HO_9.out).2.1); rintro e w41 ⟨rfl, hb⟩; have n0_ := Aside0.mk (Kd.R_below q57_ hb); have n1_ := Aside0.mk (Kd.R_below q58_ hb); have n2_ := Aside0.mk (blk_below (g := gb241) (o := .cells #[.slice A0_0 l0_0.length c0_0, .slice (some ad251) l0_1.length c0_1] 30 (0, 0)) q18_ hb); have n3_ := Aside0.mk (below_step q11_ hb); clear HO_8; clear HO_9; clear BK241; clear HB; have HO_8 := n0_; have HO_9 := n1_; have BK241 := n2_; have HB := n3_; clear n0_ n1_ n2_ n3_; (try clear hb); (try clear hb2); (try clear hk); (try clear hi)))
           go_roundg k2
           case measure => have := HJ3.out; have := HK2.out; omega
           case rel => exact ⟨(wrap64 (x7_2 + 1)), (wrap64 (x10_2 + 1)), q6_, q6_, H', ⟨by have := HJ3.out; have := HK2.out; omega⟩, ⟨by (with_reducible repeat (first | apply Kd.R_alloc | apply Kd.R_drewN | apply Kd.R_drew)); exact HO_8.out⟩, ⟨by (with_reducible repeat (first | apply Kd.R_alloc | apply Kd.R_drewN | apply Kd.R_drew)); exact HO_9.out⟩, ⟨by (with_reducible repeat (first | refine blk_drewN ?_ _ | refine blk_drew ?_ | refine blk_alloc ?_ _)); exact BK241.out⟩, ⟨by repeat (first | (with_reducible first | exact HB.out | apply below_alloc | apply pw_below_drewN | apply below_drew1 | refine below_set ?_ GE241.out) | exact HB.out)⟩⟩
          ·replace c35 := Bool.eq_false_iff.mpr c35
           subst c35
           have H1 : (spec_Shared.l0 k2 x7_2 t245 t248 (wrap64 (x10_2 + 1)) l0_0 l0_1) = some r := by rw [if_neg (show ¬ (false = true) by decide)] at H; exact H
           clear H
           have H := H1
           clear H1
           have H' := Aside0.mk H
           clear H
           have hcz42_0 : wr.cell? ⟨gb241, 0, none⟩ = some (.slice A0_0 l0_0.length c0_0) := (blk_cell BK241.out 0).trans rfl
           have hcz42_1 : wr.cell? ⟨gb241, 1, none⟩ = some (.slice A0_1 l0_1.length c0_1) := (blk_cell BK241.out 1).trans rfl
           have hfz42_0 := blk_frozen BK241.out 0
           have hfz42_1 := blk_frozen BK241.out 1
           have p251 : 0 ≤ (x10_2 : Int) := of_decide_eq_true q2_
           have q251 : x10_2 < (l0_1.length : Int) := of_decide_eq_true q2_
           obtain ⟨ad251, A251_3, c251_3, e251, hx251_0, hx251_1, hx251_2, hx251_3, hl251_3, hi251_3⟩ := at_T68 HR0_1.out x10_2 p251 q251
           cases e251
           replace hx251_0 := (HB.out.cell (World.block_lt_of_cell? w _ hx251_0)).trans hx251_0
           replace hx251_1 := (HB.out.cell (World.block_lt_of_cell? w _ hx251_1)).trans hx251_1
           replace hx251_2 := (HB.out.cell (World.block_lt_of_cell? w _ hx251_2)).trans hx251_2
           replace hx251_3 := (HB.out.cell (World.block_lt_of_cell? w _ hx251_3)).trans hx251_3
           have HR251_3 := Aside0.mk hi251_3
           have HC251_3 := Aside0.mk hl251_3
           clear hi251_3 hl251_3
           replace p251 := eq_true p251
           replace q251 := eq_true q251
           obtain ⟨Ao43, co43, eo43⟩ := Kd.R_slice HO_8.out
           subst eo43
           go_wp2_with (first | ((with_reducible refine gate_callee (f := 56) rfl ?_); refine goesL_ (some 45) rfl rfl Try.func56 (by kernel_rfl) rfl #[.agg #[.string ((rd_T68 l0_1 x10_2).f0), .int .i64 ((rd_T68 l0_1 x10_2).f1), .int .i64 ((rd_T68 l0_1 x10_2).f2), .slice A251_3 ((rd_T68 l0_1 x10_2).f3).length c251_3], .slice Ao43 t245.length co43] rfl q0_ ?_; (with_reducible refine (spec_l06Live.calls k2 ((rd_T68 l0_1 x10_2).f0) ((rd_T68 l0_1 x10_2).f1) ((rd_T68 l0_1 x10_2).f2) _ _ ((rd_T68 l0_1 x10_2).f3) _ _ t245 true _ ?side1 ?side2 ?side3 ?side4 A32.out).mono ?_); (case side1 => exact (by repeat (first | exact (Kd.C_below HR251_3.out HB.out) | (with_reducible refine Kd.C_alloc ?_ _) | (with_reducible refine Kd.C_drewN ?_ _) | (with_reducible refine Kd.C_drew ?_)))); (case side2 => exact HC251_3.out); (case side3 => exact (by repeat (first | exact (Kd.R_reads' HO_8.out).2.2 | (with_reducible refine Kd.C_alloc ?_ _) | (with_reducible refine Kd.C_drewN ?_ _) | (with_reducible refine Kd.C_drew ?_)))); (case side4 => exact (Kd.R_reads' HO_8.out).2.1); rintro e w44 ⟨rfl, hb⟩; refine ⟨_, rfl, ?_⟩; have n0_ := Aside0.mk (Kd.R_below q57_ hb); have n1_ := Aside0.mk (Kd.R_below q58_ hb); have n2_ := Aside0.mk (blk_below (g := gb241) (o := .cells #[.slice A0_0 l0_0.length c0_0, .slice (some ad251) l0_1.length c0_1] 30 (0, 0)) q18_ hb); have n3_ := Aside0.mk (below_step q11_ hb); clear HO_8; clear HO_9; clear BK241; clear HB; have HO_8 := n0_; have HO_9 := n1_; have BK241 := n2_; have HB := n3_; clear n0_ n1_ n2_ n3_; (try clear hb); (try clear hb2); (try clear hk); (try clear hi); have hcz45_0 : w44.cell? ⟨gb241, 0, none⟩ = some (.slice A0_0 l0_0.length c0_0) := (blk_cell BK241.out 0).trans rfl; have hcz45_1 : w44.cell? ⟨gb241, 1, none⟩ = some (.slice (some ad251) l0_1.length c0_1) := (blk_cell BK241.out 1).trans rfl; have hfz45_0 := blk_frozen BK241.out 0; have hfz45_1 := blk_frozen BK241.out 1; have p253 : 0 ≤ (x10_2 : Int) := of_decide_eq_true q2_; have q253 : x10_2 < (l0_1.length : Int) := of_decide_eq_true q2_; obtain ⟨ad253, A253_3, c253_3, e253, hx253_0, hx253_1, hx253_2, hx253_3, hl253_3, hi253_3⟩ := at_T68 HR0_1.out x10_2 p253 q253; obtain rfl : ad251 = ad253 := (by injection e253); replace hx253_0 := (HB.out.cell (World.block_lt_of_cell? w _ hx253_0)).trans hx253_0; replace hx253_1 := (HB.out.cell (World.block_lt_of_cell? w _ hx253_1)).trans hx253_1; replace hx253_2 := (HB.out.cell (World.block_lt_of_cell? w _ hx253_2)).trans hx253_2; replace hx253_3 := (HB.out.cell (World.block_lt_of_cell? w _ hx253_3)).trans hx253_3; have HR253_3 := Aside0.mk hi253_3; have HC253_3 := Aside0.mk hl253_3; clear hi253_3 hl253_3; replace p253 := eq_true p253; replace q253 := eq_true q253; obtain ⟨Ao46, co46, eo46⟩ := Kd.R_slice HO_9.out; subst eo46) | (go_at_call 56; (try simp only [i64_w]); (with_reducible refine (spec_l06Live.calls k2 ((rd_T68 l0_1 x10_2).f0) ((rd_T68 l0_1 x10_2).f1) ((rd_T68 l0_1 x10_2).f2) _ _ ((rd_T68 l0_1 x10_2).f3) _ _ t248 false _ ?side1 ?side2 ?side3 ?side4 A34.out).mono ?_); (case side1 => exact (by repeat (first | exact (Kd.C_below HR253_3.out HB.out) | (with_reducible refine Kd.C_alloc ?_ _) | (with_reducible refine Kd.C_drewN ?_ _) | (with_reducible refine Kd.C_drew ?_)))); (case side2 => exact HC253_3.out); (case side3 => exact (by repeat (first | exact (Kd.R_reads' HO_9.out).2.2 | (with_reducible refine Kd.C_alloc ?_ _) | (with_reducible refine Kd.C_drewN ?_ _) | (with_reducible refine Kd.C_drew ?_)))); (case side4 => exact (Kd.R_reads' HO_9.out).2.1); rintro e w47 ⟨rfl, hb⟩; have n0_ := Aside0.mk (Kd.R_below q57_ hb); have n1_ := Aside0.mk (Kd.R_below q58_ hb); have n2_ := Aside0.mk (blk_below (g := gb241) (o := .cells #[.slice A0_0 l0_0.length c0_0, .slice (some ad251) l0_1.length c0_1] 30 (0, 0)) q18_ hb); have n3_ := Aside0.mk (below_step q11_ hb); clear HO_8; clear HO_9; clear BK241; clear HB; have HO_8 := n0_; have HO_9 := n1_; have BK241 := n2_; have HB := n3_; clear n0_ n1_ n2_ n3_; (try clear hb); (try clear hb2); (try clear hk); (try clear hi)))
           go_roundg k2
           case measure => have := HJ3.out; have := HK2.out; omega
           case rel => exact ⟨(x7_2), (wrap64 (x10_2 + 1)), q6_, q6_, H', ⟨by have := HJ3.out; have := HK2.out; omega⟩, ⟨by (with_reducible repeat (first | apply Kd.R_alloc | apply Kd.R_drewN | apply Kd.R_drew)); exact HO_8.out⟩, ⟨by (with_reducible repeat (first | apply Kd.R_alloc | apply Kd.R_drewN | apply Kd.R_drew)); exact HO_9.out⟩, ⟨by (with_reducible repeat (first | refine blk_drewN ?_ _ | refine blk_drew ?_ | refine blk_alloc ?_ _)); exact BK241.out⟩, ⟨by repeat (first | (with_reducible first | exact HB.out | apply below_alloc | apply pw_below_drewN | apply below_drew1 | refine below_set ?_ GE241.out) | exact HB.out)⟩⟩
         ·replace c33 := Bool.eq_false_iff.mpr c33
          subst c33
          have H1 : (spec_Shared.l0 k2 x7_2 t245 t248 (wrap64 (x10_2 + 1)) l0_0 l0_1) = some r := by rw [if_neg (show ¬ (false = true) by decide)] at H; exact H
          clear H
          have H := H1
          clear H1
          have H' := Aside0.mk H
          clear H
          have hcz48_0 : wr.cell? ⟨gb241, 0, none⟩ = some (.slice A0_0 l0_0.length c0_0) := (blk_cell BK241.out 0).trans rfl
          have hcz48_1 : wr.cell? ⟨gb241, 1, none⟩ = some (.slice A0_1 l0_1.length c0_1) := (blk_cell BK241.out 1).trans rfl
          have hfz48_0 := blk_frozen BK241.out 0
          have hfz48_1 := blk_frozen BK241.out 1
          have p251 : 0 ≤ (x10_2 : Int) := of_decide_eq_true q2_
          have q251 : x10_2 < (l0_1.length : Int) := of_decide_eq_true q2_
          obtain ⟨ad251, A251_3, c251_3, e251, hx251_0, hx251_1, hx251_2, hx251_3, hl251_3, hi251_3⟩ := at_T68 HR0_1.out x10_2 p251 q251
          cases e251
          replace hx251_0 := (HB.out.cell (World.block_lt_of_cell? w _ hx251_0)).trans hx251_0
          replace hx251_1 := (HB.out.cell (World.block_lt_of_cell? w _ hx251_1)).trans hx251_1
          replace hx251_2 := (HB.out.cell (World.block_lt_of_cell? w _ hx251_2)).trans hx251_2
          replace hx251_3 := (HB.out.cell (World.block_lt_of_cell? w _ hx251_3)).trans hx251_3
          have HR251_3 := Aside0.mk hi251_3
          have HC251_3 := Aside0.mk hl251_3
          clear hi251_3 hl251_3
          replace p251 := eq_true p251
          replace q251 := eq_true q251
          obtain ⟨Ao49, co49, eo49⟩ := Kd.R_slice HO_8.out
          subst eo49
          go_wp2_with (first | ((with_reducible refine gate_callee (f := 56) rfl ?_); refine goesL_ (some 45) rfl rfl Try.func56 (by kernel_rfl) rfl #[.agg #[.string ((rd_T68 l0_1 x10_2).f0), .int .i64 ((rd_T68 l0_1 x10_2).f1), .int .i64 ((rd_T68 l0_1 x10_2).f2), .slice A251_3 ((rd_T68 l0_1 x10_2).f3).length c251_3], .slice Ao49 t245.length co49] rfl q0_ ?_; (with_reducible refine (spec_l06Live.calls k2 ((rd_T68 l0_1 x10_2).f0) ((rd_T68 l0_1 x10_2).f1) ((rd_T68 l0_1 x10_2).f2) _ _ ((rd_T68 l0_1 x10_2).f3) _ _ t245 false _ ?side1 ?side2 ?side3 ?side4 A32.out).mono ?_); (case side1 => exact (by repeat (first | exact (Kd.C_below HR251_3.out HB.out) | (with_reducible refine Kd.C_alloc ?_ _) | (with_reducible refine Kd.C_drewN ?_ _) | (with_reducible refine Kd.C_drew ?_)))); (case side2 => exact HC251_3.out); (case side3 => exact (by repeat (first | exact (Kd.R_reads' HO_8.out).2.2 | (with_reducible refine Kd.C_alloc ?_ _) | (with_reducible refine Kd.C_drewN ?_ _) | (with_reducible refine Kd.C_drew ?_)))); (case side4 => exact (Kd.R_reads' HO_8.out).2.1); rintro e w50 ⟨rfl, hb⟩; refine ⟨_, rfl, ?_⟩; have n0_ := Aside0.mk (Kd.R_below q57_ hb); have n1_ := Aside0.mk (Kd.R_below q58_ hb); have n2_ := Aside0.mk (blk_below (g := gb241) (o := .cells #[.slice A0_0 l0_0.length c0_0, .slice (some ad251) l0_1.length c0_1] 30 (0, 0)) q18_ hb); have n3_ := Aside0.mk (below_step q11_ hb); clear HO_8; clear HO_9; clear BK241; clear HB; have HO_8 := n0_; have HO_9 := n1_; have BK241 := n2_; have HB := n3_; clear n0_ n1_ n2_ n3_; (try clear hb); (try clear hb2); (try clear hk); (try clear hi)))
          go_roundg k2
          case measure => have := HJ3.out; have := HK2.out; omega
          case rel => exact ⟨(x7_2), (wrap64 (x10_2 + 1)), q6_, q6_, H', ⟨by have := HJ3.out; have := HK2.out; omega⟩, ⟨by (with_reducible repeat (first | apply Kd.R_alloc | apply Kd.R_drewN | apply Kd.R_drew)); exact HO_8.out⟩, ⟨by (with_reducible repeat (first | apply Kd.R_alloc | apply Kd.R_drewN | apply Kd.R_drew)); exact HO_9.out⟩, ⟨by (with_reducible repeat (first | refine blk_drewN ?_ _ | refine blk_drew ?_ | refine blk_alloc ?_ _)); exact BK241.out⟩, ⟨by repeat (first | (with_reducible first | exact HB.out | apply below_alloc | apply pw_below_drewN | apply below_drew1 | refine below_set ?_ GE241.out) | exact HB.out)⟩⟩
        ·rw [if_neg c30] at H
         have c30b0 : decide (x10_2 < (l0_1.length : Int)) = false := decide_eq_false c30
         clear c30
         obtain rfl := Option.some.inj H
         have hcz51_0 : wr.cell? ⟨gb241, 0, none⟩ = some (.slice A0_0 l0_0.length c0_0) := (blk_cell BK241.out 0).trans rfl
         have hcz51_1 : wr.cell? ⟨gb241, 1, none⟩ = some (.slice A0_1 l0_1.length c0_1) := (blk_cell BK241.out 1).trans rfl
         have hfz51_0 := blk_frozen BK241.out 0
         have hfz51_1 := blk_frozen BK241.out 1
         go_wp2
         go_ret
         exact ⟨by first | rfl | (simp [errW_none, errW_some] <;> rfl) | (simp [*, errW_none, errW_some] <;> rfl), by repeat (first | (with_reducible first | exact HB.out | apply below_alloc | apply pw_below_drewN | apply below_drew1 | refine below_set ?_ GE241.out) | exact HB.out)⟩

/-! ### impl_unionOf: function 85 -/
def impl_unionOf.l0 : Nat → List Int → Int → List Int → Int → Int → Option (Int)
  | 0, _, _, _, _, _ => none
  | k + 1, x0, x5, x8, x9, x10 => if x10 < x9 then (if 0 ≤ x10 then (if x10 < (x8.length : Int) then (if 0 ≤ (rd x8 x10) then (if (rd x8 x10) < (x0.length : Int) then (impl_unionOf.l0 k x0 (Go.bits .or .u64 x5 (rd x0 (rd x8 x10))) x8 x9 (wrap64 (x10 + 1))) else (none)) else (none)) else (none)) else (none)) else (some x5)
def impl_unionOf.f (k : Nat) (l0 : List Int) (l1 : List Int) : Option (Int) := impl_unionOf.l0 k l0 0 l1 (l1.length : Int) 0
theorem impl_unionOf.mono_l : ∀ k, (∀ y0 y1 y2 y3 y4, LeO (impl_unionOf.l0 k y0 y1 y2 y3 y4) (impl_unionOf.l0 (k + 1) y0 y1 y2 y3 y4))
  | 0 => fun _ _ _ _ _ r h => by simp [impl_unionOf.l0] at h
  | k + 1 => by
    have ih0 := impl_unionOf.mono_l k
    ·intro y0 y1 y2 y3 y4
     unfold impl_unionOf.l0
     repeat' first
     | (with_reducible exact ih0 _ _ _ _ _)
     | (with_reducible exact LeO.refl _)
     | (with_reducible exact LeO.none _)
     | (with_reducible refine LeO.ite ?_ ?_)
     | (with_reducible refine LeO.bind ?_ (fun _ => ?_))
     | exact ih0 _ _ _ _ _
     | exact LeO.none _
     | refine LeO.ite ?_ ?_
     | refine LeO.bind ?_ (fun _ => ?_)
theorem impl_unionOf.mono : ∀ a0 a1 k, LeO (impl_unionOf.f k a0 a1) (impl_unionOf.f (k + 1) a0 a1) := by
  intro a0 a1 k
  have ih0 := impl_unionOf.mono_l k
  unfold impl_unionOf.f
  repeat' first
     | (with_reducible exact ih0 _ _ _ _ _)
     | (with_reducible exact LeO.refl _)
     | (with_reducible exact LeO.none _)
     | (with_reducible refine LeO.ite ?_ ?_)
     | (with_reducible refine LeO.bind ?_ (fun _ => ?_))
     | exact ih0 _ _ _ _ _
     | exact LeO.none _
     | refine LeO.ite ?_ ?_
     | refine LeO.bind ?_ (fun _ => ?_)
set_option maxHeartbeats 8000000 in
set_option maxRecDepth 100000 in
theorem impl_unionOf.calls (k : Nat) (A0 : Option Addr) (c0 : Nat) (l0 : List Int) (A1 : Option Addr) (c1 : Nat) (l1 : List Int) (r : Int) (w : World) (hr0 : Kd.C (Kd.int .u64) w A0 l0.length l0) (hc0 : l0.length ≤ c0) (hr1 : Kd.C (Kd.int .i64) w A1 l1.length l1) (hc1 : l1.length ≤ c1) (h : impl_unionOf.f k l0 l1 = some r) :
    Calls Try.prog 85 #[.slice A0 l0.length c0, .slice A1 l1.length c1] w fun e w' => e = .returned (.int .u64 r) ∧ Drawn0 w w' := by
  have HR0 := Aside0.mk hr0
  have HC0 := Aside0.mk hc0
  clear hr0 hc0
  have HR1 := Aside0.mk hr1
  have HC1 := Aside0.mk hc1
  clear hr1 hc1
  have H : (impl_unionOf.l0 k l0 0 l1 (l1.length : Int) 0) = some r := h
  clear h
  have H' := Aside0.mk H
  clear H
  go_enter Try.func85, Try.ntmps85
  go_wp2
  go_loopg [5, 10] k (fun kq v5 v10 w' => ∃ (x5_1 : Int) (x10_1 : Int), v5 = .int .u64 x5_1 ∧ v10 = .int .i64 x10_1 ∧ Aside0 (impl_unionOf.l0 kq l0 x5_1 l1 (l1.length : Int) x10_1 = some r) ∧ Aside0 (kq ≤ k) ∧ Drawn0 w w')
  case atStart => exact ⟨(0), (0), q6_, q6_, H', ⟨Nat.le_refl _⟩, by repeat (first | exact Drawn0.refl _ | apply Drawn0.step)⟩
  case round =>
    clear H'
    try clear c1
    try clear p2
    obtain ⟨x5_1, x10_1, rfl, rfl, HA, HK1, ⟨m1, rfl⟩⟩ := hrel
    cases gk with
    | zero => exact absurd HA.out (by simp [impl_unionOf.l0])
    | succ k1 =>
     have H := HA.out
     clear HA
     simp only [impl_unionOf.l0] at H
     by_cases c3 : x10_1 < (l1.length : Int)
     ·rw [if_pos c3] at H
      have c3b0 : decide (x10_1 < (l1.length : Int)) = true := decide_eq_true c3
      clear c3
      by_cases c4 : 0 ≤ x10_1
      case neg =>
       rw [if_neg c4] at H
       exact absurd H (by simp)
      rw [if_pos c4] at H
      have c4b0 : decide (0 ≤ x10_1) = true := decide_eq_true c4
      clear c4
      by_cases c5 : x10_1 < (l1.length : Int)
      case neg =>
       rw [if_neg c5] at H
       exact absurd H (by simp)
      rw [if_pos c5] at H
      have c5b0 : decide (x10_1 < (l1.length : Int)) = true := decide_eq_true c5
      clear c5
      by_cases c6 : 0 ≤ (rd l1 x10_1)
      case neg =>
       rw [if_neg c6] at H
       exact absurd H (by simp)
      rw [if_pos c6] at H
      have c6b0 : decide (0 ≤ (rd l1 x10_1)) = true := decide_eq_true c6
      clear c6
      by_cases c7 : (rd l1 x10_1) < (l0.length : Int)
      case neg =>
       rw [if_neg c7] at H
       exact absurd H (by simp)
      rw [if_pos c7] at H
      have c7b0 : decide ((rd l1 x10_1) < (l0.length : Int)) = true := decide_eq_true c7
      clear c7
      have H' := Aside0.mk H
      clear H
      have p255 : 0 ≤ (x10_1 : Int) := of_decide_eq_true q2_
      have q255 : x10_1 < (l1.length : Int) := of_decide_eq_true q2_
      obtain ⟨ad255, e255, hx255_0⟩ := Kd.at_int HR1.out x10_1 p255 q255
      cases e255
      replace p255 := eq_true p255
      replace q255 := eq_true q255
      have p256 : 0 ≤ ((rd l1 x10_1) : Int) := of_decide_eq_true q2_
      have q256 : (rd l1 x10_1) < (l0.length : Int) := of_decide_eq_true q2_
      obtain ⟨ad256, e256, hx256_0⟩ := Kd.at_int HR0.out (rd l1 x10_1) p256 q256
      cases e256
      replace p256 := eq_true p256
      replace q256 := eq_true q256
      go_wp2
      go_roundg k1
      case measure => have := HK1.out; omega
      case rel => exact ⟨(Go.bits .or .u64 x5_1 (rd l0 (rd l1 x10_1))), (wrap64 (x10_1 + 1)), q6_, q6_, H', ⟨by have := HK1.out; omega⟩, by repeat (first | exact Drawn0.refl _ | apply Drawn0.step)⟩
     ·rw [if_neg c3] at H
      have c3b0 : decide (x10_1 < (l1.length : Int)) = false := decide_eq_false c3
      clear c3
      obtain rfl := Option.some.inj H
      go_wp2
      go_ret
      exact ⟨by first | rfl | (simp; done) | (simp [*]; done), by repeat (first | exact Drawn0.refl _ | apply Drawn0.step)⟩

/-! ### impl_closures: function 63 -/
def impl_closures.l0 : Nat → List Int → List (List Int) → Int → Int → Option (List Int)
  | 0, _, _, _, _ => none
  | k + 1, x3, x9, x10, x11 => if x11 < x10 then (if 0 ≤ x11 then (if x11 < (x9.length : Int) then ((impl_unionOf.f k x3 (rd_L1 x9 x11)).bind fun t261 => (if 0 ≤ (IntKind.u64.wrap (x11)) then (if x11 < (x3.length : Int) then (impl_closures.l0 k (x3.set (x11 : Int).toNat (Go.bits .or .u64 t261 (shl .u64 1 (IntKind.u64.wrap (x11))))) x9 x10 (wrap64 (x11 + 1))) else (none)) else (none))) else (none)) else (none)) else (some x3)
def impl_closures.f (k : Nat) (l0 : List (List Int)) : Option (List Int) := if 0 ≤ (l0.length : Int) then (if ((l0.length : Int) : Int).toNat ≤ 35184372088832 then (impl_closures.l0 k (List.replicate ((l0.length : Int) : Int).toNat 0) l0 (l0.length : Int) 0) else (none)) else (none)
theorem impl_closures.mono_l : ∀ k, (∀ y0 y1 y2 y3, LeO (impl_closures.l0 k y0 y1 y2 y3) (impl_closures.l0 (k + 1) y0 y1 y2 y3))
  | 0 => fun _ _ _ _ r h => by simp [impl_closures.l0] at h
  | k + 1 => by
    have ih0 := impl_closures.mono_l k
    ·intro y0 y1 y2 y3
     unfold impl_closures.l0
     repeat' first
     | (with_reducible exact ih0 _ _ _ _)
     | (with_reducible exact impl_unionOf.mono _ _ _)
     | (with_reducible exact LeO.refl _)
     | (with_reducible exact LeO.none _)
     | (with_reducible refine LeO.ite ?_ ?_)
     | (with_reducible refine LeO.bind ?_ (fun _ => ?_))
     | exact ih0 _ _ _ _
     | exact impl_unionOf.mono _ _ _
     | exact LeO.none _
     | refine LeO.ite ?_ ?_
     | refine LeO.bind ?_ (fun _ => ?_)
theorem impl_closures.mono : ∀ a0 k, LeO (impl_closures.f k a0) (impl_closures.f (k + 1) a0) := by
  intro a0 k
  have ih0 := impl_closures.mono_l k
  unfold impl_closures.f
  repeat' first
     | (with_reducible exact ih0 _ _ _ _)
     | (with_reducible exact impl_unionOf.mono _ _ _)
     | (with_reducible exact LeO.refl _)
     | (with_reducible exact LeO.none _)
     | (with_reducible refine LeO.ite ?_ ?_)
     | (with_reducible refine LeO.bind ?_ (fun _ => ?_))
     | exact ih0 _ _ _ _
     | exact impl_unionOf.mono _ _ _
     | exact LeO.none _
     | refine LeO.ite ?_ ?_
     | refine LeO.bind ?_ (fun _ => ?_)
set_option maxHeartbeats 8000000 in
set_option maxRecDepth 100000 in
theorem impl_closures.calls (k : Nat) (A0 : Option Addr) (c0 : Nat) (l0 : List (List Int)) (r : List Int) (w : World) (hr0 : Kd.C (Kd.slice 3 (Kd.int .i64)) w A0 l0.length l0) (hc0 : l0.length ≤ c0) (h : impl_closures.f k l0 = some r) :
    Calls Try.prog 63 #[.slice A0 l0.length c0] w fun e w' => ∃ v0_ : Value, e = .returned (v0_) ∧ Kd.R (Kd.int .u64) 86 w' w.heap.size (fun _ => True) v0_ r ∧ Below w.heap.size w w' := by
  have HR0 := Aside0.mk hr0
  have HC0 := Aside0.mk hc0
  clear hr0 hc0
  have HB := Aside0.mk (Below.refl w.heap.size w)
  have H : (if 0 ≤ (l0.length : Int) then (if ((l0.length : Int) : Int).toNat ≤ 35184372088832 then (impl_closures.l0 k (List.replicate ((l0.length : Int) : Int).toNat 0) l0 (l0.length : Int) 0) else (none)) else (none)) = some r := h
  clear h
  by_cases c2 : 0 ≤ (l0.length : Int)
  case neg =>
    rw [if_neg c2] at H
    exact absurd H (by simp)

  rw [if_pos c2] at H
  have c2b0 := eq_true c2
  have c2b1 : decide (0 ≤ (l0.length : Int)) = true := decide_eq_true c2
  clear c2
  by_cases c3 : ((l0.length : Int) : Int).toNat ≤ 35184372088832
  case neg =>
    rw [if_neg c3] at H
    exact absurd H (by simp)
  rw [if_pos c3] at H
  have c3b0 := eq_true c3
  have c3b1 : decide (((l0.length : Int) : Int).toNat ≤ 35184372088832) = true := decide_eq_true c3
  clear c3
  obtain ⟨y257, hy257⟩ : ∃ y_ : List Int, y_ = (List.replicate ((l0.length : Int) : Int).toNat 0) := ⟨_, rfl⟩
  replace H : (impl_closures.l0 k y257 l0 (l0.length : Int) 0) = some r := by first | (rw [hy257]; with_reducible exact H) | (have H2_ := (Option.bind_some _ _).symm.trans H; rw [hy257]; with_reducible exact H2_) | (have H2_ := (Option.bind_some _ _).symm.trans H; with_reducible exact H2_) | with_reducible exact H | (rw [hy257]; exact H) | exact H
  have Ny257 := Aside0.mk hy257
  clear hy257
  have H' := Aside0.mk H
  clear H
  go_enter Try.func63, Try.ntmps63
  go_wp2_with (first | ((with_reducible refine gate_dst (N := 8) rfl ?_); refine Kd.R_make (Kd.int .u64) _ 86 rfl (N := 8) rfl 78 _ _ rfl (l0.length : Int) rfl rfl Try.underlying78 (.int .u64 0) 8 info86 rfl (by decide) (by omega) 0 (ok := fun _ => True) (okp := fun _ => True) rfl (fun _ hk => hk) trivial (of_decide_eq_true q2_) (Nat.le_trans (Nat.mul_le_mul_right _ (of_decide_eq_true q2_ : (l0.length : Int).toNat ≤ 35184372088832)) (by omega)) (Below.refl _ _) (Nat.le_refl _) ?_; intro v258 w4 ho5 hb hg_ hnew_; clear hg_ hnew_; (first | rw [← Ny257.out] at ho5 | (simp only [Int.reduceToNat] at ho5; rw [← Ny257.out] at ho5)); have n0_ := Aside0.mk (Kd.R_lower ho5 (below_size q1_)); have n1_ := Aside0.mk (below_step q1_ hb); clear HB; have HO259 := n0_; have HB := n1_; clear n0_ n1_; clear hb ho5))
  go_loopg [11] k (fun kq v11 w' => ∃ (x3_1 : List Int) (x11_1 : Int), v11 = .int .i64 x11_1 ∧ Aside0 (impl_closures.l0 kq x3_1 l0 (l0.length : Int) x11_1 = some r) ∧ Aside0 (kq ≤ k) ∧ Aside0 (Kd.R (Kd.int .u64) 86 w' w.heap.size (fun _ => True) v258 x3_1) ∧ Aside0 (Below w.heap.size w w'))
  case atStart => exact ⟨(y257), (0), q6_, H', ⟨Nat.le_refl _⟩, ⟨by (with_reducible repeat (first | apply Kd.R_alloc | apply Kd.R_drewN | apply Kd.R_drew)); exact HO259.out⟩, ⟨by repeat (first | (with_reducible first | exact HB.out | apply below_alloc | apply pw_below_drewN | apply below_drew1) | exact HB.out)⟩⟩
  case round =>
    clear H'
    try clear c2
    try clear c2b0
    try clear c2b1
    try clear p2
    try clear c3
    try clear c3b0
    try clear c3b1
    obtain ⟨x3_1, x11_1, rfl, HA, HK1, HO_3, HB⟩ := hrel
    cases gk with
    | zero => exact absurd HA.out (by simp [impl_closures.l0])
    | succ k1 =>
     have H := HA.out
     clear HA
     simp only [impl_closures.l0] at H
     by_cases c6 : x11_1 < (l0.length : Int)
     ·rw [if_pos c6] at H
      have c6b0 : decide (x11_1 < (l0.length : Int)) = true := decide_eq_true c6
      clear c6
      by_cases c7 : 0 ≤ x11_1
      case neg =>
       rw [if_neg c7] at H
       exact absurd H (by simp)
      rw [if_pos c7] at H
      have c7b0 : decide (0 ≤ x11_1) = true := decide_eq_true c7
      clear c7
      by_cases c8 : x11_1 < (l0.length : Int)
      case neg =>
       rw [if_neg c8] at H
       exact absurd H (by simp)
      rw [if_pos c8] at H
      have c8b0 : decide (x11_1 < (l0.length : Int)) = true := decide_eq_true c8
      clear c8
      replace H := Option.bind_eq_some_iff.mp H
      obtain ⟨t261, A90, H⟩ := H
      replace H : (if 0 ≤ (IntKind.u64.wrap (x11_1)) then (if x11_1 < (x3_1.length : Int) then (impl_closures.l0 k1 (x3_1.set (x11_1 : Int).toNat (Go.bits .or .u64 t261 (shl .u64 1 (IntKind.u64.wrap (x11_1))))) l0 (l0.length : Int) (wrap64 (x11_1 + 1))) else (none)) else (none)) = some r := H
      have A9 := Aside0.mk A90
      clear A90
      obtain ⟨ji10, hji10⟩ : ∃ j_ : Int, (IntKind.u64.wrap (x11_1)) = j_ := ⟨_, rfl⟩
      replace H : (if 0 ≤ (ji10) then (if x11_1 < (x3_1.length : Int) then (impl_closures.l0 k1 (x3_1.set (x11_1 : Int).toNat (Go.bits .or .u64 t261 (shl .u64 1 (ji10)))) l0 (l0.length : Int) (wrap64 (x11_1 + 1))) else (none)) else (none)) = some r := by first | (rw [hji10] at H; exact H) | (simp only [hji10] at H ⊢; exact H)
      (try rw [hji10] at A9)
      by_cases c11 : 0 ≤ (ji10)
      case neg =>
       rw [if_neg c11] at H
       exact absurd H (by simp)
      rw [if_pos c11] at H
      have c11b0 := eq_true c11
      have c11b1 : decide (0 ≤ (ji10)) = true := decide_eq_true c11
      clear c11
      obtain ⟨ji12, hji12⟩ : ∃ j_ : Int, (shl .u64 1 (ji10)) = j_ := ⟨_, rfl⟩
      replace H : (if x11_1 < (x3_1.length : Int) then (impl_closures.l0 k1 (x3_1.set (x11_1 : Int).toNat (Go.bits .or .u64 t261 (ji12))) l0 (l0.length : Int) (wrap64 (x11_1 + 1))) else (none)) = some r := by first | (rw [hji12] at H; exact H) | (simp only [hji12] at H ⊢; exact H)
      (try rw [hji12] at A9)
      have hji12_ : (IntKind.u64.wrap (1 * 2 ^ min (ji10).toNat 64)) = ji12 := hji12
      have hji12z : (ji10) ≤ 64 → (IntKind.u64.wrap (1 * 2 ^ (ji10).toNat)) = ji12 := shl_small hji12
      have hji12u : (IntKind.u64.wrap (2 ^ min (ji10).toNat 64)) = ji12 := by have h_ := hji12_; rw [Int.one_mul] at h_; exact h_
      have hji12v : (ji10) ≤ 64 → (IntKind.u64.wrap (2 ^ (ji10).toNat)) = ji12 := fun hle_ => by have h_ := hji12z hle_; rw [Int.one_mul] at h_; exact h_
      by_cases c13 : x11_1 < (x3_1.length : Int)
      case neg =>
       rw [if_neg c13] at H
       exact absurd H (by simp)
      rw [if_pos c13] at H
      have c13b0 : decide (x11_1 < (x3_1.length : Int)) = true := decide_eq_true c13
      clear c13
      obtain ⟨y262, hy262⟩ : ∃ y_ : List Int, y_ = (x3_1.set (x11_1 : Int).toNat (Go.bits .or .u64 t261 (ji12))) := ⟨_, rfl⟩
      replace H : (impl_closures.l0 k1 y262 l0 (l0.length : Int) (wrap64 (x11_1 + 1))) = some r := by first | (rw [hy262]; with_reducible exact H) | (have H2_ := (Option.bind_some _ _).symm.trans H; rw [hy262]; with_reducible exact H2_) | (have H2_ := (Option.bind_some _ _).symm.trans H; with_reducible exact H2_) | with_reducible exact H | (rw [hy262]; exact H) | exact H
      have Ny262 := Aside0.mk hy262
      clear hy262
      have H' := Aside0.mk H
      clear H
      have p260 : 0 ≤ (x11_1 : Int) := of_decide_eq_true q2_
      have q260 : x11_1 < (l0.length : Int) := of_decide_eq_true q2_
      obtain ⟨ad260, A260_0, c260_0, e260, hx260_0, hl260_0, hi260_0⟩ := at_L1 HR0.out x11_1 p260 q260
      cases e260
      replace hx260_0 := (HB.out.cell (World.block_lt_of_cell? w _ hx260_0)).trans hx260_0
      have HR260_0 := Aside0.mk hi260_0
      have HC260_0 := Aside0.mk hl260_0
      clear hi260_0 hl260_0
      replace p260 := eq_true p260
      replace q260 := eq_true q260
      obtain ⟨Ao15, co15, eo15⟩ := Kd.R_slice HO_3.out
      subst eo15
      go_wp2_with (first | ((with_reducible refine gate_callee (f := 85) rfl ?_); refine goesL_ (some 20) rfl rfl Try.func85 (by kernel_rfl) rfl #[.slice Ao15 x3_1.length co15, .slice A260_0 (rd_L1 l0 x11_1).length c260_0] rfl q0_ ?_; (with_reducible refine (impl_unionOf.calls k1 _ _ x3_1 _ _ (rd_L1 l0 x11_1) t261 _ ?side1 ?side2 ?side3 ?side4 A9.out).mono ?_); (case side1 => exact (by repeat (first | exact (Kd.R_reads' HO_3.out).2.2 | (with_reducible refine Kd.C_alloc ?_ _) | (with_reducible refine Kd.C_drewN ?_ _) | (with_reducible refine Kd.C_drew ?_)))); (case side2 => exact (Kd.R_reads' HO_3.out).2.1); (case side3 => exact (by repeat (first | exact (Kd.C_below HR260_0.out HB.out) | (with_reducible refine Kd.C_alloc ?_ _) | (with_reducible refine Kd.C_drewN ?_ _) | (with_reducible refine Kd.C_drew ?_)))); (case side4 => exact HC260_0.out); rintro e w' ⟨rfl, ⟨nd, rfl⟩⟩; refine ⟨_, rfl, ?_⟩; (try (rw [drewN_self wr]; generalize hq_ : World.drewN wr _ = wr; (try (replace hx251_0 := cell_at hq_ hx251_0)); (try (replace hx251_1 := cell_at hq_ hx251_1)); (try (replace hx251_2 := cell_at hq_ hx251_2)); (try (replace hx251_3 := cell_at hq_ hx251_3)); (try (replace hx253_0 := cell_at hq_ hx253_0)); (try (replace hx253_1 := cell_at hq_ hx253_1)); (try (replace hx253_2 := cell_at hq_ hx253_2)); (try (replace hx253_3 := cell_at hq_ hx253_3)); (try (replace hx255_0 := cell_at hq_ hx255_0)); (try (replace hx256_0 := cell_at hq_ hx256_0)); (try (replace hx260_0 := cell_at hq_ hx260_0)); have n0_ : Aside0 (Kd.R (Kd.int .u64) 86 wr w.heap.size (fun _ => True) (.slice Ao15 x3_1.length co15) x3_1) := ⟨by rw [← hq_]; exact (by (with_reducible repeat (first | apply Kd.R_alloc | apply Kd.R_drewN | apply Kd.R_drew)); exact HO_3.out)⟩; have n1_ : Aside0 (Below w.heap.size w wr) := ⟨by rw [← hq_]; exact q1_⟩; clear HO_3 HB hq_; have HO_3 := n0_; have HB := n1_; clear n0_ n1_)); have p14 : 0 ≤ (x11_1 : Int) := of_decide_eq_true q2_; have q14 : (x11_1 : Int) < ((x3_1.length : Int) : Int) := of_decide_eq_true q2_; obtain ⟨go14, co14, eo14, gb14, gl14, cl14, HG14⟩ := Kd.R_form HO_3.out (by omega); (first | cases eo14 | (injection eo14 with ea_ en_ ec_; (first | subst ea_ | (injection ea_ with ea_; subst ea_)); subst ec_; clear en_)); have GB14 := Aside0.mk gb14; have GG14 := Aside0.mk HG14; clear gb14 gl14 HG14; obtain ⟨hx14_0, hf14_0⟩ := Kd.R_celln 0 HO_3.out (x11_1 : Int) p14 q14; replace p14 := eq_true p14; replace q14 := eq_true q14; obtain ⟨hy16_, hz16_⟩ := Kd.R_celln 0 HO_3.out (x11_1 : Int) (of_decide_eq_true q2_) (of_decide_eq_true q2_); have HP16 := Kd.R_putg HO_3.out (x11_1 : Int) (Go.bits .or .u64 t261 (ji12))) | ((with_reducible refine gate_store (t := 86) (p := 25) rfl ?_); refine store_event (t := 86) (p := 25) (v := ?vo_w17) (w1 := (wr.setCell ⟨go14, (x11_1 : Int).toNat, none⟩ (.int .u64 (Go.bits .or .u64 t261 (ji12))))) ?hg ?ho ?hn ?hr ?_; (case ho => rfl); (case hg => rfl); (case hn => rfl); (case hr => first | (go_simp; done) | (go_simp; rfl)); intro w17 hw; have hg : wr.grownBy w17 (some go14) := (by rw [hw]; exact HP16.2); have hp_ : Kd.R (Kd.int .u64) 86 w17 w.heap.size (fun _ => True) (.slice (some ⟨go14, 0, none⟩) x3_1.length co15) y262 := (by rw [hw, Ny262.out]; exact HP16.1); clear HP16; have n0_ := Aside0.mk (hp_); have n1_ := Aside0.mk ((by rw [hw]; exact below_set (HB.out) GB14.out : Below w.heap.size w w17)); clear HO_3; clear HB; have HO_3 := n0_; have HB := n1_; clear n0_ n1_; clear hg hw hp_))
      go_roundg k1
      case measure => have := HK1.out; omega
      case rel => exact ⟨(y262), (wrap64 (x11_1 + 1)), q6_, H', ⟨by have := HK1.out; omega⟩, ⟨by (with_reducible repeat (first | apply Kd.R_alloc | apply Kd.R_drewN | apply Kd.R_drew)); exact HO_3.out⟩, ⟨by repeat (first | (with_reducible first | exact HB.out | apply below_alloc | apply pw_below_drewN | apply below_drew1) | exact HB.out)⟩⟩
     ·rw [if_neg c6] at H
      have c6b0 : decide (x11_1 < (l0.length : Int)) = false := decide_eq_false c6
      clear c6
      obtain rfl := Option.some.inj H
      go_wp2
      go_ret
      exact ⟨_, by first | rfl | (simp [errW_none, errW_some] <;> rfl) | (simp [*, errW_none, errW_some] <;> rfl), by (with_reducible repeat (first | apply Kd.R_alloc | apply Kd.R_drewN | apply Kd.R_drew)); exact HO_3.out, by repeat (first | (with_reducible first | exact HB.out | apply below_alloc | apply pw_below_drewN | apply below_drew1) | exact HB.out)⟩
/-! ### impl_inRange: function 102 -/
def impl_inRange.f (a0 : Int) (a1 : Int) (a2 : Int) : Option (Bool) := if a0 ≥ a1 then (some (decide (a0 ≤ a2))) else (some false)
set_option maxHeartbeats 8000000 in
set_option maxRecDepth 100000 in
theorem impl_inRange.calls (a0 : Int) (a1 : Int) (a2 : Int) (r : Bool) (w : World) (h : impl_inRange.f a0 a1 a2 = some r) :
    Calls Try.prog 102 #[.int .i64 a0, .int .i64 a1, .int .i64 a2] w fun e w' => e = .returned (.bool r) ∧ Drawn0 w w' := by
  have H : (if a0 ≥ a1 then (some (decide (a0 ≤ a2))) else (some false)) = some r := h
  clear h
  by_cases c4 : a0 ≥ a1
  · rw [if_pos c4] at H
    have c4b0 : decide (a1 ≤ a0) = true := decide_eq_true c4
    clear c4
    obtain rfl := Option.some.inj H
    go_enter Try.func102, Try.ntmps102
    go_wp2
    go_ret
    exact ⟨by first | rfl | (simp; done) | (simp [*]; done), by repeat (first | exact Drawn0.refl _ | apply Drawn0.step)⟩
  · rw [if_neg c4] at H
    have c4b0 : decide (a1 ≤ a0) = false := decide_eq_false c4
    clear c4
    obtain rfl := Option.some.inj H
    go_enter Try.func102, Try.ntmps102
    go_wp2
    go_ret
    exact ⟨by first | rfl | (simp; done) | (simp [*]; done), by repeat (first | exact Drawn0.refl _ | apply Drawn0.step)⟩

end Go.Proofs.Ytcgelllmdcnmfaa.PFnExactShared
-- (flat)
-- (thin)
