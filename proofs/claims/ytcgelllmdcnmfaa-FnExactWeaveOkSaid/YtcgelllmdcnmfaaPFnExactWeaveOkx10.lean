-- Made by a program (the kit's print with additions of this session: wip/tools/patch_print.py, ext.py).
import Derived.Test.YtcgelllmdcnmfaaPFnExactWeaveOkx0
import Derived.Test.YtcgelllmdcnmfaaPFnExactWeaveOkx1
import Derived.Test.YtcgelllmdcnmfaaPFnExactWeaveOkx4
import Derived.Test.YtcgelllmdcnmfaaPFnExactWeaveOkx5
import Derived.Test.YtcgelllmdcnmfaaPFnExactWeaveOkx8
import Derived.Test.YtcgelllmdcnmfaaPFnExactWeaveOkx9
namespace Go.Proofs.Ytcgelllmdcnmfaa.PFnExactWeaveOk
open Go.RowKit Go.Proofs.YtcgelllmdcnmfaaW.PrintWords Go.Proofs.YtcgelllmdcnmfaaW.PrintLast Go.Proofs.YtcgelllmdcnmfaaW.PrintMore
attribute [local go_sem] max2_int min2_int max_two min_two max_three min_three max_four min_four   -- for this text's walks alone
set_option linter.unusedVariables false
set_option linter.unusedSimpArgs false

/-! ### laws_FnExactWeaveOk: function 3 -/
def laws_FnExactWeaveOk.f (k : Nat) (l0_0 : List (List Int)) (l0_1 : List (S109)) : Option (Bool) := (laws_szWeave.f k l0_0 l0_1 1048576).bind fun t294 => (if t294 < 0 then (some true) else ((laws_toWeave.f k l0_0 l0_1).bind fun bt295 => ((spec_WeaveOk.f k bt295.1 bt295.2).bind fun t301 => ((laws_toWeave.f k l0_0 l0_1).bind fun bt302 => ((impl_WeaveOk.f k bt302.1 bt302.2).bind fun t309 => (if (t309 != t301) = true then (some false) else ((laws_toWeave.f k l0_0 l0_1).bind fun bt310 => ((laws_eqWeave.f k bt302.1 bt302.2 bt310.1 bt310.2).bind fun t316 => (if t316 = true then (some true) else (some false))))))))))
theorem laws_FnExactWeaveOk.mono : ∀ a0 a1 k, LeO (laws_FnExactWeaveOk.f k a0 a1) (laws_FnExactWeaveOk.f (k + 1) a0 a1) := by
  intro a0 a1 k
  unfold laws_FnExactWeaveOk.f
  repeat' first
     | (with_reducible exact impl_WeaveOk.mono _ _ _)
     | (with_reducible exact laws_eqWeave.mono _ _ _ _ _)
     | (with_reducible exact laws_szWeave.mono _ _ _ _)
     | (with_reducible exact laws_toWeave.mono _ _ _)
     | (with_reducible exact spec_WeaveOk.mono _ _ _)
     | (with_reducible exact LeO.refl _)
     | (with_reducible exact LeO.none _)
     | (with_reducible refine LeO.ite ?_ ?_)
     | (with_reducible refine LeO.bind ?_ (fun _ => ?_))
     | exact impl_WeaveOk.mono _ _ _
     | exact laws_eqWeave.mono _ _ _ _ _
     | exact laws_szWeave.mono _ _ _ _
     | exact laws_toWeave.mono _ _ _
     | exact spec_WeaveOk.mono _ _ _
     | exact LeO.none _
     | refine LeO.ite ?_ ?_
     | refine LeO.bind ?_ (fun _ => ?_)
set_option maxHeartbeats 8000000 in
set_option maxRecDepth 100000 in
theorem laws_FnExactWeaveOk.calls (k : Nat) (A0_0 : Option Addr) (c0_0 : Nat) (l0_0 : List (List Int)) (A0_1 : Option Addr) (c0_1 : Nat) (l0_1 : List (S109)) (r : Bool) (w : World) (hr0_0 : Kd.C (Kd.slice 3 (Kd.int .i64)) w A0_0 l0_0.length l0_0) (hc0_0 : l0_0.length ≤ c0_0) (hr0_1 : Kd.C k109 w A0_1 l0_1.length l0_1) (hc0_1 : l0_1.length ≤ c0_1) (h : laws_FnExactWeaveOk.f k l0_0 l0_1 = some r) :
    Calls Try.prog 3 #[.agg #[.slice A0_0 l0_0.length c0_0, .slice A0_1 l0_1.length c0_1]] w fun e w' => e = .returned (.bool r) ∧ Below w.heap.size w w' := by
  have hu25 := Try.underlying25
  have hu30 := Try.underlying30
  have HR0_0 := Aside0.mk hr0_0
  have HC0_0 := Aside0.mk hc0_0
  clear hr0_0 hc0_0
  have HR0_1 := Aside0.mk hr0_1
  have HC0_1 := Aside0.mk hc0_1
  clear hr0_1 hc0_1
  have HB := Aside0.mk (Below.refl w.heap.size w)
  have H : ((laws_szWeave.f k l0_0 l0_1 1048576).bind fun t294 => (if t294 < 0 then (some true) else ((laws_toWeave.f k l0_0 l0_1).bind fun bt295 => ((spec_WeaveOk.f k bt295.1 bt295.2).bind fun t301 => ((laws_toWeave.f k l0_0 l0_1).bind fun bt302 => ((impl_WeaveOk.f k bt302.1 bt302.2).bind fun t309 => (if (t309 != t301) = true then (some false) else ((laws_toWeave.f k l0_0 l0_1).bind fun bt310 => ((laws_eqWeave.f k bt302.1 bt302.2 bt310.1 bt310.2).bind fun t316 => (if t316 = true then (some true) else (some false))))))))))) = some r := h
  clear h
  replace H := Option.bind_eq_some_iff.mp H
  obtain ⟨t294, A20, H⟩ := H
  replace H : (if t294 < 0 then (some true) else ((laws_toWeave.f k l0_0 l0_1).bind fun bt295 => ((spec_WeaveOk.f k bt295.1 bt295.2).bind fun t301 => ((laws_toWeave.f k l0_0 l0_1).bind fun bt302 => ((impl_WeaveOk.f k bt302.1 bt302.2).bind fun t309 => (if (t309 != t301) = true then (some false) else ((laws_toWeave.f k l0_0 l0_1).bind fun bt310 => ((laws_eqWeave.f k bt302.1 bt302.2 bt310.1 bt310.2).bind fun t316 => (if t316 = true then (some true) else (some false)))))))))) = some r := H
  have A2 := Aside0.mk A20
  clear A20
  by_cases c3 : t294 < 0
  · rw [if_pos c3] at H
    have c3b0 : decide (t294 < 0) = true := decide_eq_true c3
    clear c3
    obtain rfl := Option.some.inj H
    go_enter Try.func3, Try.ntmps3
    go_wp2_with (first | ((with_reducible refine gate_dst (N := 1) rfl ?_); refine box_event ?hg (N := 1) ?hd (cs := #[.slice A0_0 l0_0.length c0_0, .slice A0_1 l0_1.length c0_1]) (t := 25) ?hr ?_; (case hd => rfl); (case hg => rfl); (case hr => first | (go_simp; done) | (go_simp; rfl)); intro gb293 hg w4 hbox hb; have n0_ := Aside0.mk (below_step q0_ hb); have n1_ := Aside0.mk (hbox); have n2_ := Aside0.mk ((by rw [hg]; exact (below_size q0_) : w.heap.size ≤ gb293)); have n3_ := Aside0.mk ((by rw [hg]; exact (below_size q0_) : w.heap.size ≤ gb293)); clear HB; have HB := n0_; have BK293 := n1_; have GW293 := n2_; have GE293 := n3_; clear n0_ n1_ n2_ n3_; clear hb hbox hg; have hcz5_0 : w4.cell? ⟨gb293, 0, none⟩ = some (.slice A0_0 l0_0.length c0_0) := (blk_cell BK293.out 0).trans rfl; have hcz5_1 : w4.cell? ⟨gb293, 1, none⟩ = some (.slice A0_1 l0_1.length c0_1) := (blk_cell BK293.out 1).trans rfl; have hfz5_0 := blk_frozen BK293.out 0; have hfz5_1 := blk_frozen BK293.out 1) | ((with_reducible refine gate_callee (f := 14) rfl ?_); refine goesL_ (some 9) rfl rfl Try.func14 (by kernel_rfl) rfl #[.agg #[.slice A0_0 l0_0.length c0_0, .slice A0_1 l0_1.length c0_1], .int .i64 1048576] rfl q1_ ?_; (with_reducible refine (laws_szWeave.calls k _ _ l0_0 _ _ l0_1 1048576 t294 _ ?side1 ?side2 ?side3 ?side4 A2.out).mono ?_); (case side1 => exact q3_); (case side2 => exact HC0_0.out); (case side3 => exact q6_); (case side4 => exact HC0_1.out); rintro e w6 ⟨rfl, hb⟩; refine ⟨_, rfl, ?_⟩; have n0_ := Aside0.mk (blk_below (g := gb293) (o := .cells #[.slice A0_0 l0_0.length c0_0, .slice A0_1 l0_1.length c0_1] 25 (0, 0)) q8_ hb); have n1_ := Aside0.mk (below_step q4_ hb); clear BK293; clear HB; have BK293 := n0_; have HB := n1_; clear n0_ n1_; (try clear hb); (try clear hb2); (try clear hk); (try clear hi)))
    go_ret
    exact ⟨by first | rfl | (simp [errW_none, errW_some] <;> rfl) | (simp [*, errW_none, errW_some] <;> rfl), by repeat (first | (with_reducible first | exact HB.out | apply below_alloc | apply pw_below_drewN | apply below_drew1 | refine below_set ?_ GE293.out) | exact HB.out)⟩
  · rw [if_neg c3] at H
    have c3b0 : decide (t294 < 0) = false := decide_eq_false c3
    clear c3
    replace H := Option.bind_eq_some_iff.mp H
    obtain ⟨⟨t295, t298⟩, A70, H⟩ := H
    replace H : ((spec_WeaveOk.f k t295 t298).bind fun t301 => ((laws_toWeave.f k l0_0 l0_1).bind fun bt302 => ((impl_WeaveOk.f k bt302.1 bt302.2).bind fun t309 => (if (t309 != t301) = true then (some false) else ((laws_toWeave.f k l0_0 l0_1).bind fun bt310 => ((laws_eqWeave.f k bt302.1 bt302.2 bt310.1 bt310.2).bind fun t316 => (if t316 = true then (some true) else (some false)))))))) = some r := H
    have A7 := Aside0.mk A70
    clear A70
    replace H := Option.bind_eq_some_iff.mp H
    obtain ⟨t301, A80, H⟩ := H
    replace H : ((laws_toWeave.f k l0_0 l0_1).bind fun bt302 => ((impl_WeaveOk.f k bt302.1 bt302.2).bind fun t309 => (if (t309 != t301) = true then (some false) else ((laws_toWeave.f k l0_0 l0_1).bind fun bt310 => ((laws_eqWeave.f k bt302.1 bt302.2 bt310.1 bt310.2).bind fun t316 => (if t316 = true then (some true) else (some false))))))) = some r := H
    have A8 := Aside0.mk A80
    clear A80
    replace H := Option.bind_eq_some_iff.mp H
    obtain ⟨⟨t302, t305⟩, A90, H⟩ := H
    replace H : ((impl_WeaveOk.f k t302 t305).bind fun t309 => (if (t309 != t301) = true then (some false) else ((laws_toWeave.f k l0_0 l0_1).bind fun bt310 => ((laws_eqWeave.f k t302 t305 bt310.1 bt310.2).bind fun t316 => (if t316 = true then (some true) else (some false)))))) = some r := H
    have A9 := Aside0.mk A90
    clear A90
    replace H := Option.bind_eq_some_iff.mp H
    obtain ⟨t309, A100, H⟩ := H
    replace H : (if (t309 != t301) = true then (some false) else ((laws_toWeave.f k l0_0 l0_1).bind fun bt310 => ((laws_eqWeave.f k t302 t305 bt310.1 bt310.2).bind fun t316 => (if t316 = true then (some true) else (some false))))) = some r := H
    have A10 := Aside0.mk A100
    clear A100
    by_cases c11 : (t309 != t301) = true
    ·rw [if_pos c11] at H
     have c11b0 : (t309 != t301) = true := c11
     (try (have c11b1 : decide (t309 = t301) = false := by simpa using c11))
     (try (have c11b2 : (t309 == t301) = false := by simpa using c11))
     (try (have c11b3 : ¬ (t309 = t301) := by simpa using c11))
     clear c11
     obtain rfl := Option.some.inj H
     go_enter Try.func3, Try.ntmps3
     go_wp2_with (first | ((with_reducible refine gate_dst (N := 1) rfl ?_); refine box_event ?hg (N := 1) ?hd (cs := #[.slice A0_0 l0_0.length c0_0, .slice A0_1 l0_1.length c0_1]) (t := 25) ?hr ?_; (case hd => rfl); (case hg => rfl); (case hr => first | (go_simp; done) | (go_simp; rfl)); intro gb293 hg w12 hbox hb; have n0_ := Aside0.mk (below_step q0_ hb); have n1_ := Aside0.mk (hbox); have n2_ := Aside0.mk ((by rw [hg]; exact (below_size q0_) : w.heap.size ≤ gb293)); have n3_ := Aside0.mk ((by rw [hg]; exact (below_size q0_) : w.heap.size ≤ gb293)); clear HB; have HB := n0_; have BK293 := n1_; have GW293 := n2_; have GE293 := n3_; clear n0_ n1_ n2_ n3_; clear hb hbox hg; have hcz13_0 : w12.cell? ⟨gb293, 0, none⟩ = some (.slice A0_0 l0_0.length c0_0) := (blk_cell BK293.out 0).trans rfl; have hcz13_1 : w12.cell? ⟨gb293, 1, none⟩ = some (.slice A0_1 l0_1.length c0_1) := (blk_cell BK293.out 1).trans rfl; have hfz13_0 := blk_frozen BK293.out 0; have hfz13_1 := blk_frozen BK293.out 1) | ((with_reducible refine gate_callee (f := 14) rfl ?_); refine goesL_ (some 9) rfl rfl Try.func14 (by kernel_rfl) rfl #[.agg #[.slice A0_0 l0_0.length c0_0, .slice A0_1 l0_1.length c0_1], .int .i64 1048576] rfl q1_ ?_; (with_reducible refine (laws_szWeave.calls k _ _ l0_0 _ _ l0_1 1048576 t294 _ ?side1 ?side2 ?side3 ?side4 A2.out).mono ?_); (case side1 => exact q3_); (case side2 => exact HC0_0.out); (case side3 => exact q6_); (case side4 => exact HC0_1.out); rintro e w14 ⟨rfl, hb⟩; refine ⟨_, rfl, ?_⟩; have n0_ := Aside0.mk (blk_below (g := gb293) (o := .cells #[.slice A0_0 l0_0.length c0_0, .slice A0_1 l0_1.length c0_1] 25 (0, 0)) q8_ hb); have n1_ := Aside0.mk (below_step q4_ hb); clear BK293; clear HB; have BK293 := n0_; have HB := n1_; clear n0_ n1_; (try clear hb); (try clear hb2); (try clear hk); (try clear hi); have hcz15_0 : w14.cell? ⟨gb293, 0, none⟩ = some (.slice A0_0 l0_0.length c0_0) := (blk_cell BK293.out 0).trans rfl; have hcz15_1 : w14.cell? ⟨gb293, 1, none⟩ = some (.slice A0_1 l0_1.length c0_1) := (blk_cell BK293.out 1).trans rfl; have hfz15_0 := blk_frozen BK293.out 0; have hfz15_1 := blk_frozen BK293.out 1) | ((with_reducible refine gate_callee (f := 16) rfl ?_); refine goesL_ (some 13) rfl rfl Try.func16 (by kernel_rfl) rfl #[.agg #[.slice A0_0 l0_0.length c0_0, .slice A0_1 l0_1.length c0_1]] rfl q1_ ?_; (with_reducible refine (laws_toWeave.calls k _ _ l0_0 _ _ l0_1 t295 t298 _ ?side1 ?side2 ?side3 ?side4 A7.out).mono ?_); (case side1 => exact q3_); (case side2 => exact HC0_0.out); (case side3 => exact q6_); (case side4 => exact HC0_1.out); rintro e w16 ⟨v296, v299, rfl, ho0, ho1, hb⟩; refine ⟨_, rfl, ?_⟩; have n0_ := Aside0.mk (Kd.S_lower ho0 (below_size q4_)); have n1_ := Aside0.mk (Kd.S_lower ho1 (below_size q4_)); have n2_ := Aside0.mk (blk_below (g := gb293) (o := .cells #[.slice A0_0 l0_0.length c0_0, .slice A0_1 l0_1.length c0_1] 25 (0, 0)) q8_ hb); have n3_ := Aside0.mk (below_step q4_ hb); clear BK293; clear HB; have HO297 := n0_; have HO300 := n1_; have BK293 := n2_; have HB := n3_; clear n0_ n1_ n2_ n3_; (try clear hb); (try clear hb2); (try clear hk); (try clear hi); (try clear ho0); (try clear ho1); obtain ⟨Ao17, co17, eo17⟩ := Kd.S_slice HO297.out; subst eo17; obtain ⟨Ao18, co18, eo18⟩ := Kd.S_slice HO300.out; subst eo18) | ((with_reducible refine gate_callee (f := 15) rfl ?_); refine goesL_ (some 14) rfl rfl Try.func15 (by kernel_rfl) rfl #[.agg #[.slice Ao17 t295.length co17, .slice Ao18 t298.length co18]] rfl q1_ ?_; (with_reducible refine (spec_WeaveOk.calls k _ _ t295 _ _ t298 t301 _ ?side1 ?side2 ?side3 ?side4 A8.out).mono ?_); (case side1 => exact (by repeat (first | exact (Kd.S_reads' HO297.out).2.2 | (with_reducible refine Kd.C_alloc ?_ _) | (with_reducible refine Kd.C_drewN ?_ _) | (with_reducible refine Kd.C_drew ?_)))); (case side2 => exact (Kd.S_reads' HO297.out).2.1); (case side3 => exact (by repeat (first | exact (Kd.S_reads' HO300.out).2.2 | (with_reducible refine Kd.C_alloc ?_ _) | (with_reducible refine Kd.C_drewN ?_ _) | (with_reducible refine Kd.C_drew ?_)))); (case side4 => exact (Kd.S_reads' HO300.out).2.1); rintro e w19 ⟨rfl, hb⟩; refine ⟨_, rfl, ?_⟩; have n0_ := Aside0.mk (Kd.S_below q11_ hb); have n1_ := Aside0.mk (Kd.S_below q12_ hb); have n2_ := Aside0.mk (blk_below (g := gb293) (o := .cells #[.slice A0_0 l0_0.length c0_0, .slice A0_1 l0_1.length c0_1] 25 (0, 0)) q8_ hb); have n3_ := Aside0.mk (below_step q4_ hb); clear HO297; clear HO300; clear BK293; clear HB; have HO297 := n0_; have HO300 := n1_; have BK293 := n2_; have HB := n3_; clear n0_ n1_ n2_ n3_; (try clear hb); (try clear hb2); (try clear hk); (try clear hi); have hcz20_0 : w19.cell? ⟨gb293, 0, none⟩ = some (.slice A0_0 l0_0.length c0_0) := (blk_cell BK293.out 0).trans rfl; have hcz20_1 : w19.cell? ⟨gb293, 1, none⟩ = some (.slice A0_1 l0_1.length c0_1) := (blk_cell BK293.out 1).trans rfl; have hfz20_0 := blk_frozen BK293.out 0; have hfz20_1 := blk_frozen BK293.out 1) | ((with_reducible refine gate_callee (f := 16) rfl ?_); refine goesL_ (some 16) rfl rfl Try.func16 (by kernel_rfl) rfl #[.agg #[.slice A0_0 l0_0.length c0_0, .slice A0_1 l0_1.length c0_1]] rfl q1_ ?_; (with_reducible refine (laws_toWeave.calls k _ _ l0_0 _ _ l0_1 t302 t305 _ ?side1 ?side2 ?side3 ?side4 A9.out).mono ?_); (case side1 => exact q3_); (case side2 => exact HC0_0.out); (case side3 => exact q6_); (case side4 => exact HC0_1.out); rintro e w21 ⟨v303, v306, rfl, ho0, ho1, hb⟩; refine ⟨_, rfl, ?_⟩; have n0_ := Aside0.mk (Kd.S_elder' q11_ (Kd.S_base ho0) hb); have n1_ := Aside0.mk (Kd.S_elder' q12_ (Kd.S_base ho1) hb); have n2_ := Aside0.mk (Kd.S_lower (Kd.S_new' ho0 (Kd.S_lt q11_)) (below_size q4_)); have n3_ := Aside0.mk (Kd.S_lower (Kd.S_new' ho1 (Kd.S_lt q12_)) (below_size q4_)); have n4_ := Aside0.mk (blk_below (g := gb293) (o := .cells #[.slice A0_0 l0_0.length c0_0, .slice A0_1 l0_1.length c0_1] 25 (0, 0)) q8_ hb); have n5_ := Aside0.mk (below_step q4_ hb); clear HO297; clear HO300; clear BK293; clear HB; have HO297 := n0_; have HO300 := n1_; have HO304 := n2_; have HO307 := n3_; have BK293 := n4_; have HB := n5_; clear n0_ n1_ n2_ n3_ n4_ n5_; (try clear hb); (try clear hb2); (try clear hk); (try clear hi); (try clear ho0); (try clear ho1)) | ((with_reducible refine gate_dst (N := 5) rfl ?_); refine box_event ?hg (N := 5) ?hd (cs := #[.slice none 0 0, .slice none 0 0]) (t := 30) ?hr ?_; (case hd => rfl); (case hg => rfl); (case hr => first | (go_simp; done) | (go_simp; rfl)); intro gb308 hg w22 hbox hb; have n0_ := Aside0.mk (Kd.S_below q11_ hb); have n1_ := Aside0.mk (Kd.S_below q12_ hb); have n2_ := Aside0.mk (Kd.S_below q31_ hb); have n3_ := Aside0.mk (Kd.S_below q32_ hb); have n4_ := Aside0.mk (blk_below (g := gb293) (o := .cells #[.slice A0_0 l0_0.length c0_0, .slice A0_1 l0_1.length c0_1] 25 (0, 0)) q8_ hb); have n5_ := Aside0.mk (below_step q4_ hb); have n6_ := Aside0.mk (hbox); have n7_ := Aside0.mk ((by rw [hg]; exact (below_size q4_) : w.heap.size ≤ gb308)); have n8_ := Aside0.mk ((by rw [hg]; exact (below_size q4_) : w.heap.size ≤ gb308)); have n9_ := Aside0.mk ((by rw [hg]; exact Nat.ne_of_lt (blk_lt (g := gb293) (o := .cells #[.slice A0_0 l0_0.length c0_0, .slice A0_1 l0_1.length c0_1] 25 (0, 0)) q8_) : gb293 ≠ gb308)); have n10_ := Aside0.mk ((by rw [hg]; exact Nat.ne_of_gt (blk_lt (g := gb293) (o := .cells #[.slice A0_0 l0_0.length c0_0, .slice A0_1 l0_1.length c0_1] 25 (0, 0)) q8_) : gb308 ≠ gb293)); clear HO297; clear HO300; clear HO304; clear HO307; clear BK293; clear HB; have HO297 := n0_; have HO300 := n1_; have HO304 := n2_; have HO307 := n3_; have BK293 := n4_; have HB := n5_; have BK308 := n6_; have GW308 := n7_; have GE308 := n8_; have NB293_308 := n9_; have NB308_293 := n10_; clear n0_ n1_ n2_ n3_ n4_ n5_ n6_ n7_ n8_ n9_ n10_; clear hb hbox hg; obtain ⟨Ao23, co23, eo23⟩ := Kd.S_slice HO304.out; subst eo23; have hnb24 := NB308_293.out; have hnc24 := NB293_308.out; have hcz25_0 : w22.cell? ⟨gb308, 0, none⟩ = some (.slice none 0 0) := (blk_cell BK308.out 0).trans rfl; have hcz25_1 : w22.cell? ⟨gb308, 1, none⟩ = some (.slice none 0 0) := (blk_cell BK308.out 1).trans rfl; have hfz25_0 := blk_frozen BK308.out 0; have hfz25_1 := blk_frozen BK308.out 1; obtain ⟨Ao26, co26, eo26⟩ := Kd.S_slice HO307.out; subst eo26) | ((with_reducible refine gate_callee (f := 17) rfl ?_); refine goesL_ (some 18) rfl rfl Try.func17 (by kernel_rfl) rfl #[.agg #[.slice Ao23 t302.length co23, .slice Ao26 t305.length co26]] rfl q1_ ?_; (with_reducible refine (impl_WeaveOk.calls k _ _ t302 _ _ t305 t309 _ ?side1 ?side2 ?side3 ?side4 A10.out).mono ?_); (case side1 => refine (Kd.S_reads' (e := 36) (base := w.heap.size) (ok := fun k_ => (True ∧ some k_ ≠ (.slice Ao17 t295.length co17 : Value).ownBlock)) (n := t302.length) (c := co23) ?_).2.2; exact (by (with_reducible repeat (first | apply Kd.S_alloc | apply Kd.S_drewN | apply Kd.S_drew)); exact (Kd.S_mono (Kd.S_far (p := ⟨gb308, 1, none⟩) (Kd.S_far (p := ⟨gb308, 0, none⟩) (Kd.S_types HO304.out BK308.out (by decide)) (fun _ hk => hk.2) (.slice Ao23 t302.length co23)) (fun _ hk => hk.2) (.slice Ao26 t305.length co26)) (fun _ h_ => h_.1)))); (case side2 => exact (Kd.S_reads' HO304.out).2.1); (case side3 => refine (Kd.S_reads' (e := 68) (base := w.heap.size) (ok := fun k_ => (True ∧ some k_ ≠ (.slice Ao18 t298.length co18 : Value).ownBlock)) (n := t305.length) (c := co26) ?_).2.2; exact (by (with_reducible repeat (first | apply Kd.S_alloc | apply Kd.S_drewN | apply Kd.S_drew)); exact (Kd.S_mono (Kd.S_far (p := ⟨gb308, 1, none⟩) (Kd.S_far (p := ⟨gb308, 0, none⟩) (Kd.S_types HO307.out BK308.out (by decide)) (fun _ hk => hk.2) (.slice Ao23 t302.length co23)) (fun _ hk => hk.2) (.slice Ao26 t305.length co26)) (fun _ h_ => h_.1)))); (case side4 => exact (Kd.S_reads' HO307.out).2.1); rintro e w27 ⟨rfl, hb⟩; refine ⟨_, rfl, ?_⟩; have n0_ := Aside0.mk (Kd.S_below (by (with_reducible repeat (first | apply Kd.S_alloc | apply Kd.S_drewN | apply Kd.S_drew)); exact (Kd.S_mono (Kd.S_far (p := ⟨gb308, 1, none⟩) (Kd.S_far (p := ⟨gb308, 0, none⟩) (Kd.S_types HO297.out BK308.out (by decide)) (fun _ hk => hk.2) (.slice Ao23 t302.length co23)) (fun _ hk => hk.2) (.slice Ao26 t305.length co26)) (fun _ h_ => h_.1))) hb); have n1_ := Aside0.mk (Kd.S_below (by (with_reducible repeat (first | apply Kd.S_alloc | apply Kd.S_drewN | apply Kd.S_drew)); exact (Kd.S_mono (Kd.S_far (p := ⟨gb308, 1, none⟩) (Kd.S_far (p := ⟨gb308, 0, none⟩) (Kd.S_types HO300.out BK308.out (by decide)) (fun _ hk => hk.2) (.slice Ao23 t302.length co23)) (fun _ hk => hk.2) (.slice Ao26 t305.length co26)) (fun _ h_ => h_.1))) hb); have n2_ := Aside0.mk (Kd.S_below (by (with_reducible repeat (first | apply Kd.S_alloc | apply Kd.S_drewN | apply Kd.S_drew)); exact (Kd.S_mono (Kd.S_far (p := ⟨gb308, 1, none⟩) (Kd.S_far (p := ⟨gb308, 0, none⟩) (Kd.S_types HO304.out BK308.out (by decide)) (fun _ hk => hk.2) (.slice Ao23 t302.length co23)) (fun _ hk => hk.2) (.slice Ao26 t305.length co26)) (fun _ h_ => h_.1))) hb); have n3_ := Aside0.mk (Kd.S_below (by (with_reducible repeat (first | apply Kd.S_alloc | apply Kd.S_drewN | apply Kd.S_drew)); exact (Kd.S_mono (Kd.S_far (p := ⟨gb308, 1, none⟩) (Kd.S_far (p := ⟨gb308, 0, none⟩) (Kd.S_types HO307.out BK308.out (by decide)) (fun _ hk => hk.2) (.slice Ao23 t302.length co23)) (fun _ hk => hk.2) (.slice Ao26 t305.length co26)) (fun _ h_ => h_.1))) hb); have n4_ := Aside0.mk (blk_below (g := gb293) (o := .cells #[.slice A0_0 l0_0.length c0_0, .slice A0_1 l0_1.length c0_1] 25 (0, 0)) q23_ hb); have n5_ := Aside0.mk (blk_below (g := gb308) (o := .cells #[.slice Ao23 t302.length co23, .slice Ao26 t305.length co26] 30 (0, 0)) (by (with_reducible repeat (first | refine blk_drewN ?_ _ | refine blk_drew ?_ | refine blk_alloc ?_ _)); refine blk_put (cs := #[.slice Ao23 t302.length co23, .slice none 0 0]) ?_ 1 _ rfl; (with_reducible repeat (first | refine blk_drewN ?_ _ | refine blk_drew ?_ | refine blk_alloc ?_ _)); refine blk_put (cs := #[.slice none 0 0, .slice none 0 0]) ?_ 0 _ rfl; (with_reducible repeat (first | refine blk_drewN ?_ _ | refine blk_drew ?_ | refine blk_alloc ?_ _)); exact BK308.out) hb); have n6_ := Aside0.mk (below_step q10_ hb); clear HO297; clear HO300; clear HO304; clear HO307; clear BK293; clear BK308; clear HB; have HO297 := n0_; have HO300 := n1_; have HO304 := n2_; have HO307 := n3_; have BK293 := n4_; have BK308 := n5_; have HB := n6_; clear n0_ n1_ n2_ n3_ n4_ n5_ n6_; (try clear hb); (try clear hb2); (try clear hk); (try clear hi)))
     go_ret
     exact ⟨by first | rfl | (simp [errW_none, errW_some] <;> rfl) | (simp [*, errW_none, errW_some] <;> rfl), by repeat (first | (with_reducible first | exact HB.out | apply below_alloc | apply pw_below_drewN | apply below_drew1 | refine below_set ?_ GE293.out | refine below_set ?_ GE308.out) | exact HB.out)⟩
    ·rw [if_neg c11] at H
     have c11b0 : (t309 != t301) = false := by simpa using c11
     (try (have c11b1 : decide (t309 = t301) = true := by simpa using c11))
     (try (have c11b2 : (t309 == t301) = true := by simpa using c11))
     clear c11
     replace H := Option.bind_eq_some_iff.mp H
     obtain ⟨⟨t310, t313⟩, A280, H⟩ := H
     replace H : ((laws_eqWeave.f k t302 t305 t310 t313).bind fun t316 => (if t316 = true then (some true) else (some false))) = some r := H
     have A28 := Aside0.mk A280
     clear A280
     replace H := Option.bind_eq_some_iff.mp H
     obtain ⟨t316, A290, H⟩ := H
     replace H : (if t316 = true then (some true) else (some false)) = some r := H
     have A29 := Aside0.mk A290
     clear A290
     by_cases c30 : t316 = true
     ·subst c30
      have H1 : (some true) = some r := by rw [if_pos rfl] at H; exact H
      clear H
      have H := H1
      clear H1
      obtain rfl := Option.some.inj H
      go_enter Try.func3, Try.ntmps3
      try go_wp2_with (first | ((with_reducible refine gate_dst (N := 1) rfl ?_); refine box_event ?hg (N := 1) ?hd (cs := #[.slice A0_0 l0_0.length c0_0, .slice A0_1 l0_1.length c0_1]) (t := 25) ?hr ?_; (case hd => rfl); (case hg => rfl); (case hr => first | (go_simp; done) | (go_simp; rfl)); intro gb293 hg w31 hbox hb; have n0_ := Aside0.mk (below_step q0_ hb); have n1_ := Aside0.mk (hbox); have n2_ := Aside0.mk ((by rw [hg]; exact (below_size q0_) : w.heap.size ≤ gb293)); have n3_ := Aside0.mk ((by rw [hg]; exact (below_size q0_) : w.heap.size ≤ gb293)); clear HB; have HB := n0_; have BK293 := n1_; have GW293 := n2_; have GE293 := n3_; clear n0_ n1_ n2_ n3_; clear hb hbox hg; have hcz32_0 : w31.cell? ⟨gb293, 0, none⟩ = some (.slice A0_0 l0_0.length c0_0) := (blk_cell BK293.out 0).trans rfl; have hcz32_1 : w31.cell? ⟨gb293, 1, none⟩ = some (.slice A0_1 l0_1.length c0_1) := (blk_cell BK293.out 1).trans rfl; have hfz32_0 := blk_frozen BK293.out 0; have hfz32_1 := blk_frozen BK293.out 1) | ((with_reducible refine gate_callee (f := 14) rfl ?_); refine goesL_ (some 9) rfl rfl Try.func14 (by kernel_rfl) rfl #[.agg #[.slice A0_0 l0_0.length c0_0, .slice A0_1 l0_1.length c0_1], .int .i64 1048576] rfl q1_ ?_; (with_reducible refine (laws_szWeave.calls k _ _ l0_0 _ _ l0_1 1048576 t294 _ ?side1 ?side2 ?side3 ?side4 A2.out).mono ?_); (case side1 => exact q3_); (case side2 => exact HC0_0.out); (case side3 => exact q6_); (case side4 => exact HC0_1.out); rintro e w33 ⟨rfl, hb⟩; refine ⟨_, rfl, ?_⟩; have n0_ := Aside0.mk (blk_below (g := gb293) (o := .cells #[.slice A0_0 l0_0.length c0_0, .slice A0_1 l0_1.length c0_1] 25 (0, 0)) q8_ hb); have n1_ := Aside0.mk (below_step q4_ hb); clear BK293; clear HB; have BK293 := n0_; have HB := n1_; clear n0_ n1_; (try clear hb); (try clear hb2); (try clear hk); (try clear hi); have hcz34_0 : w33.cell? ⟨gb293, 0, none⟩ = some (.slice A0_0 l0_0.length c0_0) := (blk_cell BK293.out 0).trans rfl; have hcz34_1 : w33.cell? ⟨gb293, 1, none⟩ = some (.slice A0_1 l0_1.length c0_1) := (blk_cell BK293.out 1).trans rfl; have hfz34_0 := blk_frozen BK293.out 0; have hfz34_1 := blk_frozen BK293.out 1) | ((with_reducible refine gate_callee (f := 16) rfl ?_); refine goesL_ (some 13) rfl rfl Try.func16 (by kernel_rfl) rfl #[.agg #[.slice A0_0 l0_0.length c0_0, .slice A0_1 l0_1.length c0_1]] rfl q1_ ?_; (with_reducible refine (laws_toWeave.calls k _ _ l0_0 _ _ l0_1 t295 t298 _ ?side1 ?side2 ?side3 ?side4 A7.out).mono ?_); (case side1 => exact q3_); (case side2 => exact HC0_0.out); (case side3 => exact q6_); (case side4 => exact HC0_1.out); rintro e w35 ⟨v296, v299, rfl, ho0, ho1, hb⟩; refine ⟨_, rfl, ?_⟩; have n0_ := Aside0.mk (Kd.S_lower ho0 (below_size q4_)); have n1_ := Aside0.mk (Kd.S_lower ho1 (below_size q4_)); have n2_ := Aside0.mk (blk_below (g := gb293) (o := .cells #[.slice A0_0 l0_0.length c0_0, .slice A0_1 l0_1.length c0_1] 25 (0, 0)) q8_ hb); have n3_ := Aside0.mk (below_step q4_ hb); clear BK293; clear HB; have HO297 := n0_; have HO300 := n1_; have BK293 := n2_; have HB := n3_; clear n0_ n1_ n2_ n3_; (try clear hb); (try clear hb2); (try clear hk); (try clear hi); (try clear ho0); (try clear ho1); obtain ⟨Ao36, co36, eo36⟩ := Kd.S_slice HO297.out; subst eo36; obtain ⟨Ao37, co37, eo37⟩ := Kd.S_slice HO300.out; subst eo37) | ((with_reducible refine gate_callee (f := 15) rfl ?_); refine goesL_ (some 14) rfl rfl Try.func15 (by kernel_rfl) rfl #[.agg #[.slice Ao36 t295.length co36, .slice Ao37 t298.length co37]] rfl q1_ ?_; (with_reducible refine (spec_WeaveOk.calls k _ _ t295 _ _ t298 t301 _ ?side1 ?side2 ?side3 ?side4 A8.out).mono ?_); (case side1 => exact (by repeat (first | exact (Kd.S_reads' HO297.out).2.2 | (with_reducible refine Kd.C_alloc ?_ _) | (with_reducible refine Kd.C_drewN ?_ _) | (with_reducible refine Kd.C_drew ?_)))); (case side2 => exact (Kd.S_reads' HO297.out).2.1); (case side3 => exact (by repeat (first | exact (Kd.S_reads' HO300.out).2.2 | (with_reducible refine Kd.C_alloc ?_ _) | (with_reducible refine Kd.C_drewN ?_ _) | (with_reducible refine Kd.C_drew ?_)))); (case side4 => exact (Kd.S_reads' HO300.out).2.1); rintro e w38 ⟨rfl, hb⟩; refine ⟨_, rfl, ?_⟩; have n0_ := Aside0.mk (Kd.S_below q11_ hb); have n1_ := Aside0.mk (Kd.S_below q12_ hb); have n2_ := Aside0.mk (blk_below (g := gb293) (o := .cells #[.slice A0_0 l0_0.length c0_0, .slice A0_1 l0_1.length c0_1] 25 (0, 0)) q8_ hb); have n3_ := Aside0.mk (below_step q4_ hb); clear HO297; clear HO300; clear BK293; clear HB; have HO297 := n0_; have HO300 := n1_; have BK293 := n2_; have HB := n3_; clear n0_ n1_ n2_ n3_; (try clear hb); (try clear hb2); (try clear hk); (try clear hi); have hcz39_0 : w38.cell? ⟨gb293, 0, none⟩ = some (.slice A0_0 l0_0.length c0_0) := (blk_cell BK293.out 0).trans rfl; have hcz39_1 : w38.cell? ⟨gb293, 1, none⟩ = some (.slice A0_1 l0_1.length c0_1) := (blk_cell BK293.out 1).trans rfl; have hfz39_0 := blk_frozen BK293.out 0; have hfz39_1 := blk_frozen BK293.out 1) | ((with_reducible refine gate_callee (f := 16) rfl ?_); refine goesL_ (some 16) rfl rfl Try.func16 (by kernel_rfl) rfl #[.agg #[.slice A0_0 l0_0.length c0_0, .slice A0_1 l0_1.length c0_1]] rfl q1_ ?_; (with_reducible refine (laws_toWeave.calls k _ _ l0_0 _ _ l0_1 t302 t305 _ ?side1 ?side2 ?side3 ?side4 A9.out).mono ?_); (case side1 => exact q3_); (case side2 => exact HC0_0.out); (case side3 => exact q6_); (case side4 => exact HC0_1.out); rintro e w40 ⟨v303, v306, rfl, ho0, ho1, hb⟩; refine ⟨_, rfl, ?_⟩; have n0_ := Aside0.mk (Kd.S_elder' q11_ (Kd.S_base ho0) hb); have n1_ := Aside0.mk (Kd.S_elder' q12_ (Kd.S_base ho1) hb); have n2_ := Aside0.mk (Kd.S_lower (Kd.S_new' ho0 (Kd.S_lt q11_)) (below_size q4_)); have n3_ := Aside0.mk (Kd.S_lower (Kd.S_new' ho1 (Kd.S_lt q12_)) (below_size q4_)); have n4_ := Aside0.mk (blk_below (g := gb293) (o := .cells #[.slice A0_0 l0_0.length c0_0, .slice A0_1 l0_1.length c0_1] 25 (0, 0)) q8_ hb); have n5_ := Aside0.mk (below_step q4_ hb); clear HO297; clear HO300; clear BK293; clear HB; have HO297 := n0_; have HO300 := n1_; have HO304 := n2_; have HO307 := n3_; have BK293 := n4_; have HB := n5_; clear n0_ n1_ n2_ n3_ n4_ n5_; (try clear hb); (try clear hb2); (try clear hk); (try clear hi); (try clear ho0); (try clear ho1)) | ((with_reducible refine gate_dst (N := 5) rfl ?_); refine box_event ?hg (N := 5) ?hd (cs := #[.slice none 0 0, .slice none 0 0]) (t := 30) ?hr ?_; (case hd => rfl); (case hg => rfl); (case hr => first | (go_simp; done) | (go_simp; rfl)); intro gb308 hg w41 hbox hb; have n0_ := Aside0.mk (Kd.S_below q11_ hb); have n1_ := Aside0.mk (Kd.S_below q12_ hb); have n2_ := Aside0.mk (Kd.S_below q31_ hb); have n3_ := Aside0.mk (Kd.S_below q32_ hb); have n4_ := Aside0.mk (blk_below (g := gb293) (o := .cells #[.slice A0_0 l0_0.length c0_0, .slice A0_1 l0_1.length c0_1] 25 (0, 0)) q8_ hb); have n5_ := Aside0.mk (below_step q4_ hb); have n6_ := Aside0.mk (hbox); have n7_ := Aside0.mk ((by rw [hg]; exact (below_size q4_) : w.heap.size ≤ gb308)); have n8_ := Aside0.mk ((by rw [hg]; exact (below_size q4_) : w.heap.size ≤ gb308)); have n9_ := Aside0.mk ((by rw [hg]; exact Nat.ne_of_lt (blk_lt (g := gb293) (o := .cells #[.slice A0_0 l0_0.length c0_0, .slice A0_1 l0_1.length c0_1] 25 (0, 0)) q8_) : gb293 ≠ gb308)); have n10_ := Aside0.mk ((by rw [hg]; exact Nat.ne_of_gt (blk_lt (g := gb293) (o := .cells #[.slice A0_0 l0_0.length c0_0, .slice A0_1 l0_1.length c0_1] 25 (0, 0)) q8_) : gb308 ≠ gb293)); clear HO297; clear HO300; clear HO304; clear HO307; clear BK293; clear HB; have HO297 := n0_; have HO300 := n1_; have HO304 := n2_; have HO307 := n3_; have BK293 := n4_; have HB := n5_; have BK308 := n6_; have GW308 := n7_; have GE308 := n8_; have NB293_308 := n9_; have NB308_293 := n10_; clear n0_ n1_ n2_ n3_ n4_ n5_ n6_ n7_ n8_ n9_ n10_; clear hb hbox hg; obtain ⟨Ao42, co42, eo42⟩ := Kd.S_slice HO304.out; subst eo42; have hnb43 := NB308_293.out; have hnc43 := NB293_308.out; have hcz44_0 : w41.cell? ⟨gb308, 0, none⟩ = some (.slice none 0 0) := (blk_cell BK308.out 0).trans rfl; have hcz44_1 : w41.cell? ⟨gb308, 1, none⟩ = some (.slice none 0 0) := (blk_cell BK308.out 1).trans rfl; have hfz44_0 := blk_frozen BK308.out 0; have hfz44_1 := blk_frozen BK308.out 1; obtain ⟨Ao45, co45, eo45⟩ := Kd.S_slice HO307.out; subst eo45) | ((with_reducible refine gate_callee (f := 17) rfl ?_); refine goesL_ (some 18) rfl rfl Try.func17 (by kernel_rfl) rfl #[.agg #[.slice Ao42 t302.length co42, .slice Ao45 t305.length co45]] rfl q1_ ?_; (with_reducible refine (impl_WeaveOk.calls k _ _ t302 _ _ t305 t309 _ ?side1 ?side2 ?side3 ?side4 A10.out).mono ?_); (case side1 => refine (Kd.S_reads' (e := 36) (base := w.heap.size) (ok := fun k_ => (True ∧ some k_ ≠ (.slice Ao36 t295.length co36 : Value).ownBlock)) (n := t302.length) (c := co42) ?_).2.2; exact (by (with_reducible repeat (first | apply Kd.S_alloc | apply Kd.S_drewN | apply Kd.S_drew)); exact (Kd.S_mono (Kd.S_far (p := ⟨gb308, 1, none⟩) (Kd.S_far (p := ⟨gb308, 0, none⟩) (Kd.S_types HO304.out BK308.out (by decide)) (fun _ hk => hk.2) (.slice Ao42 t302.length co42)) (fun _ hk => hk.2) (.slice Ao45 t305.length co45)) (fun _ h_ => h_.1)))); (case side2 => exact (Kd.S_reads' HO304.out).2.1); (case side3 => refine (Kd.S_reads' (e := 68) (base := w.heap.size) (ok := fun k_ => (True ∧ some k_ ≠ (.slice Ao37 t298.length co37 : Value).ownBlock)) (n := t305.length) (c := co45) ?_).2.2; exact (by (with_reducible repeat (first | apply Kd.S_alloc | apply Kd.S_drewN | apply Kd.S_drew)); exact (Kd.S_mono (Kd.S_far (p := ⟨gb308, 1, none⟩) (Kd.S_far (p := ⟨gb308, 0, none⟩) (Kd.S_types HO307.out BK308.out (by decide)) (fun _ hk => hk.2) (.slice Ao42 t302.length co42)) (fun _ hk => hk.2) (.slice Ao45 t305.length co45)) (fun _ h_ => h_.1)))); (case side4 => exact (Kd.S_reads' HO307.out).2.1); rintro e w46 ⟨rfl, hb⟩; refine ⟨_, rfl, ?_⟩; have n0_ := Aside0.mk (Kd.S_below (by (with_reducible repeat (first | apply Kd.S_alloc | apply Kd.S_drewN | apply Kd.S_drew)); exact (Kd.S_mono (Kd.S_far (p := ⟨gb308, 1, none⟩) (Kd.S_far (p := ⟨gb308, 0, none⟩) (Kd.S_types HO297.out BK308.out (by decide)) (fun _ hk => hk.2) (.slice Ao42 t302.length co42)) (fun _ hk => hk.2) (.slice Ao45 t305.length co45)) (fun _ h_ => h_.1))) hb); have n1_ := Aside0.mk (Kd.S_below (by (with_reducible repeat (first | apply Kd.S_alloc | apply Kd.S_drewN | apply Kd.S_drew)); exact (Kd.S_mono (Kd.S_far (p := ⟨gb308, 1, none⟩) (Kd.S_far (p := ⟨gb308, 0, none⟩) (Kd.S_types HO300.out BK308.out (by decide)) (fun _ hk => hk.2) (.slice Ao42 t302.length co42)) (fun _ hk => hk.2) (.slice Ao45 t305.length co45)) (fun _ h_ => h_.1))) hb); have n2_ := Aside0.mk (Kd.S_below (by (with_reducible repeat (first | apply Kd.S_alloc | apply Kd.S_drewN | apply Kd.S_drew)); exact (Kd.S_mono (Kd.S_far (p := ⟨gb308, 1, none⟩) (Kd.S_far (p := ⟨gb308, 0, none⟩) (Kd.S_types HO304.out BK308.out (by decide)) (fun _ hk => hk.2) (.slice Ao42 t302.length co42)) (fun _ hk => hk.2) (.slice Ao45 t305.length co45)) (fun _ h_ => h_.1))) hb); have n3_ := Aside0.mk (Kd.S_below (by (with_reducible repeat (first | apply Kd.S_alloc | apply Kd.S_drewN | apply Kd.S_drew)); exact (Kd.S_mono (Kd.S_far (p := ⟨gb308, 1, none⟩) (Kd.S_far (p := ⟨gb308, 0, none⟩) (Kd.S_types HO307.out BK308.out (by decide)) (fun _ hk => hk.2) (.slice Ao42 t302.length co42)) (fun _ hk => hk.2) (.slice Ao45 t305.length co45)) (fun _ h_ => h_.1))) hb); have n4_ := Aside0.mk (blk_below (g := gb293) (o := .cells #[.slice A0_0 l0_0.length c0_0, .slice A0_1 l0_1.length c0_1] 25 (0, 0)) q23_ hb); have n5_ := Aside0.mk (blk_below (g := gb308) (o := .cells #[.slice Ao42 t302.length co42, .slice Ao45 t305.length co45] 30 (0, 0)) (by (with_reducible repeat (first | refine blk_drewN ?_ _ | refine blk_drew ?_ | refine blk_alloc ?_ _)); refine blk_put (cs := #[.slice Ao42 t302.length co42, .slice none 0 0]) ?_ 1 _ rfl; (with_reducible repeat (first | refine blk_drewN ?_ _ | refine blk_drew ?_ | refine blk_alloc ?_ _)); refine blk_put (cs := #[.slice none 0 0, .slice none 0 0]) ?_ 0 _ rfl; (with_reducible repeat (first | refine blk_drewN ?_ _ | refine blk_drew ?_ | refine blk_alloc ?_ _)); exact BK308.out) hb); have n6_ := Aside0.mk (below_step q10_ hb); clear HO297; clear HO300; clear HO304; clear HO307; clear BK293; clear BK308; clear HB; have HO297 := n0_; have HO300 := n1_; have HO304 := n2_; have HO307 := n3_; have BK293 := n4_; have BK308 := n5_; have HB := n6_; clear n0_ n1_ n2_ n3_ n4_ n5_ n6_; (try clear hb); (try clear hb2); (try clear hk); (try clear hi)))
      have n0_ := Aside0.mk (Kd.S_drew HO297.out)
      have n1_ := Aside0.mk (Kd.S_drew HO300.out)
      have n2_ := Aside0.mk (Kd.S_drew HO304.out)
      have n3_ := Aside0.mk (Kd.S_drew HO307.out)
      have n4_ := Aside0.mk (blk_drew BK293.out)
      have n5_ := Aside0.mk (blk_drew BK308.out)
      have n6_ := Aside0.mk (below_drew1 HB.out)
      clear HO297
      clear HO300
      clear HO304
      clear HO307
      clear BK293
      clear BK308
      clear HB
      have HO297 := n0_
      have HO300 := n1_
      have HO304 := n2_
      have HO307 := n3_
      have BK293 := n4_
      have BK308 := n5_
      have HB := n6_
      clear n0_ n1_ n2_ n3_ n4_ n5_ n6_
      refine start_ (n := 5) (S := fun w' => w'.cell? ⟨gb308, 0, none⟩ = some (.slice Ao42 t302.length co42) ∧ w'.cell? ⟨gb308, 1, none⟩ = some (.slice Ao45 t305.length co45) ∧ w'.cell? ⟨gb293, 0, none⟩ = some (.slice A0_0 l0_0.length c0_0) ∧ w'.cell? ⟨gb293, 1, none⟩ = some (.slice A0_1 l0_1.length c0_1)) (ds := []) #[false, false, false, false, false] (by kernel_rfl) rfl rfl ⟨(blk_cell BK308.out 0).trans rfl, (blk_cell BK308.out 1).trans rfl, (blk_cell BK293.out 0).trans rfl, (blk_cell BK293.out 1).trans rfl⟩ (fun hHeld => ?_)
      generalize w46.drew = w47 at HO297 HO300 HO304 HO307 BK293 BK308 HB hHeld ⊢
      refine take_ (i := 0) (N := some 22) (v := ?_) (a' := ?_) #[true, false, false, false, false] rfl rfl (by kernel_rfl) (fun _ _ _ h => h) (Or.inl ⟨by rfl, ?_⟩) hHeld ?_ ?_
      rotate_left; exact pw4_; rotate_left; exact pz_
      refine take_ (i := 1) (N := some 23) (v := ?_) (a' := ?_) #[true, true, false, false, false] rfl rfl (by kernel_rfl) (fun _ _ _ h => h) (Or.inl ⟨by rfl, ?_⟩) hHeld ?_ ?_
      rotate_left; exact pw4_; rotate_left; exact pz_
      refine one_ (i := 2) (N := some 24) #[true, true, true, false, false] rfl rfl (by kernel_rfl) (by decide) (fun K hK => ?_)
      refine goes_ Try.func16 (by kernel_rfl) rfl #[.agg #[.slice A0_0 l0_0.length c0_0, .slice A0_1 l0_1.length c0_1]] (by rfl) rfl rfl q1_ ?_
      with_reducible refine (laws_toWeave.calls k _ _ l0_0 _ _ l0_1 t310 t313 _ ?side1 ?side2 ?side3 ?side4 A28.out).mono ?_
      (case side1 => exact q3_)
      (case side2 => exact HC0_0.out)
      (case side3 => exact q6_)
      (case side4 => exact HC0_1.out)
      rintro e w48 ⟨v311, v314, rfl, ho0, ho1, hb⟩
      refine ⟨_, rfl, ?_⟩
      have n0_ := Aside0.mk (Kd.S_elder' q11_ (Kd.S_base ho0) hb)
      have n1_ := Aside0.mk (Kd.S_elder' q12_ (Kd.S_base ho1) hb)
      have n2_ := Aside0.mk (Kd.S_elder' q31_ (Kd.S_base ho0) hb)
      have n3_ := Aside0.mk (Kd.S_elder' q32_ (Kd.S_base ho1) hb)
      have n4_ := Aside0.mk (Kd.S_lower (Kd.S_new' (Kd.S_new' ho0 (Kd.S_lt q11_)) (Kd.S_lt q31_)) (below_size q10_))
      have n5_ := Aside0.mk (Kd.S_lower (Kd.S_new' (Kd.S_new' ho1 (Kd.S_lt q12_)) (Kd.S_lt q32_)) (below_size q10_))
      have n6_ := Aside0.mk (blk_below (g := gb293) (o := .cells #[.slice A0_0 l0_0.length c0_0, .slice A0_1 l0_1.length c0_1] 25 (0, 0)) q8_ hb)
      have n7_ := Aside0.mk (blk_below (g := gb308) (o := .cells #[.slice Ao42 t302.length co42, .slice Ao45 t305.length co45] 30 (0, 0)) (by (with_reducible repeat (first | refine blk_drewN ?_ _ | refine blk_drew ?_ | refine blk_alloc ?_ _)); exact BK308.out) hb)
      have n8_ := Aside0.mk (below_step q10_ hb)
      clear HO297
      clear HO300
      clear HO304
      clear HO307
      clear BK293
      clear BK308
      clear HB
      have HO297 := n0_
      have HO300 := n1_
      have HO304 := n2_
      have HO307 := n3_
      have HO312 := n4_
      have HO315 := n5_
      have BK293 := n6_
      have BK308 := n7_
      have HB := n8_
      clear n0_ n1_ n2_ n3_ n4_ n5_ n6_ n7_ n8_
      (try clear hb)
      (try clear hb2)
      (try clear hk)
      (try clear hi)
      (try clear ho0)
      (try clear ho1)
      obtain ⟨Ao49, co49, eo49⟩ := Kd.S_slice HO312.out
      (first | subst eo49 | (injection eo49 with f1_ f2_ f3_; have f4_ := f1_.symm; have f5_ := f3_.symm; clear f1_ f2_ f3_; subst f4_; subst f5_))
      obtain ⟨Ao50, co50, eo50⟩ := Kd.S_slice HO315.out
      (first | subst eo50 | (injection eo50 with f1_ f2_ f3_; have f4_ := f1_.symm; have f5_ := f3_.symm; clear f1_ f2_ f3_; subst f4_; subst f5_))
      refine hK.out _ _ ⟨(blk_cell BK308.out 0).trans rfl, (blk_cell BK308.out 1).trans rfl, (blk_cell BK293.out 0).trans rfl, (blk_cell BK293.out 1).trans rfl⟩ (fun hHeld => ?_)
      clear hK K
      refine norm_ (a' := ?_) ?_ ?_
      rotate_left
      ·show Act.put _ (some 24) _ = _
       simp only [Act.put, List.setIfInBounds_toArray, List.set_cons_zero, List.set_cons_succ, i64_w, i32_w]
       rfl
      refine one_ (i := 3) (N := some 25) #[true, true, true, true, false] rfl rfl (by kernel_rfl) (by decide) (fun K hK => ?_)
      refine goes_ Try.func18 (by kernel_rfl) rfl #[.agg #[.slice Ao42 t302.length co42, .slice Ao45 t305.length co45], .agg #[.slice Ao49 t310.length co49, .slice Ao50 t313.length co50]] (by rfl) rfl rfl q1_ ?_
      with_reducible refine (laws_eqWeave.calls k _ _ t302 _ _ t305 _ _ t310 _ _ t313 true _ ?side1 ?side2 ?side3 ?side4 ?side5 ?side6 ?side7 ?side8 A29.out).mono ?_
      (case side1 => exact (by repeat (first | exact (Kd.S_reads' HO304.out).2.2 | (with_reducible refine Kd.C_alloc ?_ _) | (with_reducible refine Kd.C_drewN ?_ _) | (with_reducible refine Kd.C_drew ?_))))
      (case side2 => exact (Kd.S_reads' HO304.out).2.1)
      (case side3 => exact (by repeat (first | exact (Kd.S_reads' HO307.out).2.2 | (with_reducible refine Kd.C_alloc ?_ _) | (with_reducible refine Kd.C_drewN ?_ _) | (with_reducible refine Kd.C_drew ?_))))
      (case side4 => exact (Kd.S_reads' HO307.out).2.1)
      (case side5 => exact (by repeat (first | exact (Kd.S_reads' HO312.out).2.2 | (with_reducible refine Kd.C_alloc ?_ _) | (with_reducible refine Kd.C_drewN ?_ _) | (with_reducible refine Kd.C_drew ?_))))
      (case side6 => exact (Kd.S_reads' HO312.out).2.1)
      (case side7 => exact (by repeat (first | exact (Kd.S_reads' HO315.out).2.2 | (with_reducible refine Kd.C_alloc ?_ _) | (with_reducible refine Kd.C_drewN ?_ _) | (with_reducible refine Kd.C_drew ?_))))
      (case side8 => exact (Kd.S_reads' HO315.out).2.1)
      rintro e w51 ⟨rfl, hb⟩
      refine ⟨_, rfl, ?_⟩
      have n0_ := Aside0.mk (Kd.S_below q11_ hb)
      have n1_ := Aside0.mk (Kd.S_below q12_ hb)
      have n2_ := Aside0.mk (Kd.S_below q31_ hb)
      have n3_ := Aside0.mk (Kd.S_below q32_ hb)
      have n4_ := Aside0.mk (Kd.S_below (by (with_reducible repeat (first | apply Kd.S_alloc | apply Kd.S_drewN | apply Kd.S_drew)); exact HO312.out) hb)
      have n5_ := Aside0.mk (Kd.S_below (by (with_reducible repeat (first | apply Kd.S_alloc | apply Kd.S_drewN | apply Kd.S_drew)); exact HO315.out) hb)
      have n6_ := Aside0.mk (blk_below (g := gb293) (o := .cells #[.slice A0_0 l0_0.length c0_0, .slice A0_1 l0_1.length c0_1] 25 (0, 0)) q8_ hb)
      have n7_ := Aside0.mk (blk_below (g := gb308) (o := .cells #[.slice Ao42 t302.length co42, .slice Ao45 t305.length co45] 30 (0, 0)) (by (with_reducible repeat (first | refine blk_drewN ?_ _ | refine blk_drew ?_ | refine blk_alloc ?_ _)); exact BK308.out) hb)
      have n8_ := Aside0.mk (below_step q10_ hb)
      clear HO297
      clear HO300
      clear HO304
      clear HO307
      clear HO312
      clear HO315
      clear BK293
      clear BK308
      clear HB
      have HO297 := n0_
      have HO300 := n1_
      have HO304 := n2_
      have HO307 := n3_
      have HO312 := n4_
      have HO315 := n5_
      have BK293 := n6_
      have BK308 := n7_
      have HB := n8_
      clear n0_ n1_ n2_ n3_ n4_ n5_ n6_ n7_ n8_
      (try clear hb)
      (try clear hb2)
      (try clear hk)
      (try clear hi)
      refine hK.out _ _ ⟨(blk_cell BK308.out 0).trans rfl, (blk_cell BK308.out 1).trans rfl, (blk_cell BK293.out 0).trans rfl, (blk_cell BK293.out 1).trans rfl⟩ (fun hHeld => ?_)
      clear hK K
      refine norm_ (a' := ?_) ?_ ?_
      rotate_left
      ·show Act.put _ (some 25) _ = _
       simp only [Act.put, List.setIfInBounds_toArray, List.set_cons_zero, List.set_cons_succ, i64_w, i32_w]
       rfl
      refine pure_ (i := 4) (N := some 26) (v := ?_) (a' := ?_) #[true, true, true, true, true] rfl rfl (by kernel_rfl) (fun _ _ _ h => h) (Or.inl ⟨by rfl, ?_⟩) ?_ ?_
      rotate_left; exact pw_; rotate_left; exact pz_
      refine done_ (by kernel_rfl) ?_
      try go_wp2
      go_ret
      exact ⟨by first | rfl | (simp [errW_none, errW_some] <;> rfl) | (simp [*, errW_none, errW_some] <;> rfl), by repeat (first | (with_reducible first | exact HB.out | apply below_alloc | apply pw_below_drewN | apply below_drew1 | refine below_set ?_ GE293.out | refine below_set ?_ GE308.out) | exact HB.out)⟩
     ·replace c30 := Bool.eq_false_iff.mpr c30
      subst c30
      have H1 : (some false) = some r := by rw [if_neg (show ¬ (false = true) by decide)] at H; exact H
      clear H
      have H := H1
      clear H1
      obtain rfl := Option.some.inj H
      go_enter Try.func3, Try.ntmps3
      try go_wp2_with (first | ((with_reducible refine gate_dst (N := 1) rfl ?_); refine box_event ?hg (N := 1) ?hd (cs := #[.slice A0_0 l0_0.length c0_0, .slice A0_1 l0_1.length c0_1]) (t := 25) ?hr ?_; (case hd => rfl); (case hg => rfl); (case hr => first | (go_simp; done) | (go_simp; rfl)); intro gb293 hg w52 hbox hb; have n0_ := Aside0.mk (below_step q0_ hb); have n1_ := Aside0.mk (hbox); have n2_ := Aside0.mk ((by rw [hg]; exact (below_size q0_) : w.heap.size ≤ gb293)); have n3_ := Aside0.mk ((by rw [hg]; exact (below_size q0_) : w.heap.size ≤ gb293)); clear HB; have HB := n0_; have BK293 := n1_; have GW293 := n2_; have GE293 := n3_; clear n0_ n1_ n2_ n3_; clear hb hbox hg; have hcz53_0 : w52.cell? ⟨gb293, 0, none⟩ = some (.slice A0_0 l0_0.length c0_0) := (blk_cell BK293.out 0).trans rfl; have hcz53_1 : w52.cell? ⟨gb293, 1, none⟩ = some (.slice A0_1 l0_1.length c0_1) := (blk_cell BK293.out 1).trans rfl; have hfz53_0 := blk_frozen BK293.out 0; have hfz53_1 := blk_frozen BK293.out 1) | ((with_reducible refine gate_callee (f := 14) rfl ?_); refine goesL_ (some 9) rfl rfl Try.func14 (by kernel_rfl) rfl #[.agg #[.slice A0_0 l0_0.length c0_0, .slice A0_1 l0_1.length c0_1], .int .i64 1048576] rfl q1_ ?_; (with_reducible refine (laws_szWeave.calls k _ _ l0_0 _ _ l0_1 1048576 t294 _ ?side1 ?side2 ?side3 ?side4 A2.out).mono ?_); (case side1 => exact q3_); (case side2 => exact HC0_0.out); (case side3 => exact q6_); (case side4 => exact HC0_1.out); rintro e w54 ⟨rfl, hb⟩; refine ⟨_, rfl, ?_⟩; have n0_ := Aside0.mk (blk_below (g := gb293) (o := .cells #[.slice A0_0 l0_0.length c0_0, .slice A0_1 l0_1.length c0_1] 25 (0, 0)) q8_ hb); have n1_ := Aside0.mk (below_step q4_ hb); clear BK293; clear HB; have BK293 := n0_; have HB := n1_; clear n0_ n1_; (try clear hb); (try clear hb2); (try clear hk); (try clear hi); have hcz55_0 : w54.cell? ⟨gb293, 0, none⟩ = some (.slice A0_0 l0_0.length c0_0) := (blk_cell BK293.out 0).trans rfl; have hcz55_1 : w54.cell? ⟨gb293, 1, none⟩ = some (.slice A0_1 l0_1.length c0_1) := (blk_cell BK293.out 1).trans rfl; have hfz55_0 := blk_frozen BK293.out 0; have hfz55_1 := blk_frozen BK293.out 1) | ((with_reducible refine gate_callee (f := 16) rfl ?_); refine goesL_ (some 13) rfl rfl Try.func16 (by kernel_rfl) rfl #[.agg #[.slice A0_0 l0_0.length c0_0, .slice A0_1 l0_1.length c0_1]] rfl q1_ ?_; (with_reducible refine (laws_toWeave.calls k _ _ l0_0 _ _ l0_1 t295 t298 _ ?side1 ?side2 ?side3 ?side4 A7.out).mono ?_); (case side1 => exact q3_); (case side2 => exact HC0_0.out); (case side3 => exact q6_); (case side4 => exact HC0_1.out); rintro e w56 ⟨v296, v299, rfl, ho0, ho1, hb⟩; refine ⟨_, rfl, ?_⟩; have n0_ := Aside0.mk (Kd.S_lower ho0 (below_size q4_)); have n1_ := Aside0.mk (Kd.S_lower ho1 (below_size q4_)); have n2_ := Aside0.mk (blk_below (g := gb293) (o := .cells #[.slice A0_0 l0_0.length c0_0, .slice A0_1 l0_1.length c0_1] 25 (0, 0)) q8_ hb); have n3_ := Aside0.mk (below_step q4_ hb); clear BK293; clear HB; have HO297 := n0_; have HO300 := n1_; have BK293 := n2_; have HB := n3_; clear n0_ n1_ n2_ n3_; (try clear hb); (try clear hb2); (try clear hk); (try clear hi); (try clear ho0); (try clear ho1); obtain ⟨Ao57, co57, eo57⟩ := Kd.S_slice HO297.out; subst eo57; obtain ⟨Ao58, co58, eo58⟩ := Kd.S_slice HO300.out; subst eo58) | ((with_reducible refine gate_callee (f := 15) rfl ?_); refine goesL_ (some 14) rfl rfl Try.func15 (by kernel_rfl) rfl #[.agg #[.slice Ao57 t295.length co57, .slice Ao58 t298.length co58]] rfl q1_ ?_; (with_reducible refine (spec_WeaveOk.calls k _ _ t295 _ _ t298 t301 _ ?side1 ?side2 ?side3 ?side4 A8.out).mono ?_); (case side1 => exact (by repeat (first | exact (Kd.S_reads' HO297.out).2.2 | (with_reducible refine Kd.C_alloc ?_ _) | (with_reducible refine Kd.C_drewN ?_ _) | (with_reducible refine Kd.C_drew ?_)))); (case side2 => exact (Kd.S_reads' HO297.out).2.1); (case side3 => exact (by repeat (first | exact (Kd.S_reads' HO300.out).2.2 | (with_reducible refine Kd.C_alloc ?_ _) | (with_reducible refine Kd.C_drewN ?_ _) | (with_reducible refine Kd.C_drew ?_)))); (case side4 => exact (Kd.S_reads' HO300.out).2.1); rintro e w59 ⟨rfl, hb⟩; refine ⟨_, rfl, ?_⟩; have n0_ := Aside0.mk (Kd.S_below q11_ hb); have n1_ := Aside0.mk (Kd.S_below q12_ hb); have n2_ := Aside0.mk (blk_below (g := gb293) (o := .cells #[.slice A0_0 l0_0.length c0_0, .slice A0_1 l0_1.length c0_1] 25 (0, 0)) q8_ hb); have n3_ := Aside0.mk (below_step q4_ hb); clear HO297; clear HO300; clear BK293; clear HB; have HO297 := n0_; have HO300 := n1_; have BK293 := n2_; have HB := n3_; clear n0_ n1_ n2_ n3_; (try clear hb); (try clear hb2); (try clear hk); (try clear hi); have hcz60_0 : w59.cell? ⟨gb293, 0, none⟩ = some (.slice A0_0 l0_0.length c0_0) := (blk_cell BK293.out 0).trans rfl; have hcz60_1 : w59.cell? ⟨gb293, 1, none⟩ = some (.slice A0_1 l0_1.length c0_1) := (blk_cell BK293.out 1).trans rfl; have hfz60_0 := blk_frozen BK293.out 0; have hfz60_1 := blk_frozen BK293.out 1) | ((with_reducible refine gate_callee (f := 16) rfl ?_); refine goesL_ (some 16) rfl rfl Try.func16 (by kernel_rfl) rfl #[.agg #[.slice A0_0 l0_0.length c0_0, .slice A0_1 l0_1.length c0_1]] rfl q1_ ?_; (with_reducible refine (laws_toWeave.calls k _ _ l0_0 _ _ l0_1 t302 t305 _ ?side1 ?side2 ?side3 ?side4 A9.out).mono ?_); (case side1 => exact q3_); (case side2 => exact HC0_0.out); (case side3 => exact q6_); (case side4 => exact HC0_1.out); rintro e w61 ⟨v303, v306, rfl, ho0, ho1, hb⟩; refine ⟨_, rfl, ?_⟩; have n0_ := Aside0.mk (Kd.S_elder' q11_ (Kd.S_base ho0) hb); have n1_ := Aside0.mk (Kd.S_elder' q12_ (Kd.S_base ho1) hb); have n2_ := Aside0.mk (Kd.S_lower (Kd.S_new' ho0 (Kd.S_lt q11_)) (below_size q4_)); have n3_ := Aside0.mk (Kd.S_lower (Kd.S_new' ho1 (Kd.S_lt q12_)) (below_size q4_)); have n4_ := Aside0.mk (blk_below (g := gb293) (o := .cells #[.slice A0_0 l0_0.length c0_0, .slice A0_1 l0_1.length c0_1] 25 (0, 0)) q8_ hb); have n5_ := Aside0.mk (below_step q4_ hb); clear HO297; clear HO300; clear BK293; clear HB; have HO297 := n0_; have HO300 := n1_; have HO304 := n2_; have HO307 := n3_; have BK293 := n4_; have HB := n5_; clear n0_ n1_ n2_ n3_ n4_ n5_; (try clear hb); (try clear hb2); (try clear hk); (try clear hi); (try clear ho0); (try clear ho1)) | ((with_reducible refine gate_dst (N := 5) rfl ?_); refine box_event ?hg (N := 5) ?hd (cs := #[.slice none 0 0, .slice none 0 0]) (t := 30) ?hr ?_; (case hd => rfl); (case hg => rfl); (case hr => first | (go_simp; done) | (go_simp; rfl)); intro gb308 hg w62 hbox hb; have n0_ := Aside0.mk (Kd.S_below q11_ hb); have n1_ := Aside0.mk (Kd.S_below q12_ hb); have n2_ := Aside0.mk (Kd.S_below q31_ hb); have n3_ := Aside0.mk (Kd.S_below q32_ hb); have n4_ := Aside0.mk (blk_below (g := gb293) (o := .cells #[.slice A0_0 l0_0.length c0_0, .slice A0_1 l0_1.length c0_1] 25 (0, 0)) q8_ hb); have n5_ := Aside0.mk (below_step q4_ hb); have n6_ := Aside0.mk (hbox); have n7_ := Aside0.mk ((by rw [hg]; exact (below_size q4_) : w.heap.size ≤ gb308)); have n8_ := Aside0.mk ((by rw [hg]; exact (below_size q4_) : w.heap.size ≤ gb308)); have n9_ := Aside0.mk ((by rw [hg]; exact Nat.ne_of_lt (blk_lt (g := gb293) (o := .cells #[.slice A0_0 l0_0.length c0_0, .slice A0_1 l0_1.length c0_1] 25 (0, 0)) q8_) : gb293 ≠ gb308)); have n10_ := Aside0.mk ((by rw [hg]; exact Nat.ne_of_gt (blk_lt (g := gb293) (o := .cells #[.slice A0_0 l0_0.length c0_0, .slice A0_1 l0_1.length c0_1] 25 (0, 0)) q8_) : gb308 ≠ gb293)); clear HO297; clear HO300; clear HO304; clear HO307; clear BK293; clear HB; have HO297 := n0_; have HO300 := n1_; have HO304 := n2_; have HO307 := n3_; have BK293 := n4_; have HB := n5_; have BK308 := n6_; have GW308 := n7_; have GE308 := n8_; have NB293_308 := n9_; have NB308_293 := n10_; clear n0_ n1_ n2_ n3_ n4_ n5_ n6_ n7_ n8_ n9_ n10_; clear hb hbox hg; obtain ⟨Ao63, co63, eo63⟩ := Kd.S_slice HO304.out; subst eo63; have hnb64 := NB308_293.out; have hnc64 := NB293_308.out; have hcz65_0 : w62.cell? ⟨gb308, 0, none⟩ = some (.slice none 0 0) := (blk_cell BK308.out 0).trans rfl; have hcz65_1 : w62.cell? ⟨gb308, 1, none⟩ = some (.slice none 0 0) := (blk_cell BK308.out 1).trans rfl; have hfz65_0 := blk_frozen BK308.out 0; have hfz65_1 := blk_frozen BK308.out 1; obtain ⟨Ao66, co66, eo66⟩ := Kd.S_slice HO307.out; subst eo66) | ((with_reducible refine gate_callee (f := 17) rfl ?_); refine goesL_ (some 18) rfl rfl Try.func17 (by kernel_rfl) rfl #[.agg #[.slice Ao63 t302.length co63, .slice Ao66 t305.length co66]] rfl q1_ ?_; (with_reducible refine (impl_WeaveOk.calls k _ _ t302 _ _ t305 t309 _ ?side1 ?side2 ?side3 ?side4 A10.out).mono ?_); (case side1 => refine (Kd.S_reads' (e := 36) (base := w.heap.size) (ok := fun k_ => (True ∧ some k_ ≠ (.slice Ao57 t295.length co57 : Value).ownBlock)) (n := t302.length) (c := co63) ?_).2.2; exact (by (with_reducible repeat (first | apply Kd.S_alloc | apply Kd.S_drewN | apply Kd.S_drew)); exact (Kd.S_mono (Kd.S_far (p := ⟨gb308, 1, none⟩) (Kd.S_far (p := ⟨gb308, 0, none⟩) (Kd.S_types HO304.out BK308.out (by decide)) (fun _ hk => hk.2) (.slice Ao63 t302.length co63)) (fun _ hk => hk.2) (.slice Ao66 t305.length co66)) (fun _ h_ => h_.1)))); (case side2 => exact (Kd.S_reads' HO304.out).2.1); (case side3 => refine (Kd.S_reads' (e := 68) (base := w.heap.size) (ok := fun k_ => (True ∧ some k_ ≠ (.slice Ao58 t298.length co58 : Value).ownBlock)) (n := t305.length) (c := co66) ?_).2.2; exact (by (with_reducible repeat (first | apply Kd.S_alloc | apply Kd.S_drewN | apply Kd.S_drew)); exact (Kd.S_mono (Kd.S_far (p := ⟨gb308, 1, none⟩) (Kd.S_far (p := ⟨gb308, 0, none⟩) (Kd.S_types HO307.out BK308.out (by decide)) (fun _ hk => hk.2) (.slice Ao63 t302.length co63)) (fun _ hk => hk.2) (.slice Ao66 t305.length co66)) (fun _ h_ => h_.1)))); (case side4 => exact (Kd.S_reads' HO307.out).2.1); rintro e w67 ⟨rfl, hb⟩; refine ⟨_, rfl, ?_⟩; have n0_ := Aside0.mk (Kd.S_below (by (with_reducible repeat (first | apply Kd.S_alloc | apply Kd.S_drewN | apply Kd.S_drew)); exact (Kd.S_mono (Kd.S_far (p := ⟨gb308, 1, none⟩) (Kd.S_far (p := ⟨gb308, 0, none⟩) (Kd.S_types HO297.out BK308.out (by decide)) (fun _ hk => hk.2) (.slice Ao63 t302.length co63)) (fun _ hk => hk.2) (.slice Ao66 t305.length co66)) (fun _ h_ => h_.1))) hb); have n1_ := Aside0.mk (Kd.S_below (by (with_reducible repeat (first | apply Kd.S_alloc | apply Kd.S_drewN | apply Kd.S_drew)); exact (Kd.S_mono (Kd.S_far (p := ⟨gb308, 1, none⟩) (Kd.S_far (p := ⟨gb308, 0, none⟩) (Kd.S_types HO300.out BK308.out (by decide)) (fun _ hk => hk.2) (.slice Ao63 t302.length co63)) (fun _ hk => hk.2) (.slice Ao66 t305.length co66)) (fun _ h_ => h_.1))) hb); have n2_ := Aside0.mk (Kd.S_below (by (with_reducible repeat (first | apply Kd.S_alloc | apply Kd.S_drewN | apply Kd.S_drew)); exact (Kd.S_mono (Kd.S_far (p := ⟨gb308, 1, none⟩) (Kd.S_far (p := ⟨gb308, 0, none⟩) (Kd.S_types HO304.out BK308.out (by decide)) (fun _ hk => hk.2) (.slice Ao63 t302.length co63)) (fun _ hk => hk.2) (.slice Ao66 t305.length co66)) (fun _ h_ => h_.1))) hb); have n3_ := Aside0.mk (Kd.S_below (by (with_reducible repeat (first | apply Kd.S_alloc | apply Kd.S_drewN | apply Kd.S_drew)); exact (Kd.S_mono (Kd.S_far (p := ⟨gb308, 1, none⟩) (Kd.S_far (p := ⟨gb308, 0, none⟩) (Kd.S_types HO307.out BK308.out (by decide)) (fun _ hk => hk.2) (.slice Ao63 t302.length co63)) (fun _ hk => hk.2) (.slice Ao66 t305.length co66)) (fun _ h_ => h_.1))) hb); have n4_ := Aside0.mk (blk_below (g := gb293) (o := .cells #[.slice A0_0 l0_0.length c0_0, .slice A0_1 l0_1.length c0_1] 25 (0, 0)) q23_ hb); have n5_ := Aside0.mk (blk_below (g := gb308) (o := .cells #[.slice Ao63 t302.length co63, .slice Ao66 t305.length co66] 30 (0, 0)) (by (with_reducible repeat (first | refine blk_drewN ?_ _ | refine blk_drew ?_ | refine blk_alloc ?_ _)); refine blk_put (cs := #[.slice Ao63 t302.length co63, .slice none 0 0]) ?_ 1 _ rfl; (with_reducible repeat (first | refine blk_drewN ?_ _ | refine blk_drew ?_ | refine blk_alloc ?_ _)); refine blk_put (cs := #[.slice none 0 0, .slice none 0 0]) ?_ 0 _ rfl; (with_reducible repeat (first | refine blk_drewN ?_ _ | refine blk_drew ?_ | refine blk_alloc ?_ _)); exact BK308.out) hb); have n6_ := Aside0.mk (below_step q10_ hb); clear HO297; clear HO300; clear HO304; clear HO307; clear BK293; clear BK308; clear HB; have HO297 := n0_; have HO300 := n1_; have HO304 := n2_; have HO307 := n3_; have BK293 := n4_; have BK308 := n5_; have HB := n6_; clear n0_ n1_ n2_ n3_ n4_ n5_ n6_; (try clear hb); (try clear hb2); (try clear hk); (try clear hi)))
      have n0_ := Aside0.mk (Kd.S_drew HO297.out)
      have n1_ := Aside0.mk (Kd.S_drew HO300.out)
      have n2_ := Aside0.mk (Kd.S_drew HO304.out)
      have n3_ := Aside0.mk (Kd.S_drew HO307.out)
      have n4_ := Aside0.mk (blk_drew BK293.out)
      have n5_ := Aside0.mk (blk_drew BK308.out)
      have n6_ := Aside0.mk (below_drew1 HB.out)
      clear HO297
      clear HO300
      clear HO304
      clear HO307
      clear BK293
      clear BK308
      clear HB
      have HO297 := n0_
      have HO300 := n1_
      have HO304 := n2_
      have HO307 := n3_
      have BK293 := n4_
      have BK308 := n5_
      have HB := n6_
      clear n0_ n1_ n2_ n3_ n4_ n5_ n6_
      refine start_ (n := 5) (S := fun w' => w'.cell? ⟨gb308, 0, none⟩ = some (.slice Ao63 t302.length co63) ∧ w'.cell? ⟨gb308, 1, none⟩ = some (.slice Ao66 t305.length co66) ∧ w'.cell? ⟨gb293, 0, none⟩ = some (.slice A0_0 l0_0.length c0_0) ∧ w'.cell? ⟨gb293, 1, none⟩ = some (.slice A0_1 l0_1.length c0_1)) (ds := []) #[false, false, false, false, false] (by kernel_rfl) rfl rfl ⟨(blk_cell BK308.out 0).trans rfl, (blk_cell BK308.out 1).trans rfl, (blk_cell BK293.out 0).trans rfl, (blk_cell BK293.out 1).trans rfl⟩ (fun hHeld => ?_)
      generalize w67.drew = w68 at HO297 HO300 HO304 HO307 BK293 BK308 HB hHeld ⊢
      refine take_ (i := 0) (N := some 22) (v := ?_) (a' := ?_) #[true, false, false, false, false] rfl rfl (by kernel_rfl) (fun _ _ _ h => h) (Or.inl ⟨by rfl, ?_⟩) hHeld ?_ ?_
      rotate_left; exact pw4_; rotate_left; exact pz_
      refine take_ (i := 1) (N := some 23) (v := ?_) (a' := ?_) #[true, true, false, false, false] rfl rfl (by kernel_rfl) (fun _ _ _ h => h) (Or.inl ⟨by rfl, ?_⟩) hHeld ?_ ?_
      rotate_left; exact pw4_; rotate_left; exact pz_
      refine one_ (i := 2) (N := some 24) #[true, true, true, false, false] rfl rfl (by kernel_rfl) (by decide) (fun K hK => ?_)
      refine goes_ Try.func16 (by kernel_rfl) rfl #[.agg #[.slice A0_0 l0_0.length c0_0, .slice A0_1 l0_1.length c0_1]] (by rfl) rfl rfl q1_ ?_
      with_reducible refine (laws_toWeave.calls k _ _ l0_0 _ _ l0_1 t310 t313 _ ?side1 ?side2 ?side3 ?side4 A28.out).mono ?_
      (case side1 => exact q3_)
      (case side2 => exact HC0_0.out)
      (case side3 => exact q6_)
      (case side4 => exact HC0_1.out)
      rintro e w69 ⟨v311, v314, rfl, ho0, ho1, hb⟩
      refine ⟨_, rfl, ?_⟩
      have n0_ := Aside0.mk (Kd.S_elder' q11_ (Kd.S_base ho0) hb)
      have n1_ := Aside0.mk (Kd.S_elder' q12_ (Kd.S_base ho1) hb)
      have n2_ := Aside0.mk (Kd.S_elder' q31_ (Kd.S_base ho0) hb)
      have n3_ := Aside0.mk (Kd.S_elder' q32_ (Kd.S_base ho1) hb)
      have n4_ := Aside0.mk (Kd.S_lower (Kd.S_new' (Kd.S_new' ho0 (Kd.S_lt q11_)) (Kd.S_lt q31_)) (below_size q10_))
      have n5_ := Aside0.mk (Kd.S_lower (Kd.S_new' (Kd.S_new' ho1 (Kd.S_lt q12_)) (Kd.S_lt q32_)) (below_size q10_))
      have n6_ := Aside0.mk (blk_below (g := gb293) (o := .cells #[.slice A0_0 l0_0.length c0_0, .slice A0_1 l0_1.length c0_1] 25 (0, 0)) q8_ hb)
      have n7_ := Aside0.mk (blk_below (g := gb308) (o := .cells #[.slice Ao63 t302.length co63, .slice Ao66 t305.length co66] 30 (0, 0)) (by (with_reducible repeat (first | refine blk_drewN ?_ _ | refine blk_drew ?_ | refine blk_alloc ?_ _)); exact BK308.out) hb)
      have n8_ := Aside0.mk (below_step q10_ hb)
      clear HO297
      clear HO300
      clear HO304
      clear HO307
      clear BK293
      clear BK308
      clear HB
      have HO297 := n0_
      have HO300 := n1_
      have HO304 := n2_
      have HO307 := n3_
      have HO312 := n4_
      have HO315 := n5_
      have BK293 := n6_
      have BK308 := n7_
      have HB := n8_
      clear n0_ n1_ n2_ n3_ n4_ n5_ n6_ n7_ n8_
      (try clear hb)
      (try clear hb2)
      (try clear hk)
      (try clear hi)
      (try clear ho0)
      (try clear ho1)
      obtain ⟨Ao70, co70, eo70⟩ := Kd.S_slice HO312.out
      (first | subst eo70 | (injection eo70 with f1_ f2_ f3_; have f4_ := f1_.symm; have f5_ := f3_.symm; clear f1_ f2_ f3_; subst f4_; subst f5_))
      obtain ⟨Ao71, co71, eo71⟩ := Kd.S_slice HO315.out
      (first | subst eo71 | (injection eo71 with f1_ f2_ f3_; have f4_ := f1_.symm; have f5_ := f3_.symm; clear f1_ f2_ f3_; subst f4_; subst f5_))
      refine hK.out _ _ ⟨(blk_cell BK308.out 0).trans rfl, (blk_cell BK308.out 1).trans rfl, (blk_cell BK293.out 0).trans rfl, (blk_cell BK293.out 1).trans rfl⟩ (fun hHeld => ?_)
      clear hK K
      refine norm_ (a' := ?_) ?_ ?_
      rotate_left
      ·show Act.put _ (some 24) _ = _
       simp only [Act.put, List.setIfInBounds_toArray, List.set_cons_zero, List.set_cons_succ, i64_w, i32_w]
       rfl
      refine one_ (i := 3) (N := some 25) #[true, true, true, true, false] rfl rfl (by kernel_rfl) (by decide) (fun K hK => ?_)
      refine goes_ Try.func18 (by kernel_rfl) rfl #[.agg #[.slice Ao63 t302.length co63, .slice Ao66 t305.length co66], .agg #[.slice Ao70 t310.length co70, .slice Ao71 t313.length co71]] (by rfl) rfl rfl q1_ ?_
      with_reducible refine (laws_eqWeave.calls k _ _ t302 _ _ t305 _ _ t310 _ _ t313 false _ ?side1 ?side2 ?side3 ?side4 ?side5 ?side6 ?side7 ?side8 A29.out).mono ?_
      (case side1 => exact (by repeat (first | exact (Kd.S_reads' HO304.out).2.2 | (with_reducible refine Kd.C_alloc ?_ _) | (with_reducible refine Kd.C_drewN ?_ _) | (with_reducible refine Kd.C_drew ?_))))
      (case side2 => exact (Kd.S_reads' HO304.out).2.1)
      (case side3 => exact (by repeat (first | exact (Kd.S_reads' HO307.out).2.2 | (with_reducible refine Kd.C_alloc ?_ _) | (with_reducible refine Kd.C_drewN ?_ _) | (with_reducible refine Kd.C_drew ?_))))
      (case side4 => exact (Kd.S_reads' HO307.out).2.1)
      (case side5 => exact (by repeat (first | exact (Kd.S_reads' HO312.out).2.2 | (with_reducible refine Kd.C_alloc ?_ _) | (with_reducible refine Kd.C_drewN ?_ _) | (with_reducible refine Kd.C_drew ?_))))
      (case side6 => exact (Kd.S_reads' HO312.out).2.1)
      (case side7 => exact (by repeat (first | exact (Kd.S_reads' HO315.out).2.2 | (with_reducible refine Kd.C_alloc ?_ _) | (with_reducible refine Kd.C_drewN ?_ _) | (with_reducible refine Kd.C_drew ?_))))
      (case side8 => exact (Kd.S_reads' HO315.out).2.1)
      rintro e w72 ⟨rfl, hb⟩
      refine ⟨_, rfl, ?_⟩
      have n0_ := Aside0.mk (Kd.S_below q11_ hb)
      have n1_ := Aside0.mk (Kd.S_below q12_ hb)
      have n2_ := Aside0.mk (Kd.S_below q31_ hb)
      have n3_ := Aside0.mk (Kd.S_below q32_ hb)
      have n4_ := Aside0.mk (Kd.S_below (by (with_reducible repeat (first | apply Kd.S_alloc | apply Kd.S_drewN | apply Kd.S_drew)); exact HO312.out) hb)
      have n5_ := Aside0.mk (Kd.S_below (by (with_reducible repeat (first | apply Kd.S_alloc | apply Kd.S_drewN | apply Kd.S_drew)); exact HO315.out) hb)
      have n6_ := Aside0.mk (blk_below (g := gb293) (o := .cells #[.slice A0_0 l0_0.length c0_0, .slice A0_1 l0_1.length c0_1] 25 (0, 0)) q8_ hb)
      have n7_ := Aside0.mk (blk_below (g := gb308) (o := .cells #[.slice Ao63 t302.length co63, .slice Ao66 t305.length co66] 30 (0, 0)) (by (with_reducible repeat (first | refine blk_drewN ?_ _ | refine blk_drew ?_ | refine blk_alloc ?_ _)); exact BK308.out) hb)
      have n8_ := Aside0.mk (below_step q10_ hb)
      clear HO297
      clear HO300
      clear HO304
      clear HO307
      clear HO312
      clear HO315
      clear BK293
      clear BK308
      clear HB
      have HO297 := n0_
      have HO300 := n1_
      have HO304 := n2_
      have HO307 := n3_
      have HO312 := n4_
      have HO315 := n5_
      have BK293 := n6_
      have BK308 := n7_
      have HB := n8_
      clear n0_ n1_ n2_ n3_ n4_ n5_ n6_ n7_ n8_
      (try clear hb)
      (try clear hb2)
      (try clear hk)
      (try clear hi)
      refine hK.out _ _ ⟨(blk_cell BK308.out 0).trans rfl, (blk_cell BK308.out 1).trans rfl, (blk_cell BK293.out 0).trans rfl, (blk_cell BK293.out 1).trans rfl⟩ (fun hHeld => ?_)
      clear hK K
      refine norm_ (a' := ?_) ?_ ?_
      rotate_left
      ·show Act.put _ (some 25) _ = _
       simp only [Act.put, List.setIfInBounds_toArray, List.set_cons_zero, List.set_cons_succ, i64_w, i32_w]
       rfl
      refine pure_ (i := 4) (N := some 26) (v := ?_) (a' := ?_) #[true, true, true, true, true] rfl rfl (by kernel_rfl) (fun _ _ _ h => h) (Or.inl ⟨by rfl, ?_⟩) ?_ ?_
      rotate_left; exact pw_; rotate_left; exact pz_
      refine done_ (by kernel_rfl) ?_
      try go_wp2
      go_ret
      exact ⟨by first | rfl | (simp [errW_none, errW_some] <;> rfl) | (simp [*, errW_none, errW_some] <;> rfl), by repeat (first | (with_reducible first | exact HB.out | apply below_alloc | apply pw_below_drewN | apply below_drew1 | refine below_set ?_ GE293.out | refine below_set ?_ GE308.out) | exact HB.out)⟩
/-- What is left of laws_FnExactWeaveOk. -/
def laws_FnExactWeaveOk.Pure : Prop := ∀ (l0_0 : List (List Int)) (l0_1 : List (S109)), (l0_0.length * 24 ≤ 140737488351232 ∧ ∀ x0 ∈ l0_0, x0.length * 8 ≤ 140737488351232 ∧ ∀ x1 ∈ x0, (Lit.int .i64 x1).wf = true) → (l0_1.length * 56 ≤ 140737488351232 ∧ ∀ x0 ∈ l0_1, (x0.f0.size ≤ 140737488351232) ∧ ((Lit.int .i64 x0.f1).wf = true) ∧ ((Lit.int .i64 x0.f2).wf = true) ∧ (x0.f3.length * 8 ≤ 140737488351232 ∧ ∀ x1 ∈ x0.f3, (Lit.int .i64 x1).wf = true)) → ∃ k, laws_FnExactWeaveOk.f k l0_0 l0_1 = some true

end Go.Proofs.Ytcgelllmdcnmfaa.PFnExactWeaveOk
-- (flat)
-- (thin)
