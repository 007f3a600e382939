-- Made by a program (the kit's print with additions of this session: wip/tools/patch_print.py, ext.py).
import Derived.Test.YtcgelllmdcnmfaaPFnExactOldestx0
import Derived.Test.YtcgelllmdcnmfaaPFnExactOldestx1
import Derived.Test.YtcgelllmdcnmfaaPFnExactOldestx2
import Derived.Test.YtcgelllmdcnmfaaPFnExactOldestx3
import Derived.Test.YtcgelllmdcnmfaaPFnExactOldestx7
import Derived.Test.YtcgelllmdcnmfaaPFnExactOldestx12
namespace Go.Proofs.Ytcgelllmdcnmfaa.PFnExactOldest
open Go.RowKit Go.Proofs.YtcgelllmdcnmfaaW.PrintWords Go.Proofs.YtcgelllmdcnmfaaW.PrintLast Go.Proofs.YtcgelllmdcnmfaaW.PrintMore
attribute [local go_sem] max2_int min2_int max_two min_two max_three min_three max_four min_four   -- for this text's walks alone
set_option linter.unusedVariables false
set_option linter.unusedSimpArgs false

/-! ### laws_FnExactOldest: function 6 -/
def laws_FnExactOldest.f (k : Nat) (l0_0 : List (List Int)) (l0_1 : List (S109)) (a1 : Int) : Option (Bool) := (laws_szWeave.f k l0_0 l0_1 1048576).bind fun t363 => (if t363 < 0 then (some true) else ((laws_toWeave.f k l0_0 l0_1).bind fun bt364 => ((spec_Oldest.f k bt364.1 bt364.2 a1).bind fun t370 => ((laws_toWeave.f k l0_0 l0_1).bind fun bt371 => ((impl_Oldest.f k bt371.1 bt371.2 a1).bind fun t378 => (if t378 = t370 then ((laws_toWeave.f k l0_0 l0_1).bind fun bt379 => ((laws_eqWeave.f k bt371.1 bt371.2 bt379.1 bt379.2).bind fun t385 => (if t385 = true then (some true) else (some false)))) else (some false)))))))
theorem laws_FnExactOldest.mono : ∀ a0 a1 a2 k, LeO (laws_FnExactOldest.f k a0 a1 a2) (laws_FnExactOldest.f (k + 1) a0 a1 a2) := by
  intro a0 a1 a2 k
  unfold laws_FnExactOldest.f
  repeat' first
     | (with_reducible exact impl_Oldest.mono _ _ _ _)
     | (with_reducible exact laws_eqWeave.mono _ _ _ _ _)
     | (with_reducible exact laws_szWeave.mono _ _ _ _)
     | (with_reducible exact laws_toWeave.mono _ _ _)
     | (with_reducible exact spec_Oldest.mono _ _ _ _)
     | (with_reducible exact LeO.refl _)
     | (with_reducible exact LeO.none _)
     | (with_reducible refine LeO.ite ?_ ?_)
     | (with_reducible refine LeO.bind ?_ (fun _ => ?_))
     | exact impl_Oldest.mono _ _ _ _
     | exact laws_eqWeave.mono _ _ _ _ _
     | exact laws_szWeave.mono _ _ _ _
     | exact laws_toWeave.mono _ _ _
     | exact spec_Oldest.mono _ _ _ _
     | exact LeO.none _
     | refine LeO.ite ?_ ?_
     | refine LeO.bind ?_ (fun _ => ?_)
set_option maxHeartbeats 8000000 in
set_option maxRecDepth 100000 in
theorem laws_FnExactOldest.calls (k : Nat) (A0_0 : Option Addr) (c0_0 : Nat) (l0_0 : List (List Int)) (A0_1 : Option Addr) (c0_1 : Nat) (l0_1 : List (S109)) (a1 : Int) (r : Bool) (w : World) (hr0_0 : Kd.C (Kd.slice 3 (Kd.int .i64)) w A0_0 l0_0.length l0_0) (hc0_0 : l0_0.length ≤ c0_0) (hr0_1 : Kd.C k109 w A0_1 l0_1.length l0_1) (hc0_1 : l0_1.length ≤ c0_1) (h : laws_FnExactOldest.f k l0_0 l0_1 a1 = some r) :
    Calls Try.prog 6 #[.agg #[.slice A0_0 l0_0.length c0_0, .slice A0_1 l0_1.length c0_1], .int .i64 a1] w fun e w' => e = .returned (.bool r) ∧ Below w.heap.size w w' := by
  have hu25 := Try.underlying25
  have hu30 := Try.underlying30
  have HR0_0 := Aside0.mk hr0_0
  have HC0_0 := Aside0.mk hc0_0
  clear hr0_0 hc0_0
  have HR0_1 := Aside0.mk hr0_1
  have HC0_1 := Aside0.mk hc0_1
  clear hr0_1 hc0_1
  have HB := Aside0.mk (Below.refl w.heap.size w)
  have H : ((laws_szWeave.f k l0_0 l0_1 1048576).bind fun t363 => (if t363 < 0 then (some true) else ((laws_toWeave.f k l0_0 l0_1).bind fun bt364 => ((spec_Oldest.f k bt364.1 bt364.2 a1).bind fun t370 => ((laws_toWeave.f k l0_0 l0_1).bind fun bt371 => ((impl_Oldest.f k bt371.1 bt371.2 a1).bind fun t378 => (if t378 = t370 then ((laws_toWeave.f k l0_0 l0_1).bind fun bt379 => ((laws_eqWeave.f k bt371.1 bt371.2 bt379.1 bt379.2).bind fun t385 => (if t385 = true then (some true) else (some false)))) else (some false)))))))) = some r := h
  clear h
  replace H := Option.bind_eq_some_iff.mp H
  obtain ⟨t363, A30, H⟩ := H
  replace H : (if t363 < 0 then (some true) else ((laws_toWeave.f k l0_0 l0_1).bind fun bt364 => ((spec_Oldest.f k bt364.1 bt364.2 a1).bind fun t370 => ((laws_toWeave.f k l0_0 l0_1).bind fun bt371 => ((impl_Oldest.f k bt371.1 bt371.2 a1).bind fun t378 => (if t378 = t370 then ((laws_toWeave.f k l0_0 l0_1).bind fun bt379 => ((laws_eqWeave.f k bt371.1 bt371.2 bt379.1 bt379.2).bind fun t385 => (if t385 = true then (some true) else (some false)))) else (some false))))))) = some r := H
  have A3 := Aside0.mk A30
  clear A30
  by_cases c4 : t363 < 0
  · rw [if_pos c4] at H
    have c4b0 : decide (t363 < 0) = true := decide_eq_true c4
    clear c4
    obtain rfl := Option.some.inj H
    go_enter Try.func6, Try.ntmps6
    go_wp2_with (first | ((with_reducible refine gate_dst (N := 2) rfl ?_); refine box_event ?hg (N := 2) ?hd (cs := #[.slice A0_0 l0_0.length c0_0, .slice A0_1 l0_1.length c0_1]) (t := 25) ?hr ?_; (case hd => rfl); (case hg => rfl); (case hr => first | (go_simp; done) | (go_simp; rfl)); intro gb362 hg w5 hbox hb; have n0_ := Aside0.mk (below_step q0_ hb); have n1_ := Aside0.mk (hbox); have n2_ := Aside0.mk ((by rw [hg]; exact (below_size q0_) : w.heap.size ≤ gb362)); have n3_ := Aside0.mk ((by rw [hg]; exact (below_size q0_) : w.heap.size ≤ gb362)); clear HB; have HB := n0_; have BK362 := n1_; have GW362 := n2_; have GE362 := n3_; clear n0_ n1_ n2_ n3_; clear hb hbox hg; have hcz6_0 : w5.cell? ⟨gb362, 0, none⟩ = some (.slice A0_0 l0_0.length c0_0) := (blk_cell BK362.out 0).trans rfl; have hcz6_1 : w5.cell? ⟨gb362, 1, none⟩ = some (.slice A0_1 l0_1.length c0_1) := (blk_cell BK362.out 1).trans rfl; have hfz6_0 := blk_frozen BK362.out 0; have hfz6_1 := blk_frozen BK362.out 1) | ((with_reducible refine gate_callee (f := 14) rfl ?_); refine goesL_ (some 11) rfl rfl Try.func14 (by kernel_rfl) rfl #[.agg #[.slice A0_0 l0_0.length c0_0, .slice A0_1 l0_1.length c0_1], .int .i64 1048576] rfl q1_ ?_; (with_reducible refine (laws_szWeave.calls k _ _ l0_0 _ _ l0_1 1048576 t363 _ ?side1 ?side2 ?side3 ?side4 A3.out).mono ?_); (case side1 => exact q3_); (case side2 => exact HC0_0.out); (case side3 => exact q4_); (case side4 => exact HC0_1.out); rintro e w7 ⟨rfl, hb⟩; refine ⟨_, rfl, ?_⟩; have n0_ := Aside0.mk (blk_below (g := gb362) (o := .cells #[.slice A0_0 l0_0.length c0_0, .slice A0_1 l0_1.length c0_1] 25 (0, 0)) q8_ hb); have n1_ := Aside0.mk (below_step q5_ hb); clear BK362; clear HB; have BK362 := n0_; have HB := n1_; clear n0_ n1_; (try clear hb); (try clear hb2); (try clear hk); (try clear hi)))
    go_ret
    exact ⟨by first | rfl | (simp [errW_none, errW_some] <;> rfl) | (simp [*, errW_none, errW_some] <;> rfl), by repeat (first | (with_reducible first | exact HB.out | apply below_alloc | apply pw_below_drewN | apply below_drew1 | refine below_set ?_ GE362.out) | exact HB.out)⟩
  · rw [if_neg c4] at H
    have c4b0 : decide (t363 < 0) = false := decide_eq_false c4
    clear c4
    replace H := Option.bind_eq_some_iff.mp H
    obtain ⟨⟨t364, t367⟩, A80, H⟩ := H
    replace H : ((spec_Oldest.f k t364 t367 a1).bind fun t370 => ((laws_toWeave.f k l0_0 l0_1).bind fun bt371 => ((impl_Oldest.f k bt371.1 bt371.2 a1).bind fun t378 => (if t378 = t370 then ((laws_toWeave.f k l0_0 l0_1).bind fun bt379 => ((laws_eqWeave.f k bt371.1 bt371.2 bt379.1 bt379.2).bind fun t385 => (if t385 = true then (some true) else (some false)))) else (some false))))) = some r := H
    have A8 := Aside0.mk A80
    clear A80
    replace H := Option.bind_eq_some_iff.mp H
    obtain ⟨t370, A90, H⟩ := H
    replace H : ((laws_toWeave.f k l0_0 l0_1).bind fun bt371 => ((impl_Oldest.f k bt371.1 bt371.2 a1).bind fun t378 => (if t378 = t370 then ((laws_toWeave.f k l0_0 l0_1).bind fun bt379 => ((laws_eqWeave.f k bt371.1 bt371.2 bt379.1 bt379.2).bind fun t385 => (if t385 = true then (some true) else (some false)))) else (some false)))) = some r := H
    have A9 := Aside0.mk A90
    clear A90
    replace H := Option.bind_eq_some_iff.mp H
    obtain ⟨⟨t371, t374⟩, A100, H⟩ := H
    replace H : ((impl_Oldest.f k t371 t374 a1).bind fun t378 => (if t378 = t370 then ((laws_toWeave.f k l0_0 l0_1).bind fun bt379 => ((laws_eqWeave.f k t371 t374 bt379.1 bt379.2).bind fun t385 => (if t385 = true then (some true) else (some false)))) else (some false))) = some r := H
    have A10 := Aside0.mk A100
    clear A100
    replace H := Option.bind_eq_some_iff.mp H
    obtain ⟨t378, A110, H⟩ := H
    replace H : (if t378 = t370 then ((laws_toWeave.f k l0_0 l0_1).bind fun bt379 => ((laws_eqWeave.f k t371 t374 bt379.1 bt379.2).bind fun t385 => (if t385 = true then (some true) else (some false)))) else (some false)) = some r := H
    have A11 := Aside0.mk A110
    clear A110
    by_cases c12 : t378 = t370
    ·rw [if_pos c12] at H
     have c12b0 : (t378 == t370) = true := beq_iff_eq.mpr c12
     have c12b1 : (t378 != t370) = false := bne_eq_false_iff_eq.mpr c12
     clear c12
     replace H := Option.bind_eq_some_iff.mp H
     obtain ⟨⟨t379, t382⟩, A130, H⟩ := H
     replace H : ((laws_eqWeave.f k t371 t374 t379 t382).bind fun t385 => (if t385 = true then (some true) else (some false))) = some r := H
     have A13 := Aside0.mk A130
     clear A130
     replace H := Option.bind_eq_some_iff.mp H
     obtain ⟨t385, A140, H⟩ := H
     replace H : (if t385 = true then (some true) else (some false)) = some r := H
     have A14 := Aside0.mk A140
     clear A140
     by_cases c15 : t385 = true
     ·subst c15
      have H1 : (some true) = some r := by rw [if_pos rfl] at H; exact H
      clear H
      have H := H1
      clear H1
      obtain rfl := Option.some.inj H
      go_enter Try.func6, Try.ntmps6
      try go_wp2_with (first | ((with_reducible refine gate_dst (N := 2) rfl ?_); refine box_event ?hg (N := 2) ?hd (cs := #[.slice A0_0 l0_0.length c0_0, .slice A0_1 l0_1.length c0_1]) (t := 25) ?hr ?_; (case hd => rfl); (case hg => rfl); (case hr => first | (go_simp; done) | (go_simp; rfl)); intro gb362 hg w16 hbox hb; have n0_ := Aside0.mk (below_step q0_ hb); have n1_ := Aside0.mk (hbox); have n2_ := Aside0.mk ((by rw [hg]; exact (below_size q0_) : w.heap.size ≤ gb362)); have n3_ := Aside0.mk ((by rw [hg]; exact (below_size q0_) : w.heap.size ≤ gb362)); clear HB; have HB := n0_; have BK362 := n1_; have GW362 := n2_; have GE362 := n3_; clear n0_ n1_ n2_ n3_; clear hb hbox hg; have hcz17_0 : w16.cell? ⟨gb362, 0, none⟩ = some (.slice A0_0 l0_0.length c0_0) := (blk_cell BK362.out 0).trans rfl; have hcz17_1 : w16.cell? ⟨gb362, 1, none⟩ = some (.slice A0_1 l0_1.length c0_1) := (blk_cell BK362.out 1).trans rfl; have hfz17_0 := blk_frozen BK362.out 0; have hfz17_1 := blk_frozen BK362.out 1) | ((with_reducible refine gate_callee (f := 14) rfl ?_); refine goesL_ (some 11) rfl rfl Try.func14 (by kernel_rfl) rfl #[.agg #[.slice A0_0 l0_0.length c0_0, .slice A0_1 l0_1.length c0_1], .int .i64 1048576] rfl q1_ ?_; (with_reducible refine (laws_szWeave.calls k _ _ l0_0 _ _ l0_1 1048576 t363 _ ?side1 ?side2 ?side3 ?side4 A3.out).mono ?_); (case side1 => exact q3_); (case side2 => exact HC0_0.out); (case side3 => exact q4_); (case side4 => exact HC0_1.out); rintro e w18 ⟨rfl, hb⟩; refine ⟨_, rfl, ?_⟩; have n0_ := Aside0.mk (blk_below (g := gb362) (o := .cells #[.slice A0_0 l0_0.length c0_0, .slice A0_1 l0_1.length c0_1] 25 (0, 0)) q8_ hb); have n1_ := Aside0.mk (below_step q5_ hb); clear BK362; clear HB; have BK362 := n0_; have HB := n1_; clear n0_ n1_; (try clear hb); (try clear hb2); (try clear hk); (try clear hi); have hcz19_0 : w18.cell? ⟨gb362, 0, none⟩ = some (.slice A0_0 l0_0.length c0_0) := (blk_cell BK362.out 0).trans rfl; have hcz19_1 : w18.cell? ⟨gb362, 1, none⟩ = some (.slice A0_1 l0_1.length c0_1) := (blk_cell BK362.out 1).trans rfl; have hfz19_0 := blk_frozen BK362.out 0; have hfz19_1 := blk_frozen BK362.out 1) | ((with_reducible refine gate_callee (f := 16) rfl ?_); refine goesL_ (some 15) rfl rfl Try.func16 (by kernel_rfl) rfl #[.agg #[.slice A0_0 l0_0.length c0_0, .slice A0_1 l0_1.length c0_1]] rfl q1_ ?_; (with_reducible refine (laws_toWeave.calls k _ _ l0_0 _ _ l0_1 t364 t367 _ ?side1 ?side2 ?side3 ?side4 A8.out).mono ?_); (case side1 => exact q3_); (case side2 => exact HC0_0.out); (case side3 => exact q4_); (case side4 => exact HC0_1.out); rintro e w20 ⟨v365, v368, rfl, ho0, ho1, hb⟩; refine ⟨_, rfl, ?_⟩; have n0_ := Aside0.mk (Kd.S_lower ho0 (below_size q5_)); have n1_ := Aside0.mk (Kd.S_lower ho1 (below_size q5_)); have n2_ := Aside0.mk (blk_below (g := gb362) (o := .cells #[.slice A0_0 l0_0.length c0_0, .slice A0_1 l0_1.length c0_1] 25 (0, 0)) q8_ hb); have n3_ := Aside0.mk (below_step q5_ hb); clear BK362; clear HB; have HO366 := n0_; have HO369 := n1_; have BK362 := n2_; have HB := n3_; clear n0_ n1_ n2_ n3_; (try clear hb); (try clear hb2); (try clear hk); (try clear hi); (try clear ho0); (try clear ho1); obtain ⟨Ao21, co21, eo21⟩ := Kd.S_slice HO366.out; subst eo21; obtain ⟨Ao22, co22, eo22⟩ := Kd.S_slice HO369.out; subst eo22) | ((with_reducible refine gate_callee (f := 28) rfl ?_); refine goesL_ (some 17) rfl rfl Try.func28 (by kernel_rfl) rfl #[.agg #[.slice Ao21 t364.length co21, .slice Ao22 t367.length co22], .int .i64 a1] rfl q1_ ?_; (with_reducible refine (spec_Oldest.calls k _ _ t364 _ _ t367 a1 t370 _ ?side1 ?side2 ?side3 ?side4 A9.out).mono ?_); (case side1 => exact (by repeat (first | exact (Kd.S_reads' HO366.out).2.2 | (with_reducible refine Kd.C_alloc ?_ _) | (with_reducible refine Kd.C_drewN ?_ _) | (with_reducible refine Kd.C_drew ?_)))); (case side2 => exact (Kd.S_reads' HO366.out).2.1); (case side3 => exact (by repeat (first | exact (Kd.S_reads' HO369.out).2.2 | (with_reducible refine Kd.C_alloc ?_ _) | (with_reducible refine Kd.C_drewN ?_ _) | (with_reducible refine Kd.C_drew ?_)))); (case side4 => exact (Kd.S_reads' HO369.out).2.1); rintro e w23 ⟨rfl, hb⟩; refine ⟨_, rfl, ?_⟩; have n0_ := Aside0.mk (Kd.S_below q13_ hb); have n1_ := Aside0.mk (Kd.S_below q14_ hb); have n2_ := Aside0.mk (blk_below (g := gb362) (o := .cells #[.slice A0_0 l0_0.length c0_0, .slice A0_1 l0_1.length c0_1] 25 (0, 0)) q8_ hb); have n3_ := Aside0.mk (below_step q5_ hb); clear HO366; clear HO369; clear BK362; clear HB; have HO366 := n0_; have HO369 := n1_; have BK362 := n2_; have HB := n3_; clear n0_ n1_ n2_ n3_; (try clear hb); (try clear hb2); (try clear hk); (try clear hi); have hcz24_0 : w23.cell? ⟨gb362, 0, none⟩ = some (.slice A0_0 l0_0.length c0_0) := (blk_cell BK362.out 0).trans rfl; have hcz24_1 : w23.cell? ⟨gb362, 1, none⟩ = some (.slice A0_1 l0_1.length c0_1) := (blk_cell BK362.out 1).trans rfl; have hfz24_0 := blk_frozen BK362.out 0; have hfz24_1 := blk_frozen BK362.out 1) | ((with_reducible refine gate_callee (f := 16) rfl ?_); refine goesL_ (some 19) rfl rfl Try.func16 (by kernel_rfl) rfl #[.agg #[.slice A0_0 l0_0.length c0_0, .slice A0_1 l0_1.length c0_1]] rfl q1_ ?_; (with_reducible refine (laws_toWeave.calls k _ _ l0_0 _ _ l0_1 t371 t374 _ ?side1 ?side2 ?side3 ?side4 A10.out).mono ?_); (case side1 => exact q3_); (case side2 => exact HC0_0.out); (case side3 => exact q4_); (case side4 => exact HC0_1.out); rintro e w25 ⟨v372, v375, rfl, ho0, ho1, hb⟩; refine ⟨_, rfl, ?_⟩; have n0_ := Aside0.mk (Kd.S_elder' q13_ (Kd.S_base ho0) hb); have n1_ := Aside0.mk (Kd.S_elder' q14_ (Kd.S_base ho1) hb); have n2_ := Aside0.mk (Kd.S_lower (Kd.S_new' ho0 (Kd.S_lt q13_)) (below_size q5_)); have n3_ := Aside0.mk (Kd.S_lower (Kd.S_new' ho1 (Kd.S_lt q14_)) (below_size q5_)); have n4_ := Aside0.mk (blk_below (g := gb362) (o := .cells #[.slice A0_0 l0_0.length c0_0, .slice A0_1 l0_1.length c0_1] 25 (0, 0)) q8_ hb); have n5_ := Aside0.mk (below_step q5_ hb); clear HO366; clear HO369; clear BK362; clear HB; have HO366 := n0_; have HO369 := n1_; have HO373 := n2_; have HO376 := n3_; have BK362 := n4_; have HB := n5_; clear n0_ n1_ n2_ n3_ n4_ n5_; (try clear hb); (try clear hb2); (try clear hk); (try clear hi); (try clear ho0); (try clear ho1)) | ((with_reducible refine gate_dst (N := 7) rfl ?_); refine box_event ?hg (N := 7) ?hd (cs := #[.slice none 0 0, .slice none 0 0]) (t := 30) ?hr ?_; (case hd => rfl); (case hg => rfl); (case hr => first | (go_simp; done) | (go_simp; rfl)); intro gb377 hg w26 hbox hb; have n0_ := Aside0.mk (Kd.S_below q13_ hb); have n1_ := Aside0.mk (Kd.S_below q14_ hb); have n2_ := Aside0.mk (Kd.S_below q38_ hb); have n3_ := Aside0.mk (Kd.S_below q39_ hb); have n4_ := Aside0.mk (blk_below (g := gb362) (o := .cells #[.slice A0_0 l0_0.length c0_0, .slice A0_1 l0_1.length c0_1] 25 (0, 0)) q8_ hb); have n5_ := Aside0.mk (below_step q5_ hb); have n6_ := Aside0.mk (hbox); have n7_ := Aside0.mk ((by rw [hg]; exact (below_size q5_) : w.heap.size ≤ gb377)); have n8_ := Aside0.mk ((by rw [hg]; exact (below_size q5_) : w.heap.size ≤ gb377)); have n9_ := Aside0.mk ((by rw [hg]; exact Nat.ne_of_lt (blk_lt (g := gb362) (o := .cells #[.slice A0_0 l0_0.length c0_0, .slice A0_1 l0_1.length c0_1] 25 (0, 0)) q8_) : gb362 ≠ gb377)); have n10_ := Aside0.mk ((by rw [hg]; exact Nat.ne_of_gt (blk_lt (g := gb362) (o := .cells #[.slice A0_0 l0_0.length c0_0, .slice A0_1 l0_1.length c0_1] 25 (0, 0)) q8_) : gb377 ≠ gb362)); clear HO366; clear HO369; clear HO373; clear HO376; clear BK362; clear HB; have HO366 := n0_; have HO369 := n1_; have HO373 := n2_; have HO376 := n3_; have BK362 := n4_; have HB := n5_; have BK377 := n6_; have GW377 := n7_; have GE377 := n8_; have NB362_377 := n9_; have NB377_362 := n10_; clear n0_ n1_ n2_ n3_ n4_ n5_ n6_ n7_ n8_ n9_ n10_; clear hb hbox hg; obtain ⟨Ao27, co27, eo27⟩ := Kd.S_slice HO373.out; subst eo27; have hnb28 := NB377_362.out; have hnc28 := NB362_377.out; have hcz29_0 : w26.cell? ⟨gb377, 0, none⟩ = some (.slice none 0 0) := (blk_cell BK377.out 0).trans rfl; have hcz29_1 : w26.cell? ⟨gb377, 1, none⟩ = some (.slice none 0 0) := (blk_cell BK377.out 1).trans rfl; have hfz29_0 := blk_frozen BK377.out 0; have hfz29_1 := blk_frozen BK377.out 1; obtain ⟨Ao30, co30, eo30⟩ := Kd.S_slice HO376.out; subst eo30) | ((with_reducible refine gate_callee (f := 29) rfl ?_); refine goesL_ (some 22) rfl rfl Try.func29 (by kernel_rfl) rfl #[.agg #[.slice Ao27 t371.length co27, .slice Ao30 t374.length co30], .int .i64 a1] rfl q1_ ?_; (with_reducible refine (impl_Oldest.calls k _ _ t371 _ _ t374 a1 t378 _ ?side1 ?side2 ?side3 ?side4 A11.out).mono ?_); (case side1 => refine (Kd.S_reads' (e := 36) (base := w.heap.size) (ok := fun k_ => (True ∧ some k_ ≠ (.slice Ao21 t364.length co21 : Value).ownBlock)) (n := t371.length) (c := co27) ?_).2.2; exact (by (with_reducible repeat (first | apply Kd.S_alloc | apply Kd.S_drewN | apply Kd.S_drew)); exact (Kd.S_mono (Kd.S_far (p := ⟨gb377, 1, none⟩) (Kd.S_far (p := ⟨gb377, 0, none⟩) (Kd.S_types HO373.out BK377.out (by decide)) (fun _ hk => hk.2) (.slice Ao27 t371.length co27)) (fun _ hk => hk.2) (.slice Ao30 t374.length co30)) (fun _ h_ => h_.1)))); (case side2 => exact (Kd.S_reads' HO373.out).2.1); (case side3 => refine (Kd.S_reads' (e := 68) (base := w.heap.size) (ok := fun k_ => (True ∧ some k_ ≠ (.slice Ao22 t367.length co22 : Value).ownBlock)) (n := t374.length) (c := co30) ?_).2.2; exact (by (with_reducible repeat (first | apply Kd.S_alloc | apply Kd.S_drewN | apply Kd.S_drew)); exact (Kd.S_mono (Kd.S_far (p := ⟨gb377, 1, none⟩) (Kd.S_far (p := ⟨gb377, 0, none⟩) (Kd.S_types HO376.out BK377.out (by decide)) (fun _ hk => hk.2) (.slice Ao27 t371.length co27)) (fun _ hk => hk.2) (.slice Ao30 t374.length co30)) (fun _ h_ => h_.1)))); (case side4 => exact (Kd.S_reads' HO376.out).2.1); rintro e w31 ⟨rfl, hb⟩; refine ⟨_, rfl, ?_⟩; have n0_ := Aside0.mk (Kd.S_below (by (with_reducible repeat (first | apply Kd.S_alloc | apply Kd.S_drewN | apply Kd.S_drew)); exact (Kd.S_mono (Kd.S_far (p := ⟨gb377, 1, none⟩) (Kd.S_far (p := ⟨gb377, 0, none⟩) (Kd.S_types HO366.out BK377.out (by decide)) (fun _ hk => hk.2) (.slice Ao27 t371.length co27)) (fun _ hk => hk.2) (.slice Ao30 t374.length co30)) (fun _ h_ => h_.1))) hb); have n1_ := Aside0.mk (Kd.S_below (by (with_reducible repeat (first | apply Kd.S_alloc | apply Kd.S_drewN | apply Kd.S_drew)); exact (Kd.S_mono (Kd.S_far (p := ⟨gb377, 1, none⟩) (Kd.S_far (p := ⟨gb377, 0, none⟩) (Kd.S_types HO369.out BK377.out (by decide)) (fun _ hk => hk.2) (.slice Ao27 t371.length co27)) (fun _ hk => hk.2) (.slice Ao30 t374.length co30)) (fun _ h_ => h_.1))) hb); have n2_ := Aside0.mk (Kd.S_below (by (with_reducible repeat (first | apply Kd.S_alloc | apply Kd.S_drewN | apply Kd.S_drew)); exact (Kd.S_mono (Kd.S_far (p := ⟨gb377, 1, none⟩) (Kd.S_far (p := ⟨gb377, 0, none⟩) (Kd.S_types HO373.out BK377.out (by decide)) (fun _ hk => hk.2) (.slice Ao27 t371.length co27)) (fun _ hk => hk.2) (.slice Ao30 t374.length co30)) (fun _ h_ => h_.1))) hb); have n3_ := Aside0.mk (Kd.S_below (by (with_reducible repeat (first | apply Kd.S_alloc | apply Kd.S_drewN | apply Kd.S_drew)); exact (Kd.S_mono (Kd.S_far (p := ⟨gb377, 1, none⟩) (Kd.S_far (p := ⟨gb377, 0, none⟩) (Kd.S_types HO376.out BK377.out (by decide)) (fun _ hk => hk.2) (.slice Ao27 t371.length co27)) (fun _ hk => hk.2) (.slice Ao30 t374.length co30)) (fun _ h_ => h_.1))) hb); have n4_ := Aside0.mk (blk_below (g := gb362) (o := .cells #[.slice A0_0 l0_0.length c0_0, .slice A0_1 l0_1.length c0_1] 25 (0, 0)) q30_ hb); have n5_ := Aside0.mk (blk_below (g := gb377) (o := .cells #[.slice Ao27 t371.length co27, .slice Ao30 t374.length co30] 30 (0, 0)) (by (with_reducible repeat (first | refine blk_drewN ?_ _ | refine blk_drew ?_ | refine blk_alloc ?_ _)); refine blk_put (cs := #[.slice Ao27 t371.length co27, .slice none 0 0]) ?_ 1 _ rfl; (with_reducible repeat (first | refine blk_drewN ?_ _ | refine blk_drew ?_ | refine blk_alloc ?_ _)); refine blk_put (cs := #[.slice none 0 0, .slice none 0 0]) ?_ 0 _ rfl; (with_reducible repeat (first | refine blk_drewN ?_ _ | refine blk_drew ?_ | refine blk_alloc ?_ _)); exact BK377.out) hb); have n6_ := Aside0.mk (below_step q11_ hb); clear HO366; clear HO369; clear HO373; clear HO376; clear BK362; clear BK377; clear HB; have HO366 := n0_; have HO369 := n1_; have HO373 := n2_; have HO376 := n3_; have BK362 := n4_; have BK377 := n5_; have HB := n6_; clear n0_ n1_ n2_ n3_ n4_ n5_ n6_; (try clear hb); (try clear hb2); (try clear hk); (try clear hi)))
      have n0_ := Aside0.mk (Kd.S_drew HO366.out)
      have n1_ := Aside0.mk (Kd.S_drew HO369.out)
      have n2_ := Aside0.mk (Kd.S_drew HO373.out)
      have n3_ := Aside0.mk (Kd.S_drew HO376.out)
      have n4_ := Aside0.mk (blk_drew BK362.out)
      have n5_ := Aside0.mk (blk_drew BK377.out)
      have n6_ := Aside0.mk (below_drew1 HB.out)
      clear HO366
      clear HO369
      clear HO373
      clear HO376
      clear BK362
      clear BK377
      clear HB
      have HO366 := n0_
      have HO369 := n1_
      have HO373 := n2_
      have HO376 := n3_
      have BK362 := n4_
      have BK377 := n5_
      have HB := n6_
      clear n0_ n1_ n2_ n3_ n4_ n5_ n6_
      refine start_ (n := 5) (S := fun w' => w'.cell? ⟨gb377, 0, none⟩ = some (.slice Ao27 t371.length co27) ∧ w'.cell? ⟨gb377, 1, none⟩ = some (.slice Ao30 t374.length co30) ∧ w'.cell? ⟨gb362, 0, none⟩ = some (.slice A0_0 l0_0.length c0_0) ∧ w'.cell? ⟨gb362, 1, none⟩ = some (.slice A0_1 l0_1.length c0_1)) (ds := []) #[false, false, false, false, false] (by kernel_rfl) rfl rfl ⟨(blk_cell BK377.out 0).trans rfl, (blk_cell BK377.out 1).trans rfl, (blk_cell BK362.out 0).trans rfl, (blk_cell BK362.out 1).trans rfl⟩ (fun hHeld => ?_)
      generalize w31.drew = w32 at HO366 HO369 HO373 HO376 BK362 BK377 HB hHeld ⊢
      refine take_ (i := 0) (N := some 26) (v := ?_) (a' := ?_) #[true, false, false, false, false] rfl rfl (by kernel_rfl) (fun _ _ _ h => h) (Or.inl ⟨by rfl, ?_⟩) hHeld ?_ ?_
      rotate_left; exact pw4_; rotate_left; exact pz_
      refine take_ (i := 1) (N := some 27) (v := ?_) (a' := ?_) #[true, true, false, false, false] rfl rfl (by kernel_rfl) (fun _ _ _ h => h) (Or.inl ⟨by rfl, ?_⟩) hHeld ?_ ?_
      rotate_left; exact pw4_; rotate_left; exact pz_
      refine one_ (i := 2) (N := some 28) #[true, true, true, false, false] rfl rfl (by kernel_rfl) (by decide) (fun K hK => ?_)
      refine goes_ Try.func16 (by kernel_rfl) rfl #[.agg #[.slice A0_0 l0_0.length c0_0, .slice A0_1 l0_1.length c0_1]] (by rfl) rfl rfl q1_ ?_
      with_reducible refine (laws_toWeave.calls k _ _ l0_0 _ _ l0_1 t379 t382 _ ?side1 ?side2 ?side3 ?side4 A13.out).mono ?_
      (case side1 => exact q3_)
      (case side2 => exact HC0_0.out)
      (case side3 => exact q4_)
      (case side4 => exact HC0_1.out)
      rintro e w33 ⟨v380, v383, rfl, ho0, ho1, hb⟩
      refine ⟨_, rfl, ?_⟩
      have n0_ := Aside0.mk (Kd.S_elder' q13_ (Kd.S_base ho0) hb)
      have n1_ := Aside0.mk (Kd.S_elder' q14_ (Kd.S_base ho1) hb)
      have n2_ := Aside0.mk (Kd.S_elder' q38_ (Kd.S_base ho0) hb)
      have n3_ := Aside0.mk (Kd.S_elder' q39_ (Kd.S_base ho1) hb)
      have n4_ := Aside0.mk (Kd.S_lower (Kd.S_new' (Kd.S_new' ho0 (Kd.S_lt q13_)) (Kd.S_lt q38_)) (below_size q11_))
      have n5_ := Aside0.mk (Kd.S_lower (Kd.S_new' (Kd.S_new' ho1 (Kd.S_lt q14_)) (Kd.S_lt q39_)) (below_size q11_))
      have n6_ := Aside0.mk (blk_below (g := gb362) (o := .cells #[.slice A0_0 l0_0.length c0_0, .slice A0_1 l0_1.length c0_1] 25 (0, 0)) q8_ hb)
      have n7_ := Aside0.mk (blk_below (g := gb377) (o := .cells #[.slice Ao27 t371.length co27, .slice Ao30 t374.length co30] 30 (0, 0)) (by (with_reducible repeat (first | refine blk_drewN ?_ _ | refine blk_drew ?_ | refine blk_alloc ?_ _)); exact BK377.out) hb)
      have n8_ := Aside0.mk (below_step q11_ hb)
      clear HO366
      clear HO369
      clear HO373
      clear HO376
      clear BK362
      clear BK377
      clear HB
      have HO366 := n0_
      have HO369 := n1_
      have HO373 := n2_
      have HO376 := n3_
      have HO381 := n4_
      have HO384 := n5_
      have BK362 := n6_
      have BK377 := n7_
      have HB := n8_
      clear n0_ n1_ n2_ n3_ n4_ n5_ n6_ n7_ n8_
      (try clear hb)
      (try clear hb2)
      (try clear hk)
      (try clear hi)
      (try clear ho0)
      (try clear ho1)
      obtain ⟨Ao34, co34, eo34⟩ := Kd.S_slice HO381.out
      (first | subst eo34 | (injection eo34 with f1_ f2_ f3_; have f4_ := f1_.symm; have f5_ := f3_.symm; clear f1_ f2_ f3_; subst f4_; subst f5_))
      obtain ⟨Ao35, co35, eo35⟩ := Kd.S_slice HO384.out
      (first | subst eo35 | (injection eo35 with f1_ f2_ f3_; have f4_ := f1_.symm; have f5_ := f3_.symm; clear f1_ f2_ f3_; subst f4_; subst f5_))
      refine hK.out _ _ ⟨(blk_cell BK377.out 0).trans rfl, (blk_cell BK377.out 1).trans rfl, (blk_cell BK362.out 0).trans rfl, (blk_cell BK362.out 1).trans rfl⟩ (fun hHeld => ?_)
      clear hK K
      refine norm_ (a' := ?_) ?_ ?_
      rotate_left
      ·show Act.put _ (some 28) _ = _
       simp only [Act.put, List.setIfInBounds_toArray, List.set_cons_zero, List.set_cons_succ, i64_w, i32_w]
       rfl
      refine one_ (i := 3) (N := some 29) #[true, true, true, true, false] rfl rfl (by kernel_rfl) (by decide) (fun K hK => ?_)
      refine goes_ Try.func18 (by kernel_rfl) rfl #[.agg #[.slice Ao27 t371.length co27, .slice Ao30 t374.length co30], .agg #[.slice Ao34 t379.length co34, .slice Ao35 t382.length co35]] (by rfl) rfl rfl q1_ ?_
      with_reducible refine (laws_eqWeave.calls k _ _ t371 _ _ t374 _ _ t379 _ _ t382 true _ ?side1 ?side2 ?side3 ?side4 ?side5 ?side6 ?side7 ?side8 A14.out).mono ?_
      (case side1 => exact (by repeat (first | exact (Kd.S_reads' HO373.out).2.2 | (with_reducible refine Kd.C_alloc ?_ _) | (with_reducible refine Kd.C_drewN ?_ _) | (with_reducible refine Kd.C_drew ?_))))
      (case side2 => exact (Kd.S_reads' HO373.out).2.1)
      (case side3 => exact (by repeat (first | exact (Kd.S_reads' HO376.out).2.2 | (with_reducible refine Kd.C_alloc ?_ _) | (with_reducible refine Kd.C_drewN ?_ _) | (with_reducible refine Kd.C_drew ?_))))
      (case side4 => exact (Kd.S_reads' HO376.out).2.1)
      (case side5 => exact (by repeat (first | exact (Kd.S_reads' HO381.out).2.2 | (with_reducible refine Kd.C_alloc ?_ _) | (with_reducible refine Kd.C_drewN ?_ _) | (with_reducible refine Kd.C_drew ?_))))
      (case side6 => exact (Kd.S_reads' HO381.out).2.1)
      (case side7 => exact (by repeat (first | exact (Kd.S_reads' HO384.out).2.2 | (with_reducible refine Kd.C_alloc ?_ _) | (with_reducible refine Kd.C_drewN ?_ _) | (with_reducible refine Kd.C_drew ?_))))
      (case side8 => exact (Kd.S_reads' HO384.out).2.1)
      rintro e w36 ⟨rfl, hb⟩
      refine ⟨_, rfl, ?_⟩
      have n0_ := Aside0.mk (Kd.S_below q13_ hb)
      have n1_ := Aside0.mk (Kd.S_below q14_ hb)
      have n2_ := Aside0.mk (Kd.S_below q38_ hb)
      have n3_ := Aside0.mk (Kd.S_below q39_ hb)
      have n4_ := Aside0.mk (Kd.S_below (by (with_reducible repeat (first | apply Kd.S_alloc | apply Kd.S_drewN | apply Kd.S_drew)); exact HO381.out) hb)
      have n5_ := Aside0.mk (Kd.S_below (by (with_reducible repeat (first | apply Kd.S_alloc | apply Kd.S_drewN | apply Kd.S_drew)); exact HO384.out) hb)
      have n6_ := Aside0.mk (blk_below (g := gb362) (o := .cells #[.slice A0_0 l0_0.length c0_0, .slice A0_1 l0_1.length c0_1] 25 (0, 0)) q8_ hb)
      have n7_ := Aside0.mk (blk_below (g := gb377) (o := .cells #[.slice Ao27 t371.length co27, .slice Ao30 t374.length co30] 30 (0, 0)) (by (with_reducible repeat (first | refine blk_drewN ?_ _ | refine blk_drew ?_ | refine blk_alloc ?_ _)); exact BK377.out) hb)
      have n8_ := Aside0.mk (below_step q11_ hb)
      clear HO366
      clear HO369
      clear HO373
      clear HO376
      clear HO381
      clear HO384
      clear BK362
      clear BK377
      clear HB
      have HO366 := n0_
      have HO369 := n1_
      have HO373 := n2_
      have HO376 := n3_
      have HO381 := n4_
      have HO384 := n5_
      have BK362 := n6_
      have BK377 := n7_
      have HB := n8_
      clear n0_ n1_ n2_ n3_ n4_ n5_ n6_ n7_ n8_
      (try clear hb)
      (try clear hb2)
      (try clear hk)
      (try clear hi)
      refine hK.out _ _ ⟨(blk_cell BK377.out 0).trans rfl, (blk_cell BK377.out 1).trans rfl, (blk_cell BK362.out 0).trans rfl, (blk_cell BK362.out 1).trans rfl⟩ (fun hHeld => ?_)
      clear hK K
      refine norm_ (a' := ?_) ?_ ?_
      rotate_left
      ·show Act.put _ (some 29) _ = _
       simp only [Act.put, List.setIfInBounds_toArray, List.set_cons_zero, List.set_cons_succ, i64_w, i32_w]
       rfl
      refine pure_ (i := 4) (N := some 30) (v := ?_) (a' := ?_) #[true, true, true, true, true] rfl rfl (by kernel_rfl) (fun _ _ _ h => h) (Or.inl ⟨by rfl, ?_⟩) ?_ ?_
      rotate_left; exact pw_; rotate_left; exact pz_
      refine done_ (by kernel_rfl) ?_
      try go_wp2
      go_ret
      exact ⟨by first | rfl | (simp [errW_none, errW_some] <;> rfl) | (simp [*, errW_none, errW_some] <;> rfl), by repeat (first | (with_reducible first | exact HB.out | apply below_alloc | apply pw_below_drewN | apply below_drew1 | refine below_set ?_ GE362.out | refine below_set ?_ GE377.out) | exact HB.out)⟩
     ·replace c15 := Bool.eq_false_iff.mpr c15
      subst c15
      have H1 : (some false) = some r := by rw [if_neg (show ¬ (false = true) by decide)] at H; exact H
      clear H
      have H := H1
      clear H1
      obtain rfl := Option.some.inj H
      go_enter Try.func6, Try.ntmps6
      try go_wp2_with (first | ((with_reducible refine gate_dst (N := 2) rfl ?_); refine box_event ?hg (N := 2) ?hd (cs := #[.slice A0_0 l0_0.length c0_0, .slice A0_1 l0_1.length c0_1]) (t := 25) ?hr ?_; (case hd => rfl); (case hg => rfl); (case hr => first | (go_simp; done) | (go_simp; rfl)); intro gb362 hg w37 hbox hb; have n0_ := Aside0.mk (below_step q0_ hb); have n1_ := Aside0.mk (hbox); have n2_ := Aside0.mk ((by rw [hg]; exact (below_size q0_) : w.heap.size ≤ gb362)); have n3_ := Aside0.mk ((by rw [hg]; exact (below_size q0_) : w.heap.size ≤ gb362)); clear HB; have HB := n0_; have BK362 := n1_; have GW362 := n2_; have GE362 := n3_; clear n0_ n1_ n2_ n3_; clear hb hbox hg; have hcz38_0 : w37.cell? ⟨gb362, 0, none⟩ = some (.slice A0_0 l0_0.length c0_0) := (blk_cell BK362.out 0).trans rfl; have hcz38_1 : w37.cell? ⟨gb362, 1, none⟩ = some (.slice A0_1 l0_1.length c0_1) := (blk_cell BK362.out 1).trans rfl; have hfz38_0 := blk_frozen BK362.out 0; have hfz38_1 := blk_frozen BK362.out 1) | ((with_reducible refine gate_callee (f := 14) rfl ?_); refine goesL_ (some 11) rfl rfl Try.func14 (by kernel_rfl) rfl #[.agg #[.slice A0_0 l0_0.length c0_0, .slice A0_1 l0_1.length c0_1], .int .i64 1048576] rfl q1_ ?_; (with_reducible refine (laws_szWeave.calls k _ _ l0_0 _ _ l0_1 1048576 t363 _ ?side1 ?side2 ?side3 ?side4 A3.out).mono ?_); (case side1 => exact q3_); (case side2 => exact HC0_0.out); (case side3 => exact q4_); (case side4 => exact HC0_1.out); rintro e w39 ⟨rfl, hb⟩; refine ⟨_, rfl, ?_⟩; have n0_ := Aside0.mk (blk_below (g := gb362) (o := .cells #[.slice A0_0 l0_0.length c0_0, .slice A0_1 l0_1.length c0_1] 25 (0, 0)) q8_ hb); have n1_ := Aside0.mk (below_step q5_ hb); clear BK362; clear HB; have BK362 := n0_; have HB := n1_; clear n0_ n1_; (try clear hb); (try clear hb2); (try clear hk); (try clear hi); have hcz40_0 : w39.cell? ⟨gb362, 0, none⟩ = some (.slice A0_0 l0_0.length c0_0) := (blk_cell BK362.out 0).trans rfl; have hcz40_1 : w39.cell? ⟨gb362, 1, none⟩ = some (.slice A0_1 l0_1.length c0_1) := (blk_cell BK362.out 1).trans rfl; have hfz40_0 := blk_frozen BK362.out 0; have hfz40_1 := blk_frozen BK362.out 1) | ((with_reducible refine gate_callee (f := 16) rfl ?_); refine goesL_ (some 15) rfl rfl Try.func16 (by kernel_rfl) rfl #[.agg #[.slice A0_0 l0_0.length c0_0, .slice A0_1 l0_1.length c0_1]] rfl q1_ ?_; (with_reducible refine (laws_toWeave.calls k _ _ l0_0 _ _ l0_1 t364 t367 _ ?side1 ?side2 ?side3 ?side4 A8.out).mono ?_); (case side1 => exact q3_); (case side2 => exact HC0_0.out); (case side3 => exact q4_); (case side4 => exact HC0_1.out); rintro e w41 ⟨v365, v368, rfl, ho0, ho1, hb⟩; refine ⟨_, rfl, ?_⟩; have n0_ := Aside0.mk (Kd.S_lower ho0 (below_size q5_)); have n1_ := Aside0.mk (Kd.S_lower ho1 (below_size q5_)); have n2_ := Aside0.mk (blk_below (g := gb362) (o := .cells #[.slice A0_0 l0_0.length c0_0, .slice A0_1 l0_1.length c0_1] 25 (0, 0)) q8_ hb); have n3_ := Aside0.mk (below_step q5_ hb); clear BK362; clear HB; have HO366 := n0_; have HO369 := n1_; have BK362 := n2_; have HB := n3_; clear n0_ n1_ n2_ n3_; (try clear hb); (try clear hb2); (try clear hk); (try clear hi); (try clear ho0); (try clear ho1); obtain ⟨Ao42, co42, eo42⟩ := Kd.S_slice HO366.out; subst eo42; obtain ⟨Ao43, co43, eo43⟩ := Kd.S_slice HO369.out; subst eo43) | ((with_reducible refine gate_callee (f := 28) rfl ?_); refine goesL_ (some 17) rfl rfl Try.func28 (by kernel_rfl) rfl #[.agg #[.slice Ao42 t364.length co42, .slice Ao43 t367.length co43], .int .i64 a1] rfl q1_ ?_; (with_reducible refine (spec_Oldest.calls k _ _ t364 _ _ t367 a1 t370 _ ?side1 ?side2 ?side3 ?side4 A9.out).mono ?_); (case side1 => exact (by repeat (first | exact (Kd.S_reads' HO366.out).2.2 | (with_reducible refine Kd.C_alloc ?_ _) | (with_reducible refine Kd.C_drewN ?_ _) | (with_reducible refine Kd.C_drew ?_)))); (case side2 => exact (Kd.S_reads' HO366.out).2.1); (case side3 => exact (by repeat (first | exact (Kd.S_reads' HO369.out).2.2 | (with_reducible refine Kd.C_alloc ?_ _) | (with_reducible refine Kd.C_drewN ?_ _) | (with_reducible refine Kd.C_drew ?_)))); (case side4 => exact (Kd.S_reads' HO369.out).2.1); rintro e w44 ⟨rfl, hb⟩; refine ⟨_, rfl, ?_⟩; have n0_ := Aside0.mk (Kd.S_below q13_ hb); have n1_ := Aside0.mk (Kd.S_below q14_ hb); have n2_ := Aside0.mk (blk_below (g := gb362) (o := .cells #[.slice A0_0 l0_0.length c0_0, .slice A0_1 l0_1.length c0_1] 25 (0, 0)) q8_ hb); have n3_ := Aside0.mk (below_step q5_ hb); clear HO366; clear HO369; clear BK362; clear HB; have HO366 := n0_; have HO369 := n1_; have BK362 := n2_; have HB := n3_; clear n0_ n1_ n2_ n3_; (try clear hb); (try clear hb2); (try clear hk); (try clear hi); have hcz45_0 : w44.cell? ⟨gb362, 0, none⟩ = some (.slice A0_0 l0_0.length c0_0) := (blk_cell BK362.out 0).trans rfl; have hcz45_1 : w44.cell? ⟨gb362, 1, none⟩ = some (.slice A0_1 l0_1.length c0_1) := (blk_cell BK362.out 1).trans rfl; have hfz45_0 := blk_frozen BK362.out 0; have hfz45_1 := blk_frozen BK362.out 1) | ((with_reducible refine gate_callee (f := 16) rfl ?_); refine goesL_ (some 19) rfl rfl Try.func16 (by kernel_rfl) rfl #[.agg #[.slice A0_0 l0_0.length c0_0, .slice A0_1 l0_1.length c0_1]] rfl q1_ ?_; (with_reducible refine (laws_toWeave.calls k _ _ l0_0 _ _ l0_1 t371 t374 _ ?side1 ?side2 ?side3 ?side4 A10.out).mono ?_); (case side1 => exact q3_); (case side2 => exact HC0_0.out); (case side3 => exact q4_); (case side4 => exact HC0_1.out); rintro e w46 ⟨v372, v375, rfl, ho0, ho1, hb⟩; refine ⟨_, rfl, ?_⟩; have n0_ := Aside0.mk (Kd.S_elder' q13_ (Kd.S_base ho0) hb); have n1_ := Aside0.mk (Kd.S_elder' q14_ (Kd.S_base ho1) hb); have n2_ := Aside0.mk (Kd.S_lower (Kd.S_new' ho0 (Kd.S_lt q13_)) (below_size q5_)); have n3_ := Aside0.mk (Kd.S_lower (Kd.S_new' ho1 (Kd.S_lt q14_)) (below_size q5_)); have n4_ := Aside0.mk (blk_below (g := gb362) (o := .cells #[.slice A0_0 l0_0.length c0_0, .slice A0_1 l0_1.length c0_1] 25 (0, 0)) q8_ hb); have n5_ := Aside0.mk (below_step q5_ hb); clear HO366; clear HO369; clear BK362; clear HB; have HO366 := n0_; have HO369 := n1_; have HO373 := n2_; have HO376 := n3_; have BK362 := n4_; have HB := n5_; clear n0_ n1_ n2_ n3_ n4_ n5_; (try clear hb); (try clear hb2); (try clear hk); (try clear hi); (try clear ho0); (try clear ho1)) | ((with_reducible refine gate_dst (N := 7) rfl ?_); refine box_event ?hg (N := 7) ?hd (cs := #[.slice none 0 0, .slice none 0 0]) (t := 30) ?hr ?_; (case hd => rfl); (case hg => rfl); (case hr => first | (go_simp; done) | (go_simp; rfl)); intro gb377 hg w47 hbox hb; have n0_ := Aside0.mk (Kd.S_below q13_ hb); have n1_ := Aside0.mk (Kd.S_below q14_ hb); have n2_ := Aside0.mk (Kd.S_below q38_ hb); have n3_ := Aside0.mk (Kd.S_below q39_ hb); have n4_ := Aside0.mk (blk_below (g := gb362) (o := .cells #[.slice A0_0 l0_0.length c0_0, .slice A0_1 l0_1.length c0_1] 25 (0, 0)) q8_ hb); have n5_ := Aside0.mk (below_step q5_ hb); have n6_ := Aside0.mk (hbox); have n7_ := Aside0.mk ((by rw [hg]; exact (below_size q5_) : w.heap.size ≤ gb377)); have n8_ := Aside0.mk ((by rw [hg]; exact (below_size q5_) : w.heap.size ≤ gb377)); have n9_ := Aside0.mk ((by rw [hg]; exact Nat.ne_of_lt (blk_lt (g := gb362) (o := .cells #[.slice A0_0 l0_0.length c0_0, .slice A0_1 l0_1.length c0_1] 25 (0, 0)) q8_) : gb362 ≠ gb377)); have n10_ := Aside0.mk ((by rw [hg]; exact Nat.ne_of_gt (blk_lt (g := gb362) (o := .cells #[.slice A0_0 l0_0.length c0_0, .slice A0_1 l0_1.length c0_1] 25 (0, 0)) q8_) : gb377 ≠ gb362)); clear HO366; clear HO369; clear HO373; clear HO376; clear BK362; clear HB; have HO366 := n0_; have HO369 := n1_; have HO373 := n2_; have HO376 := n3_; have BK362 := n4_; have HB := n5_; have BK377 := n6_; have GW377 := n7_; have GE377 := n8_; have NB362_377 := n9_; have NB377_362 := n10_; clear n0_ n1_ n2_ n3_ n4_ n5_ n6_ n7_ n8_ n9_ n10_; clear hb hbox hg; obtain ⟨Ao48, co48, eo48⟩ := Kd.S_slice HO373.out; subst eo48; have hnb49 := NB377_362.out; have hnc49 := NB362_377.out; have hcz50_0 : w47.cell? ⟨gb377, 0, none⟩ = some (.slice none 0 0) := (blk_cell BK377.out 0).trans rfl; have hcz50_1 : w47.cell? ⟨gb377, 1, none⟩ = some (.slice none 0 0) := (blk_cell BK377.out 1).trans rfl; have hfz50_0 := blk_frozen BK377.out 0; have hfz50_1 := blk_frozen BK377.out 1; obtain ⟨Ao51, co51, eo51⟩ := Kd.S_slice HO376.out; subst eo51) | ((with_reducible refine gate_callee (f := 29) rfl ?_); refine goesL_ (some 22) rfl rfl Try.func29 (by kernel_rfl) rfl #[.agg #[.slice Ao48 t371.length co48, .slice Ao51 t374.length co51], .int .i64 a1] rfl q1_ ?_; (with_reducible refine (impl_Oldest.calls k _ _ t371 _ _ t374 a1 t378 _ ?side1 ?side2 ?side3 ?side4 A11.out).mono ?_); (case side1 => refine (Kd.S_reads' (e := 36) (base := w.heap.size) (ok := fun k_ => (True ∧ some k_ ≠ (.slice Ao42 t364.length co42 : Value).ownBlock)) (n := t371.length) (c := co48) ?_).2.2; exact (by (with_reducible repeat (first | apply Kd.S_alloc | apply Kd.S_drewN | apply Kd.S_drew)); exact (Kd.S_mono (Kd.S_far (p := ⟨gb377, 1, none⟩) (Kd.S_far (p := ⟨gb377, 0, none⟩) (Kd.S_types HO373.out BK377.out (by decide)) (fun _ hk => hk.2) (.slice Ao48 t371.length co48)) (fun _ hk => hk.2) (.slice Ao51 t374.length co51)) (fun _ h_ => h_.1)))); (case side2 => exact (Kd.S_reads' HO373.out).2.1); (case side3 => refine (Kd.S_reads' (e := 68) (base := w.heap.size) (ok := fun k_ => (True ∧ some k_ ≠ (.slice Ao43 t367.length co43 : Value).ownBlock)) (n := t374.length) (c := co51) ?_).2.2; exact (by (with_reducible repeat (first | apply Kd.S_alloc | apply Kd.S_drewN | apply Kd.S_drew)); exact (Kd.S_mono (Kd.S_far (p := ⟨gb377, 1, none⟩) (Kd.S_far (p := ⟨gb377, 0, none⟩) (Kd.S_types HO376.out BK377.out (by decide)) (fun _ hk => hk.2) (.slice Ao48 t371.length co48)) (fun _ hk => hk.2) (.slice Ao51 t374.length co51)) (fun _ h_ => h_.1)))); (case side4 => exact (Kd.S_reads' HO376.out).2.1); rintro e w52 ⟨rfl, hb⟩; refine ⟨_, rfl, ?_⟩; have n0_ := Aside0.mk (Kd.S_below (by (with_reducible repeat (first | apply Kd.S_alloc | apply Kd.S_drewN | apply Kd.S_drew)); exact (Kd.S_mono (Kd.S_far (p := ⟨gb377, 1, none⟩) (Kd.S_far (p := ⟨gb377, 0, none⟩) (Kd.S_types HO366.out BK377.out (by decide)) (fun _ hk => hk.2) (.slice Ao48 t371.length co48)) (fun _ hk => hk.2) (.slice Ao51 t374.length co51)) (fun _ h_ => h_.1))) hb); have n1_ := Aside0.mk (Kd.S_below (by (with_reducible repeat (first | apply Kd.S_alloc | apply Kd.S_drewN | apply Kd.S_drew)); exact (Kd.S_mono (Kd.S_far (p := ⟨gb377, 1, none⟩) (Kd.S_far (p := ⟨gb377, 0, none⟩) (Kd.S_types HO369.out BK377.out (by decide)) (fun _ hk => hk.2) (.slice Ao48 t371.length co48)) (fun _ hk => hk.2) (.slice Ao51 t374.length co51)) (fun _ h_ => h_.1))) hb); have n2_ := Aside0.mk (Kd.S_below (by (with_reducible repeat (first | apply Kd.S_alloc | apply Kd.S_drewN | apply Kd.S_drew)); exact (Kd.S_mono (Kd.S_far (p := ⟨gb377, 1, none⟩) (Kd.S_far (p := ⟨gb377, 0, none⟩) (Kd.S_types HO373.out BK377.out (by decide)) (fun _ hk => hk.2) (.slice Ao48 t371.length co48)) (fun _ hk => hk.2) (.slice Ao51 t374.length co51)) (fun _ h_ => h_.1))) hb); have n3_ := Aside0.mk (Kd.S_below (by (with_reducible repeat (first | apply Kd.S_alloc | apply Kd.S_drewN | apply Kd.S_drew)); exact (Kd.S_mono (Kd.S_far (p := ⟨gb377, 1, none⟩) (Kd.S_far (p := ⟨gb377, 0, none⟩) (Kd.S_types HO376.out BK377.out (by decide)) (fun _ hk => hk.2) (.slice Ao48 t371.length co48)) (fun _ hk => hk.2) (.slice Ao51 t374.length co51)) (fun _ h_ => h_.1))) hb); have n4_ := Aside0.mk (blk_below (g := gb362) (o := .cells #[.slice A0_0 l0_0.length c0_0, .slice A0_1 l0_1.length c0_1] 25 (0, 0)) q30_ hb); have n5_ := Aside0.mk (blk_below (g := gb377) (o := .cells #[.slice Ao48 t371.length co48, .slice Ao51 t374.length co51] 30 (0, 0)) (by (with_reducible repeat (first | refine blk_drewN ?_ _ | refine blk_drew ?_ | refine blk_alloc ?_ _)); refine blk_put (cs := #[.slice Ao48 t371.length co48, .slice none 0 0]) ?_ 1 _ rfl; (with_reducible repeat (first | refine blk_drewN ?_ _ | refine blk_drew ?_ | refine blk_alloc ?_ _)); refine blk_put (cs := #[.slice none 0 0, .slice none 0 0]) ?_ 0 _ rfl; (with_reducible repeat (first | refine blk_drewN ?_ _ | refine blk_drew ?_ | refine blk_alloc ?_ _)); exact BK377.out) hb); have n6_ := Aside0.mk (below_step q11_ hb); clear HO366; clear HO369; clear HO373; clear HO376; clear BK362; clear BK377; clear HB; have HO366 := n0_; have HO369 := n1_; have HO373 := n2_; have HO376 := n3_; have BK362 := n4_; have BK377 := n5_; have HB := n6_; clear n0_ n1_ n2_ n3_ n4_ n5_ n6_; (try clear hb); (try clear hb2); (try clear hk); (try clear hi)))
      have n0_ := Aside0.mk (Kd.S_drew HO366.out)
      have n1_ := Aside0.mk (Kd.S_drew HO369.out)
      have n2_ := Aside0.mk (Kd.S_drew HO373.out)
      have n3_ := Aside0.mk (Kd.S_drew HO376.out)
      have n4_ := Aside0.mk (blk_drew BK362.out)
      have n5_ := Aside0.mk (blk_drew BK377.out)
      have n6_ := Aside0.mk (below_drew1 HB.out)
      clear HO366
      clear HO369
      clear HO373
      clear HO376
      clear BK362
      clear BK377
      clear HB
      have HO366 := n0_
      have HO369 := n1_
      have HO373 := n2_
      have HO376 := n3_
      have BK362 := n4_
      have BK377 := n5_
      have HB := n6_
      clear n0_ n1_ n2_ n3_ n4_ n5_ n6_
      refine start_ (n := 5) (S := fun w' => w'.cell? ⟨gb377, 0, none⟩ = some (.slice Ao48 t371.length co48) ∧ w'.cell? ⟨gb377, 1, none⟩ = some (.slice Ao51 t374.length co51) ∧ w'.cell? ⟨gb362, 0, none⟩ = some (.slice A0_0 l0_0.length c0_0) ∧ w'.cell? ⟨gb362, 1, none⟩ = some (.slice A0_1 l0_1.length c0_1)) (ds := []) #[false, false, false, false, false] (by kernel_rfl) rfl rfl ⟨(blk_cell BK377.out 0).trans rfl, (blk_cell BK377.out 1).trans rfl, (blk_cell BK362.out 0).trans rfl, (blk_cell BK362.out 1).trans rfl⟩ (fun hHeld => ?_)
      generalize w52.drew = w53 at HO366 HO369 HO373 HO376 BK362 BK377 HB hHeld ⊢
      refine take_ (i := 0) (N := some 26) (v := ?_) (a' := ?_) #[true, false, false, false, false] rfl rfl (by kernel_rfl) (fun _ _ _ h => h) (Or.inl ⟨by rfl, ?_⟩) hHeld ?_ ?_
      rotate_left; exact pw4_; rotate_left; exact pz_
      refine take_ (i := 1) (N := some 27) (v := ?_) (a' := ?_) #[true, true, false, false, false] rfl rfl (by kernel_rfl) (fun _ _ _ h => h) (Or.inl ⟨by rfl, ?_⟩) hHeld ?_ ?_
      rotate_left; exact pw4_; rotate_left; exact pz_
      refine one_ (i := 2) (N := some 28) #[true, true, true, false, false] rfl rfl (by kernel_rfl) (by decide) (fun K hK => ?_)
      refine goes_ Try.func16 (by kernel_rfl) rfl #[.agg #[.slice A0_0 l0_0.length c0_0, .slice A0_1 l0_1.length c0_1]] (by rfl) rfl rfl q1_ ?_
      with_reducible refine (laws_toWeave.calls k _ _ l0_0 _ _ l0_1 t379 t382 _ ?side1 ?side2 ?side3 ?side4 A13.out).mono ?_
      (case side1 => exact q3_)
      (case side2 => exact HC0_0.out)
      (case side3 => exact q4_)
      (case side4 => exact HC0_1.out)
      rintro e w54 ⟨v380, v383, rfl, ho0, ho1, hb⟩
      refine ⟨_, rfl, ?_⟩
      have n0_ := Aside0.mk (Kd.S_elder' q13_ (Kd.S_base ho0) hb)
      have n1_ := Aside0.mk (Kd.S_elder' q14_ (Kd.S_base ho1) hb)
      have n2_ := Aside0.mk (Kd.S_elder' q38_ (Kd.S_base ho0) hb)
      have n3_ := Aside0.mk (Kd.S_elder' q39_ (Kd.S_base ho1) hb)
      have n4_ := Aside0.mk (Kd.S_lower (Kd.S_new' (Kd.S_new' ho0 (Kd.S_lt q13_)) (Kd.S_lt q38_)) (below_size q11_))
      have n5_ := Aside0.mk (Kd.S_lower (Kd.S_new' (Kd.S_new' ho1 (Kd.S_lt q14_)) (Kd.S_lt q39_)) (below_size q11_))
      have n6_ := Aside0.mk (blk_below (g := gb362) (o := .cells #[.slice A0_0 l0_0.length c0_0, .slice A0_1 l0_1.length c0_1] 25 (0, 0)) q8_ hb)
      have n7_ := Aside0.mk (blk_below (g := gb377) (o := .cells #[.slice Ao48 t371.length co48, .slice Ao51 t374.length co51] 30 (0, 0)) (by (with_reducible repeat (first | refine blk_drewN ?_ _ | refine blk_drew ?_ | refine blk_alloc ?_ _)); exact BK377.out) hb)
      have n8_ := Aside0.mk (below_step q11_ hb)
      clear HO366
      clear HO369
      clear HO373
      clear HO376
      clear BK362
      clear BK377
      clear HB
      have HO366 := n0_
      have HO369 := n1_
      have HO373 := n2_
      have HO376 := n3_
      have HO381 := n4_
      have HO384 := n5_
      have BK362 := n6_
      have BK377 := n7_
      have HB := n8_
      clear n0_ n1_ n2_ n3_ n4_ n5_ n6_ n7_ n8_
      (try clear hb)
      (try clear hb2)
      (try clear hk)
      (try clear hi)
      (try clear ho0)
      (try clear ho1)
      obtain ⟨Ao55, co55, eo55⟩ := Kd.S_slice HO381.out
      (first | subst eo55 | (injection eo55 with f1_ f2_ f3_; have f4_ := f1_.symm; have f5_ := f3_.symm; clear f1_ f2_ f3_; subst f4_; subst f5_))
      obtain ⟨Ao56, co56, eo56⟩ := Kd.S_slice HO384.out
      (first | subst eo56 | (injection eo56 with f1_ f2_ f3_; have f4_ := f1_.symm; have f5_ := f3_.symm; clear f1_ f2_ f3_; subst f4_; subst f5_))
      refine hK.out _ _ ⟨(blk_cell BK377.out 0).trans rfl, (blk_cell BK377.out 1).trans rfl, (blk_cell BK362.out 0).trans rfl, (blk_cell BK362.out 1).trans rfl⟩ (fun hHeld => ?_)
      clear hK K
      refine norm_ (a' := ?_) ?_ ?_
      rotate_left
      ·show Act.put _ (some 28) _ = _
       simp only [Act.put, List.setIfInBounds_toArray, List.set_cons_zero, List.set_cons_succ, i64_w, i32_w]
       rfl
      refine one_ (i := 3) (N := some 29) #[true, true, true, true, false] rfl rfl (by kernel_rfl) (by decide) (fun K hK => ?_)
      refine goes_ Try.func18 (by kernel_rfl) rfl #[.agg #[.slice Ao48 t371.length co48, .slice Ao51 t374.length co51], .agg #[.slice Ao55 t379.length co55, .slice Ao56 t382.length co56]] (by rfl) rfl rfl q1_ ?_
      with_reducible refine (laws_eqWeave.calls k _ _ t371 _ _ t374 _ _ t379 _ _ t382 false _ ?side1 ?side2 ?side3 ?side4 ?side5 ?side6 ?side7 ?side8 A14.out).mono ?_
      (case side1 => exact (by repeat (first | exact (Kd.S_reads' HO373.out).2.2 | (with_reducible refine Kd.C_alloc ?_ _) | (with_reducible refine Kd.C_drewN ?_ _) | (with_reducible refine Kd.C_drew ?_))))
      (case side2 => exact (Kd.S_reads' HO373.out).2.1)
      (case side3 => exact (by repeat (first | exact (Kd.S_reads' HO376.out).2.2 | (with_reducible refine Kd.C_alloc ?_ _) | (with_reducible refine Kd.C_drewN ?_ _) | (with_reducible refine Kd.C_drew ?_))))
      (case side4 => exact (Kd.S_reads' HO376.out).2.1)
      (case side5 => exact (by repeat (first | exact (Kd.S_reads' HO381.out).2.2 | (with_reducible refine Kd.C_alloc ?_ _) | (with_reducible refine Kd.C_drewN ?_ _) | (with_reducible refine Kd.C_drew ?_))))
      (case side6 => exact (Kd.S_reads' HO381.out).2.1)
      (case side7 => exact (by repeat (first | exact (Kd.S_reads' HO384.out).2.2 | (with_reducible refine Kd.C_alloc ?_ _) | (with_reducible refine Kd.C_drewN ?_ _) | (with_reducible refine Kd.C_drew ?_))))
      (case side8 => exact (Kd.S_reads' HO384.out).2.1)
      rintro e w57 ⟨rfl, hb⟩
      refine ⟨_, rfl, ?_⟩
      have n0_ := Aside0.mk (Kd.S_below q13_ hb)
      have n1_ := Aside0.mk (Kd.S_below q14_ hb)
      have n2_ := Aside0.mk (Kd.S_below q38_ hb)
      have n3_ := Aside0.mk (Kd.S_below q39_ hb)
      have n4_ := Aside0.mk (Kd.S_below (by (with_reducible repeat (first | apply Kd.S_alloc | apply Kd.S_drewN | apply Kd.S_drew)); exact HO381.out) hb)
      have n5_ := Aside0.mk (Kd.S_below (by (with_reducible repeat (first | apply Kd.S_alloc | apply Kd.S_drewN | apply Kd.S_drew)); exact HO384.out) hb)
      have n6_ := Aside0.mk (blk_below (g := gb362) (o := .cells #[.slice A0_0 l0_0.length c0_0, .slice A0_1 l0_1.length c0_1] 25 (0, 0)) q8_ hb)
      have n7_ := Aside0.mk (blk_below (g := gb377) (o := .cells #[.slice Ao48 t371.length co48, .slice Ao51 t374.length co51] 30 (0, 0)) (by (with_reducible repeat (first | refine blk_drewN ?_ _ | refine blk_drew ?_ | refine blk_alloc ?_ _)); exact BK377.out) hb)
      have n8_ := Aside0.mk (below_step q11_ hb)
      clear HO366
      clear HO369
      clear HO373
      clear HO376
      clear HO381
      clear HO384
      clear BK362
      clear BK377
      clear HB
      have HO366 := n0_
      have HO369 := n1_
      have HO373 := n2_
      have HO376 := n3_
      have HO381 := n4_
      have HO384 := n5_
      have BK362 := n6_
      have BK377 := n7_
      have HB := n8_
      clear n0_ n1_ n2_ n3_ n4_ n5_ n6_ n7_ n8_
      (try clear hb)
      (try clear hb2)
      (try clear hk)
      (try clear hi)
      refine hK.out _ _ ⟨(blk_cell BK377.out 0).trans rfl, (blk_cell BK377.out 1).trans rfl, (blk_cell BK362.out 0).trans rfl, (blk_cell BK362.out 1).trans rfl⟩ (fun hHeld => ?_)
      clear hK K
      refine norm_ (a' := ?_) ?_ ?_
      rotate_left
      ·show Act.put _ (some 29) _ = _
       simp only [Act.put, List.setIfInBounds_toArray, List.set_cons_zero, List.set_cons_succ, i64_w, i32_w]
       rfl
      refine pure_ (i := 4) (N := some 30) (v := ?_) (a' := ?_) #[true, true, true, true, true] rfl rfl (by kernel_rfl) (fun _ _ _ h => h) (Or.inl ⟨by rfl, ?_⟩) ?_ ?_
      rotate_left; exact pw_; rotate_left; exact pz_
      refine done_ (by kernel_rfl) ?_
      try go_wp2
      go_ret
      exact ⟨by first | rfl | (simp [errW_none, errW_some] <;> rfl) | (simp [*, errW_none, errW_some] <;> rfl), by repeat (first | (with_reducible first | exact HB.out | apply below_alloc | apply pw_below_drewN | apply below_drew1 | refine below_set ?_ GE362.out | refine below_set ?_ GE377.out) | exact HB.out)⟩
    ·rw [if_neg c12] at H
     have c12b0 : (t378 == t370) = false := beq_eq_false_iff_ne.mpr c12
     have c12b1 : (t378 != t370) = true := bne_iff_ne.mpr c12
     obtain rfl := Option.some.inj H
     go_enter Try.func6, Try.ntmps6
     go_wp2_with (first | ((with_reducible refine gate_dst (N := 2) rfl ?_); refine box_event ?hg (N := 2) ?hd (cs := #[.slice A0_0 l0_0.length c0_0, .slice A0_1 l0_1.length c0_1]) (t := 25) ?hr ?_; (case hd => rfl); (case hg => rfl); (case hr => first | (go_simp; done) | (go_simp; rfl)); intro gb362 hg w58 hbox hb; have n0_ := Aside0.mk (below_step q0_ hb); have n1_ := Aside0.mk (hbox); have n2_ := Aside0.mk ((by rw [hg]; exact (below_size q0_) : w.heap.size ≤ gb362)); have n3_ := Aside0.mk ((by rw [hg]; exact (below_size q0_) : w.heap.size ≤ gb362)); clear HB; have HB := n0_; have BK362 := n1_; have GW362 := n2_; have GE362 := n3_; clear n0_ n1_ n2_ n3_; clear hb hbox hg; have hcz59_0 : w58.cell? ⟨gb362, 0, none⟩ = some (.slice A0_0 l0_0.length c0_0) := (blk_cell BK362.out 0).trans rfl; have hcz59_1 : w58.cell? ⟨gb362, 1, none⟩ = some (.slice A0_1 l0_1.length c0_1) := (blk_cell BK362.out 1).trans rfl; have hfz59_0 := blk_frozen BK362.out 0; have hfz59_1 := blk_frozen BK362.out 1) | ((with_reducible refine gate_callee (f := 14) rfl ?_); refine goesL_ (some 11) rfl rfl Try.func14 (by kernel_rfl) rfl #[.agg #[.slice A0_0 l0_0.length c0_0, .slice A0_1 l0_1.length c0_1], .int .i64 1048576] rfl q1_ ?_; (with_reducible refine (laws_szWeave.calls k _ _ l0_0 _ _ l0_1 1048576 t363 _ ?side1 ?side2 ?side3 ?side4 A3.out).mono ?_); (case side1 => exact q3_); (case side2 => exact HC0_0.out); (case side3 => exact q4_); (case side4 => exact HC0_1.out); rintro e w60 ⟨rfl, hb⟩; refine ⟨_, rfl, ?_⟩; have n0_ := Aside0.mk (blk_below (g := gb362) (o := .cells #[.slice A0_0 l0_0.length c0_0, .slice A0_1 l0_1.length c0_1] 25 (0, 0)) q8_ hb); have n1_ := Aside0.mk (below_step q5_ hb); clear BK362; clear HB; have BK362 := n0_; have HB := n1_; clear n0_ n1_; (try clear hb); (try clear hb2); (try clear hk); (try clear hi); have hcz61_0 : w60.cell? ⟨gb362, 0, none⟩ = some (.slice A0_0 l0_0.length c0_0) := (blk_cell BK362.out 0).trans rfl; have hcz61_1 : w60.cell? ⟨gb362, 1, none⟩ = some (.slice A0_1 l0_1.length c0_1) := (blk_cell BK362.out 1).trans rfl; have hfz61_0 := blk_frozen BK362.out 0; have hfz61_1 := blk_frozen BK362.out 1) | ((with_reducible refine gate_callee (f := 16) rfl ?_); refine goesL_ (some 15) rfl rfl Try.func16 (by kernel_rfl) rfl #[.agg #[.slice A0_0 l0_0.length c0_0, .slice A0_1 l0_1.length c0_1]] rfl q1_ ?_; (with_reducible refine (laws_toWeave.calls k _ _ l0_0 _ _ l0_1 t364 t367 _ ?side1 ?side2 ?side3 ?side4 A8.out).mono ?_); (case side1 => exact q3_); (case side2 => exact HC0_0.out); (case side3 => exact q4_); (case side4 => exact HC0_1.out); rintro e w62 ⟨v365, v368, rfl, ho0, ho1, hb⟩; refine ⟨_, rfl, ?_⟩; have n0_ := Aside0.mk (Kd.S_lower ho0 (below_size q5_)); have n1_ := Aside0.mk (Kd.S_lower ho1 (below_size q5_)); have n2_ := Aside0.mk (blk_below (g := gb362) (o := .cells #[.slice A0_0 l0_0.length c0_0, .slice A0_1 l0_1.length c0_1] 25 (0, 0)) q8_ hb); have n3_ := Aside0.mk (below_step q5_ hb); clear BK362; clear HB; have HO366 := n0_; have HO369 := n1_; have BK362 := n2_; have HB := n3_; clear n0_ n1_ n2_ n3_; (try clear hb); (try clear hb2); (try clear hk); (try clear hi); (try clear ho0); (try clear ho1); obtain ⟨Ao63, co63, eo63⟩ := Kd.S_slice HO366.out; subst eo63; obtain ⟨Ao64, co64, eo64⟩ := Kd.S_slice HO369.out; subst eo64) | ((with_reducible refine gate_callee (f := 28) rfl ?_); refine goesL_ (some 17) rfl rfl Try.func28 (by kernel_rfl) rfl #[.agg #[.slice Ao63 t364.length co63, .slice Ao64 t367.length co64], .int .i64 a1] rfl q1_ ?_; (with_reducible refine (spec_Oldest.calls k _ _ t364 _ _ t367 a1 t370 _ ?side1 ?side2 ?side3 ?side4 A9.out).mono ?_); (case side1 => exact (by repeat (first | exact (Kd.S_reads' HO366.out).2.2 | (with_reducible refine Kd.C_alloc ?_ _) | (with_reducible refine Kd.C_drewN ?_ _) | (with_reducible refine Kd.C_drew ?_)))); (case side2 => exact (Kd.S_reads' HO366.out).2.1); (case side3 => exact (by repeat (first | exact (Kd.S_reads' HO369.out).2.2 | (with_reducible refine Kd.C_alloc ?_ _) | (with_reducible refine Kd.C_drewN ?_ _) | (with_reducible refine Kd.C_drew ?_)))); (case side4 => exact (Kd.S_reads' HO369.out).2.1); rintro e w65 ⟨rfl, hb⟩; refine ⟨_, rfl, ?_⟩; have n0_ := Aside0.mk (Kd.S_below q13_ hb); have n1_ := Aside0.mk (Kd.S_below q14_ hb); have n2_ := Aside0.mk (blk_below (g := gb362) (o := .cells #[.slice A0_0 l0_0.length c0_0, .slice A0_1 l0_1.length c0_1] 25 (0, 0)) q8_ hb); have n3_ := Aside0.mk (below_step q5_ hb); clear HO366; clear HO369; clear BK362; clear HB; have HO366 := n0_; have HO369 := n1_; have BK362 := n2_; have HB := n3_; clear n0_ n1_ n2_ n3_; (try clear hb); (try clear hb2); (try clear hk); (try clear hi); have hcz66_0 : w65.cell? ⟨gb362, 0, none⟩ = some (.slice A0_0 l0_0.length c0_0) := (blk_cell BK362.out 0).trans rfl; have hcz66_1 : w65.cell? ⟨gb362, 1, none⟩ = some (.slice A0_1 l0_1.length c0_1) := (blk_cell BK362.out 1).trans rfl; have hfz66_0 := blk_frozen BK362.out 0; have hfz66_1 := blk_frozen BK362.out 1) | ((with_reducible refine gate_callee (f := 16) rfl ?_); refine goesL_ (some 19) rfl rfl Try.func16 (by kernel_rfl) rfl #[.agg #[.slice A0_0 l0_0.length c0_0, .slice A0_1 l0_1.length c0_1]] rfl q1_ ?_; (with_reducible refine (laws_toWeave.calls k _ _ l0_0 _ _ l0_1 t371 t374 _ ?side1 ?side2 ?side3 ?side4 A10.out).mono ?_); (case side1 => exact q3_); (case side2 => exact HC0_0.out); (case side3 => exact q4_); (case side4 => exact HC0_1.out); rintro e w67 ⟨v372, v375, rfl, ho0, ho1, hb⟩; refine ⟨_, rfl, ?_⟩; have n0_ := Aside0.mk (Kd.S_elder' q13_ (Kd.S_base ho0) hb); have n1_ := Aside0.mk (Kd.S_elder' q14_ (Kd.S_base ho1) hb); have n2_ := Aside0.mk (Kd.S_lower (Kd.S_new' ho0 (Kd.S_lt q13_)) (below_size q5_)); have n3_ := Aside0.mk (Kd.S_lower (Kd.S_new' ho1 (Kd.S_lt q14_)) (below_size q5_)); have n4_ := Aside0.mk (blk_below (g := gb362) (o := .cells #[.slice A0_0 l0_0.length c0_0, .slice A0_1 l0_1.length c0_1] 25 (0, 0)) q8_ hb); have n5_ := Aside0.mk (below_step q5_ hb); clear HO366; clear HO369; clear BK362; clear HB; have HO366 := n0_; have HO369 := n1_; have HO373 := n2_; have HO376 := n3_; have BK362 := n4_; have HB := n5_; clear n0_ n1_ n2_ n3_ n4_ n5_; (try clear hb); (try clear hb2); (try clear hk); (try clear hi); (try clear ho0); (try clear ho1)) | ((with_reducible refine gate_dst (N := 7) rfl ?_); refine box_event ?hg (N := 7) ?hd (cs := #[.slice none 0 0, .slice none 0 0]) (t := 30) ?hr ?_; (case hd => rfl); (case hg => rfl); (case hr => first | (go_simp; done) | (go_simp; rfl)); intro gb377 hg w68 hbox hb; have n0_ := Aside0.mk (Kd.S_below q13_ hb); have n1_ := Aside0.mk (Kd.S_below q14_ hb); have n2_ := Aside0.mk (Kd.S_below q38_ hb); have n3_ := Aside0.mk (Kd.S_below q39_ hb); have n4_ := Aside0.mk (blk_below (g := gb362) (o := .cells #[.slice A0_0 l0_0.length c0_0, .slice A0_1 l0_1.length c0_1] 25 (0, 0)) q8_ hb); have n5_ := Aside0.mk (below_step q5_ hb); have n6_ := Aside0.mk (hbox); have n7_ := Aside0.mk ((by rw [hg]; exact (below_size q5_) : w.heap.size ≤ gb377)); have n8_ := Aside0.mk ((by rw [hg]; exact (below_size q5_) : w.heap.size ≤ gb377)); have n9_ := Aside0.mk ((by rw [hg]; exact Nat.ne_of_lt (blk_lt (g := gb362) (o := .cells #[.slice A0_0 l0_0.length c0_0, .slice A0_1 l0_1.length c0_1] 25 (0, 0)) q8_) : gb362 ≠ gb377)); have n10_ := Aside0.mk ((by rw [hg]; exact Nat.ne_of_gt (blk_lt (g := gb362) (o := .cells #[.slice A0_0 l0_0.length c0_0, .slice A0_1 l0_1.length c0_1] 25 (0, 0)) q8_) : gb377 ≠ gb362)); clear HO366; clear HO369; clear HO373; clear HO376; clear BK362; clear HB; have HO366 := n0_; have HO369 := n1_; have HO373 := n2_; have HO376 := n3_; have BK362 := n4_; have HB := n5_; have BK377 := n6_; have GW377 := n7_; have GE377 := n8_; have NB362_377 := n9_; have NB377_362 := n10_; clear n0_ n1_ n2_ n3_ n4_ n5_ n6_ n7_ n8_ n9_ n10_; clear hb hbox hg; obtain ⟨Ao69, co69, eo69⟩ := Kd.S_slice HO373.out; subst eo69; have hnb70 := NB377_362.out; have hnc70 := NB362_377.out; have hcz71_0 : w68.cell? ⟨gb377, 0, none⟩ = some (.slice none 0 0) := (blk_cell BK377.out 0).trans rfl; have hcz71_1 : w68.cell? ⟨gb377, 1, none⟩ = some (.slice none 0 0) := (blk_cell BK377.out 1).trans rfl; have hfz71_0 := blk_frozen BK377.out 0; have hfz71_1 := blk_frozen BK377.out 1; obtain ⟨Ao72, co72, eo72⟩ := Kd.S_slice HO376.out; subst eo72) | ((with_reducible refine gate_callee (f := 29) rfl ?_); refine goesL_ (some 22) rfl rfl Try.func29 (by kernel_rfl) rfl #[.agg #[.slice Ao69 t371.length co69, .slice Ao72 t374.length co72], .int .i64 a1] rfl q1_ ?_; (with_reducible refine (impl_Oldest.calls k _ _ t371 _ _ t374 a1 t378 _ ?side1 ?side2 ?side3 ?side4 A11.out).mono ?_); (case side1 => refine (Kd.S_reads' (e := 36) (base := w.heap.size) (ok := fun k_ => (True ∧ some k_ ≠ (.slice Ao63 t364.length co63 : Value).ownBlock)) (n := t371.length) (c := co69) ?_).2.2; exact (by (with_reducible repeat (first | apply Kd.S_alloc | apply Kd.S_drewN | apply Kd.S_drew)); exact (Kd.S_mono (Kd.S_far (p := ⟨gb377, 1, none⟩) (Kd.S_far (p := ⟨gb377, 0, none⟩) (Kd.S_types HO373.out BK377.out (by decide)) (fun _ hk => hk.2) (.slice Ao69 t371.length co69)) (fun _ hk => hk.2) (.slice Ao72 t374.length co72)) (fun _ h_ => h_.1)))); (case side2 => exact (Kd.S_reads' HO373.out).2.1); (case side3 => refine (Kd.S_reads' (e := 68) (base := w.heap.size) (ok := fun k_ => (True ∧ some k_ ≠ (.slice Ao64 t367.length co64 : Value).ownBlock)) (n := t374.length) (c := co72) ?_).2.2; exact (by (with_reducible repeat (first | apply Kd.S_alloc | apply Kd.S_drewN | apply Kd.S_drew)); exact (Kd.S_mono (Kd.S_far (p := ⟨gb377, 1, none⟩) (Kd.S_far (p := ⟨gb377, 0, none⟩) (Kd.S_types HO376.out BK377.out (by decide)) (fun _ hk => hk.2) (.slice Ao69 t371.length co69)) (fun _ hk => hk.2) (.slice Ao72 t374.length co72)) (fun _ h_ => h_.1)))); (case side4 => exact (Kd.S_reads' HO376.out).2.1); rintro e w73 ⟨rfl, hb⟩; refine ⟨_, rfl, ?_⟩; have n0_ := Aside0.mk (Kd.S_below (by (with_reducible repeat (first | apply Kd.S_alloc | apply Kd.S_drewN | apply Kd.S_drew)); exact (Kd.S_mono (Kd.S_far (p := ⟨gb377, 1, none⟩) (Kd.S_far (p := ⟨gb377, 0, none⟩) (Kd.S_types HO366.out BK377.out (by decide)) (fun _ hk => hk.2) (.slice Ao69 t371.length co69)) (fun _ hk => hk.2) (.slice Ao72 t374.length co72)) (fun _ h_ => h_.1))) hb); have n1_ := Aside0.mk (Kd.S_below (by (with_reducible repeat (first | apply Kd.S_alloc | apply Kd.S_drewN | apply Kd.S_drew)); exact (Kd.S_mono (Kd.S_far (p := ⟨gb377, 1, none⟩) (Kd.S_far (p := ⟨gb377, 0, none⟩) (Kd.S_types HO369.out BK377.out (by decide)) (fun _ hk => hk.2) (.slice Ao69 t371.length co69)) (fun _ hk => hk.2) (.slice Ao72 t374.length co72)) (fun _ h_ => h_.1))) hb); have n2_ := Aside0.mk (Kd.S_below (by (with_reducible repeat (first | apply Kd.S_alloc | apply Kd.S_drewN | apply Kd.S_drew)); exact (Kd.S_mono (Kd.S_far (p := ⟨gb377, 1, none⟩) (Kd.S_far (p := ⟨gb377, 0, none⟩) (Kd.S_types HO373.out BK377.out (by decide)) (fun _ hk => hk.2) (.slice Ao69 t371.length co69)) (fun _ hk => hk.2) (.slice Ao72 t374.length co72)) (fun _ h_ => h_.1))) hb); have n3_ := Aside0.mk (Kd.S_below (by (with_reducible repeat (first | apply Kd.S_alloc | apply Kd.S_drewN | apply Kd.S_drew)); exact (Kd.S_mono (Kd.S_far (p := ⟨gb377, 1, none⟩) (Kd.S_far (p := ⟨gb377, 0, none⟩) (Kd.S_types HO376.out BK377.out (by decide)) (fun _ hk => hk.2) (.slice Ao69 t371.length co69)) (fun _ hk => hk.2) (.slice Ao72 t374.length co72)) (fun _ h_ => h_.1))) hb); have n4_ := Aside0.mk (blk_below (g := gb362) (o := .cells #[.slice A0_0 l0_0.length c0_0, .slice A0_1 l0_1.length c0_1] 25 (0, 0)) q30_ hb); have n5_ := Aside0.mk (blk_below (g := gb377) (o := .cells #[.slice Ao69 t371.length co69, .slice Ao72 t374.length co72] 30 (0, 0)) (by (with_reducible repeat (first | refine blk_drewN ?_ _ | refine blk_drew ?_ | refine blk_alloc ?_ _)); refine blk_put (cs := #[.slice Ao69 t371.length co69, .slice none 0 0]) ?_ 1 _ rfl; (with_reducible repeat (first | refine blk_drewN ?_ _ | refine blk_drew ?_ | refine blk_alloc ?_ _)); refine blk_put (cs := #[.slice none 0 0, .slice none 0 0]) ?_ 0 _ rfl; (with_reducible repeat (first | refine blk_drewN ?_ _ | refine blk_drew ?_ | refine blk_alloc ?_ _)); exact BK377.out) hb); have n6_ := Aside0.mk (below_step q11_ hb); clear HO366; clear HO369; clear HO373; clear HO376; clear BK362; clear BK377; clear HB; have HO366 := n0_; have HO369 := n1_; have HO373 := n2_; have HO376 := n3_; have BK362 := n4_; have BK377 := n5_; have HB := n6_; clear n0_ n1_ n2_ n3_ n4_ n5_ n6_; (try clear hb); (try clear hb2); (try clear hk); (try clear hi)))
     go_ret
     exact ⟨by first | rfl | (simp [errW_none, errW_some] <;> rfl) | (simp [*, errW_none, errW_some] <;> rfl), by repeat (first | (with_reducible first | exact HB.out | apply below_alloc | apply pw_below_drewN | apply below_drew1 | refine below_set ?_ GE362.out | refine below_set ?_ GE377.out) | exact HB.out)⟩
/-- What is left of laws_FnExactOldest. -/
def laws_FnExactOldest.Pure : Prop := ∀ (l0_0 : List (List Int)) (l0_1 : List (S109)), ∀ (a1 : Int), (l0_0.length * 24 ≤ 140737488351232 ∧ ∀ x0 ∈ l0_0, x0.length * 8 ≤ 140737488351232 ∧ ∀ x1 ∈ x0, (Lit.int .i64 x1).wf = true) → (l0_1.length * 56 ≤ 140737488351232 ∧ ∀ x0 ∈ l0_1, (x0.f0.size ≤ 140737488351232) ∧ ((Lit.int .i64 x0.f1).wf = true) ∧ ((Lit.int .i64 x0.f2).wf = true) ∧ (x0.f3.length * 8 ≤ 140737488351232 ∧ ∀ x1 ∈ x0.f3, (Lit.int .i64 x1).wf = true)) → ((Lit.int .i64 a1).wf = true) → ∃ k, laws_FnExactOldest.f k l0_0 l0_1 a1 = some true

end Go.Proofs.Ytcgelllmdcnmfaa.PFnExactOldest
-- (flat)
-- (thin)
