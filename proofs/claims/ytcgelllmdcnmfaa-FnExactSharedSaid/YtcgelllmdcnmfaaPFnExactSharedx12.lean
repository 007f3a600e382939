-- Made by a program (the kit's print with additions of this session: wip/tools/patch_print.py, ext.py).
import Derived.Test.YtcgelllmdcnmfaaPFnExactSharedx0
import Derived.Test.YtcgelllmdcnmfaaPFnExactSharedx1
import Derived.Test.YtcgelllmdcnmfaaPFnExactSharedx2
import Derived.Test.YtcgelllmdcnmfaaPFnExactSharedx3
import Derived.Test.YtcgelllmdcnmfaaPFnExactSharedx7
import Derived.Test.YtcgelllmdcnmfaaPFnExactSharedx11
namespace Go.Proofs.Ytcgelllmdcnmfaa.PFnExactShared
open Go.RowKit Go.Proofs.YtcgelllmdcnmfaaW.PrintWords Go.Proofs.YtcgelllmdcnmfaaW.PrintLast Go.Proofs.YtcgelllmdcnmfaaW.PrintMore
attribute [local go_sem] max2_int min2_int max_two min_two max_three min_three max_four min_four   -- for this text's walks alone
set_option linter.unusedVariables false
set_option linter.unusedSimpArgs false

/-! ### laws_FnExactShared: function 4 -/
def laws_FnExactShared.f (k : Nat) (l0_0 : List (List Int)) (l0_1 : List (S109)) (a1 : Int) (a2 : Int) : Option (Bool) := (laws_szWeave.f k l0_0 l0_1 1048576).bind fun t329 => (if t329 < 0 then (some true) else ((laws_toWeave.f k l0_0 l0_1).bind fun bt330 => ((spec_Shared.f k bt330.1 bt330.2 a1 a2).bind fun t336 => ((laws_toWeave.f k l0_0 l0_1).bind fun bt337 => ((impl_Shared.f k bt337.1 bt337.2 a1 a2).bind fun t344 => (if t344 = t336 then ((laws_toWeave.f k l0_0 l0_1).bind fun bt345 => ((laws_eqWeave.f k bt337.1 bt337.2 bt345.1 bt345.2).bind fun t351 => (if t351 = true then (some true) else (some false)))) else (some false)))))))
theorem laws_FnExactShared.mono : ∀ a0 a1 a2 a3 k, LeO (laws_FnExactShared.f k a0 a1 a2 a3) (laws_FnExactShared.f (k + 1) a0 a1 a2 a3) := by
  intro a0 a1 a2 a3 k
  unfold laws_FnExactShared.f
  repeat' first
     | (with_reducible exact impl_Shared.mono _ _ _ _ _)
     | (with_reducible exact laws_eqWeave.mono _ _ _ _ _)
     | (with_reducible exact laws_szWeave.mono _ _ _ _)
     | (with_reducible exact laws_toWeave.mono _ _ _)
     | (with_reducible exact spec_Shared.mono _ _ _ _ _)
     | (with_reducible exact LeO.refl _)
     | (with_reducible exact LeO.none _)
     | (with_reducible refine LeO.ite ?_ ?_)
     | (with_reducible refine LeO.bind ?_ (fun _ => ?_))
     | exact impl_Shared.mono _ _ _ _ _
     | exact laws_eqWeave.mono _ _ _ _ _
     | exact laws_szWeave.mono _ _ _ _
     | exact laws_toWeave.mono _ _ _
     | exact spec_Shared.mono _ _ _ _ _
     | exact LeO.none _
     | refine LeO.ite ?_ ?_
     | refine LeO.bind ?_ (fun _ => ?_)
set_option maxHeartbeats 8000000 in
set_option maxRecDepth 100000 in
theorem laws_FnExactShared.calls (k : Nat) (A0_0 : Option Addr) (c0_0 : Nat) (l0_0 : List (List Int)) (A0_1 : Option Addr) (c0_1 : Nat) (l0_1 : List (S109)) (a1 : Int) (a2 : Int) (r : Bool) (w : World) (hr0_0 : Kd.C (Kd.slice 3 (Kd.int .i64)) w A0_0 l0_0.length l0_0) (hc0_0 : l0_0.length ≤ c0_0) (hr0_1 : Kd.C k109 w A0_1 l0_1.length l0_1) (hc0_1 : l0_1.length ≤ c0_1) (h : laws_FnExactShared.f k l0_0 l0_1 a1 a2 = some r) :
    Calls Try.prog 4 #[.agg #[.slice A0_0 l0_0.length c0_0, .slice A0_1 l0_1.length c0_1], .int .i64 a1, .int .i64 a2] w fun e w' => e = .returned (.bool r) ∧ Below w.heap.size w w' := by
  have hu25 := Try.underlying25
  have hu30 := Try.underlying30
  have HR0_0 := Aside0.mk hr0_0
  have HC0_0 := Aside0.mk hc0_0
  clear hr0_0 hc0_0
  have HR0_1 := Aside0.mk hr0_1
  have HC0_1 := Aside0.mk hc0_1
  clear hr0_1 hc0_1
  have HB := Aside0.mk (Below.refl w.heap.size w)
  have H : ((laws_szWeave.f k l0_0 l0_1 1048576).bind fun t329 => (if t329 < 0 then (some true) else ((laws_toWeave.f k l0_0 l0_1).bind fun bt330 => ((spec_Shared.f k bt330.1 bt330.2 a1 a2).bind fun t336 => ((laws_toWeave.f k l0_0 l0_1).bind fun bt337 => ((impl_Shared.f k bt337.1 bt337.2 a1 a2).bind fun t344 => (if t344 = t336 then ((laws_toWeave.f k l0_0 l0_1).bind fun bt345 => ((laws_eqWeave.f k bt337.1 bt337.2 bt345.1 bt345.2).bind fun t351 => (if t351 = true then (some true) else (some false)))) else (some false)))))))) = some r := h
  clear h
  replace H := Option.bind_eq_some_iff.mp H
  obtain ⟨t329, A40, H⟩ := H
  replace H : (if t329 < 0 then (some true) else ((laws_toWeave.f k l0_0 l0_1).bind fun bt330 => ((spec_Shared.f k bt330.1 bt330.2 a1 a2).bind fun t336 => ((laws_toWeave.f k l0_0 l0_1).bind fun bt337 => ((impl_Shared.f k bt337.1 bt337.2 a1 a2).bind fun t344 => (if t344 = t336 then ((laws_toWeave.f k l0_0 l0_1).bind fun bt345 => ((laws_eqWeave.f k bt337.1 bt337.2 bt345.1 bt345.2).bind fun t351 => (if t351 = true then (some true) else (some false)))) else (some false))))))) = some r := H
  have A4 := Aside0.mk A40
  clear A40
  by_cases c5 : t329 < 0
  · rw [if_pos c5] at H
    have c5b0 : decide (t329 < 0) = true := decide_eq_true c5
    clear c5
    obtain rfl := Option.some.inj H
    go_enter Try.func4, Try.ntmps4
    go_wp2_with (first | ((with_reducible refine gate_dst (N := 3) rfl ?_); refine box_event ?hg (N := 3) ?hd (cs := #[.slice A0_0 l0_0.length c0_0, .slice A0_1 l0_1.length c0_1]) (t := 25) ?hr ?_; (case hd => rfl); (case hg => rfl); (case hr => first | (go_simp; done) | (go_simp; rfl)); intro gb328 hg w6 hbox hb; have n0_ := Aside0.mk (below_step q1_ hb); have n1_ := Aside0.mk (hbox); have n2_ := Aside0.mk ((by rw [hg]; exact (below_size q1_) : w.heap.size ≤ gb328)); have n3_ := Aside0.mk ((by rw [hg]; exact (below_size q1_) : w.heap.size ≤ gb328)); clear HB; have HB := n0_; have BK328 := n1_; have GW328 := n2_; have GE328 := n3_; clear n0_ n1_ n2_ n3_; clear hb hbox hg; have hcz7_0 : w6.cell? ⟨gb328, 0, none⟩ = some (.slice A0_0 l0_0.length c0_0) := (blk_cell BK328.out 0).trans rfl; have hcz7_1 : w6.cell? ⟨gb328, 1, none⟩ = some (.slice A0_1 l0_1.length c0_1) := (blk_cell BK328.out 1).trans rfl; have hfz7_0 := blk_frozen BK328.out 0; have hfz7_1 := blk_frozen BK328.out 1) | ((with_reducible refine gate_callee (f := 14) rfl ?_); refine goesL_ (some 13) rfl rfl Try.func14 (by kernel_rfl) rfl #[.agg #[.slice A0_0 l0_0.length c0_0, .slice A0_1 l0_1.length c0_1], .int .i64 1048576] rfl q0_ ?_; (with_reducible refine (laws_szWeave.calls k _ _ l0_0 _ _ l0_1 1048576 t329 _ ?side1 ?side2 ?side3 ?side4 A4.out).mono ?_); (case side1 => exact q3_); (case side2 => exact HC0_0.out); (case side3 => exact q4_); (case side4 => exact HC0_1.out); rintro e w8 ⟨rfl, hb⟩; refine ⟨_, rfl, ?_⟩; have n0_ := Aside0.mk (blk_below (g := gb328) (o := .cells #[.slice A0_0 l0_0.length c0_0, .slice A0_1 l0_1.length c0_1] 25 (0, 0)) q8_ hb); have n1_ := Aside0.mk (below_step q5_ hb); clear BK328; clear HB; have BK328 := n0_; have HB := n1_; clear n0_ n1_; (try clear hb); (try clear hb2); (try clear hk); (try clear hi)))
    go_ret
    exact ⟨by first | rfl | (simp [errW_none, errW_some] <;> rfl) | (simp [*, errW_none, errW_some] <;> rfl), by repeat (first | (with_reducible first | exact HB.out | apply below_alloc | apply pw_below_drewN | apply below_drew1 | refine below_set ?_ GE328.out) | exact HB.out)⟩
  · rw [if_neg c5] at H
    have c5b0 : decide (t329 < 0) = false := decide_eq_false c5
    clear c5
    replace H := Option.bind_eq_some_iff.mp H
    obtain ⟨⟨t330, t333⟩, A90, H⟩ := H
    replace H : ((spec_Shared.f k t330 t333 a1 a2).bind fun t336 => ((laws_toWeave.f k l0_0 l0_1).bind fun bt337 => ((impl_Shared.f k bt337.1 bt337.2 a1 a2).bind fun t344 => (if t344 = t336 then ((laws_toWeave.f k l0_0 l0_1).bind fun bt345 => ((laws_eqWeave.f k bt337.1 bt337.2 bt345.1 bt345.2).bind fun t351 => (if t351 = true then (some true) else (some false)))) else (some false))))) = some r := H
    have A9 := Aside0.mk A90
    clear A90
    replace H := Option.bind_eq_some_iff.mp H
    obtain ⟨t336, A100, H⟩ := H
    replace H : ((laws_toWeave.f k l0_0 l0_1).bind fun bt337 => ((impl_Shared.f k bt337.1 bt337.2 a1 a2).bind fun t344 => (if t344 = t336 then ((laws_toWeave.f k l0_0 l0_1).bind fun bt345 => ((laws_eqWeave.f k bt337.1 bt337.2 bt345.1 bt345.2).bind fun t351 => (if t351 = true then (some true) else (some false)))) else (some false)))) = some r := H
    have A10 := Aside0.mk A100
    clear A100
    replace H := Option.bind_eq_some_iff.mp H
    obtain ⟨⟨t337, t340⟩, A110, H⟩ := H
    replace H : ((impl_Shared.f k t337 t340 a1 a2).bind fun t344 => (if t344 = t336 then ((laws_toWeave.f k l0_0 l0_1).bind fun bt345 => ((laws_eqWeave.f k t337 t340 bt345.1 bt345.2).bind fun t351 => (if t351 = true then (some true) else (some false)))) else (some false))) = some r := H
    have A11 := Aside0.mk A110
    clear A110
    replace H := Option.bind_eq_some_iff.mp H
    obtain ⟨t344, A120, H⟩ := H
    replace H : (if t344 = t336 then ((laws_toWeave.f k l0_0 l0_1).bind fun bt345 => ((laws_eqWeave.f k t337 t340 bt345.1 bt345.2).bind fun t351 => (if t351 = true then (some true) else (some false)))) else (some false)) = some r := H
    have A12 := Aside0.mk A120
    clear A120
    by_cases c13 : t344 = t336
    ·rw [if_pos c13] at H
     have c13b0 : (t344 == t336) = true := beq_iff_eq.mpr c13
     have c13b1 : (t344 != t336) = false := bne_eq_false_iff_eq.mpr c13
     clear c13
     replace H := Option.bind_eq_some_iff.mp H
     obtain ⟨⟨t345, t348⟩, A140, H⟩ := H
     replace H : ((laws_eqWeave.f k t337 t340 t345 t348).bind fun t351 => (if t351 = true then (some true) else (some false))) = some r := H
     have A14 := Aside0.mk A140
     clear A140
     replace H := Option.bind_eq_some_iff.mp H
     obtain ⟨t351, A150, H⟩ := H
     replace H : (if t351 = true then (some true) else (some false)) = some r := H
     have A15 := Aside0.mk A150
     clear A150
     by_cases c16 : t351 = true
     ·subst c16
      have H1 : (some true) = some r := by rw [if_pos rfl] at H; exact H
      clear H
      have H := H1
      clear H1
      obtain rfl := Option.some.inj H
      go_enter Try.func4, Try.ntmps4
      try go_wp2_with (first | ((with_reducible refine gate_dst (N := 3) rfl ?_); refine box_event ?hg (N := 3) ?hd (cs := #[.slice A0_0 l0_0.length c0_0, .slice A0_1 l0_1.length c0_1]) (t := 25) ?hr ?_; (case hd => rfl); (case hg => rfl); (case hr => first | (go_simp; done) | (go_simp; rfl)); intro gb328 hg w17 hbox hb; have n0_ := Aside0.mk (below_step q1_ hb); have n1_ := Aside0.mk (hbox); have n2_ := Aside0.mk ((by rw [hg]; exact (below_size q1_) : w.heap.size ≤ gb328)); have n3_ := Aside0.mk ((by rw [hg]; exact (below_size q1_) : w.heap.size ≤ gb328)); clear HB; have HB := n0_; have BK328 := n1_; have GW328 := n2_; have GE328 := n3_; clear n0_ n1_ n2_ n3_; clear hb hbox hg; have hcz18_0 : w17.cell? ⟨gb328, 0, none⟩ = some (.slice A0_0 l0_0.length c0_0) := (blk_cell BK328.out 0).trans rfl; have hcz18_1 : w17.cell? ⟨gb328, 1, none⟩ = some (.slice A0_1 l0_1.length c0_1) := (blk_cell BK328.out 1).trans rfl; have hfz18_0 := blk_frozen BK328.out 0; have hfz18_1 := blk_frozen BK328.out 1) | ((with_reducible refine gate_callee (f := 14) rfl ?_); refine goesL_ (some 13) rfl rfl Try.func14 (by kernel_rfl) rfl #[.agg #[.slice A0_0 l0_0.length c0_0, .slice A0_1 l0_1.length c0_1], .int .i64 1048576] rfl q0_ ?_; (with_reducible refine (laws_szWeave.calls k _ _ l0_0 _ _ l0_1 1048576 t329 _ ?side1 ?side2 ?side3 ?side4 A4.out).mono ?_); (case side1 => exact q3_); (case side2 => exact HC0_0.out); (case side3 => exact q4_); (case side4 => exact HC0_1.out); rintro e w19 ⟨rfl, hb⟩; refine ⟨_, rfl, ?_⟩; have n0_ := Aside0.mk (blk_below (g := gb328) (o := .cells #[.slice A0_0 l0_0.length c0_0, .slice A0_1 l0_1.length c0_1] 25 (0, 0)) q8_ hb); have n1_ := Aside0.mk (below_step q5_ hb); clear BK328; clear HB; have BK328 := n0_; have HB := n1_; clear n0_ n1_; (try clear hb); (try clear hb2); (try clear hk); (try clear hi); have hcz20_0 : w19.cell? ⟨gb328, 0, none⟩ = some (.slice A0_0 l0_0.length c0_0) := (blk_cell BK328.out 0).trans rfl; have hcz20_1 : w19.cell? ⟨gb328, 1, none⟩ = some (.slice A0_1 l0_1.length c0_1) := (blk_cell BK328.out 1).trans rfl; have hfz20_0 := blk_frozen BK328.out 0; have hfz20_1 := blk_frozen BK328.out 1) | ((with_reducible refine gate_callee (f := 16) rfl ?_); refine goesL_ (some 17) rfl rfl Try.func16 (by kernel_rfl) rfl #[.agg #[.slice A0_0 l0_0.length c0_0, .slice A0_1 l0_1.length c0_1]] rfl q0_ ?_; (with_reducible refine (laws_toWeave.calls k _ _ l0_0 _ _ l0_1 t330 t333 _ ?side1 ?side2 ?side3 ?side4 A9.out).mono ?_); (case side1 => exact q3_); (case side2 => exact HC0_0.out); (case side3 => exact q4_); (case side4 => exact HC0_1.out); rintro e w21 ⟨v331, v334, rfl, ho0, ho1, hb⟩; refine ⟨_, rfl, ?_⟩; have n0_ := Aside0.mk (Kd.S_lower ho0 (below_size q5_)); have n1_ := Aside0.mk (Kd.S_lower ho1 (below_size q5_)); have n2_ := Aside0.mk (blk_below (g := gb328) (o := .cells #[.slice A0_0 l0_0.length c0_0, .slice A0_1 l0_1.length c0_1] 25 (0, 0)) q8_ hb); have n3_ := Aside0.mk (below_step q5_ hb); clear BK328; clear HB; have HO332 := n0_; have HO335 := n1_; have BK328 := n2_; have HB := n3_; clear n0_ n1_ n2_ n3_; (try clear hb); (try clear hb2); (try clear hk); (try clear hi); (try clear ho0); (try clear ho1); obtain ⟨Ao22, co22, eo22⟩ := Kd.S_slice HO332.out; subst eo22; obtain ⟨Ao23, co23, eo23⟩ := Kd.S_slice HO335.out; subst eo23) | ((with_reducible refine gate_callee (f := 19) rfl ?_); refine goesL_ (some 20) rfl rfl Try.func19 (by kernel_rfl) rfl #[.agg #[.slice Ao22 t330.length co22, .slice Ao23 t333.length co23], .int .i64 a1, .int .i64 a2] rfl q0_ ?_; (with_reducible refine (spec_Shared.calls k _ _ t330 _ _ t333 a1 a2 t336 _ ?side1 ?side2 ?side3 ?side4 A10.out).mono ?_); (case side1 => exact (by repeat (first | exact (Kd.S_reads' HO332.out).2.2 | (with_reducible refine Kd.C_alloc ?_ _) | (with_reducible refine Kd.C_drewN ?_ _) | (with_reducible refine Kd.C_drew ?_)))); (case side2 => exact (Kd.S_reads' HO332.out).2.1); (case side3 => exact (by repeat (first | exact (Kd.S_reads' HO335.out).2.2 | (with_reducible refine Kd.C_alloc ?_ _) | (with_reducible refine Kd.C_drewN ?_ _) | (with_reducible refine Kd.C_drew ?_)))); (case side4 => exact (Kd.S_reads' HO335.out).2.1); rintro e w24 ⟨rfl, hb⟩; refine ⟨_, rfl, ?_⟩; have n0_ := Aside0.mk (Kd.S_below q14_ hb); have n1_ := Aside0.mk (Kd.S_below q15_ hb); have n2_ := Aside0.mk (blk_below (g := gb328) (o := .cells #[.slice A0_0 l0_0.length c0_0, .slice A0_1 l0_1.length c0_1] 25 (0, 0)) q8_ hb); have n3_ := Aside0.mk (below_step q5_ hb); clear HO332; clear HO335; clear BK328; clear HB; have HO332 := n0_; have HO335 := n1_; have BK328 := n2_; have HB := n3_; clear n0_ n1_ n2_ n3_; (try clear hb); (try clear hb2); (try clear hk); (try clear hi); have hcz25_0 : w24.cell? ⟨gb328, 0, none⟩ = some (.slice A0_0 l0_0.length c0_0) := (blk_cell BK328.out 0).trans rfl; have hcz25_1 : w24.cell? ⟨gb328, 1, none⟩ = some (.slice A0_1 l0_1.length c0_1) := (blk_cell BK328.out 1).trans rfl; have hfz25_0 := blk_frozen BK328.out 0; have hfz25_1 := blk_frozen BK328.out 1) | ((with_reducible refine gate_callee (f := 16) rfl ?_); refine goesL_ (some 22) rfl rfl Try.func16 (by kernel_rfl) rfl #[.agg #[.slice A0_0 l0_0.length c0_0, .slice A0_1 l0_1.length c0_1]] rfl q0_ ?_; (with_reducible refine (laws_toWeave.calls k _ _ l0_0 _ _ l0_1 t337 t340 _ ?side1 ?side2 ?side3 ?side4 A11.out).mono ?_); (case side1 => exact q3_); (case side2 => exact HC0_0.out); (case side3 => exact q4_); (case side4 => exact HC0_1.out); rintro e w26 ⟨v338, v341, rfl, ho0, ho1, hb⟩; refine ⟨_, rfl, ?_⟩; have n0_ := Aside0.mk (Kd.S_elder' q14_ (Kd.S_base ho0) hb); have n1_ := Aside0.mk (Kd.S_elder' q15_ (Kd.S_base ho1) hb); have n2_ := Aside0.mk (Kd.S_lower (Kd.S_new' ho0 (Kd.S_lt q14_)) (below_size q5_)); have n3_ := Aside0.mk (Kd.S_lower (Kd.S_new' ho1 (Kd.S_lt q15_)) (below_size q5_)); have n4_ := Aside0.mk (blk_below (g := gb328) (o := .cells #[.slice A0_0 l0_0.length c0_0, .slice A0_1 l0_1.length c0_1] 25 (0, 0)) q8_ hb); have n5_ := Aside0.mk (below_step q5_ hb); clear HO332; clear HO335; clear BK328; clear HB; have HO332 := n0_; have HO335 := n1_; have HO339 := n2_; have HO342 := n3_; have BK328 := n4_; have HB := n5_; clear n0_ n1_ n2_ n3_ n4_ n5_; (try clear hb); (try clear hb2); (try clear hk); (try clear hi); (try clear ho0); (try clear ho1)) | ((with_reducible refine gate_dst (N := 9) rfl ?_); refine box_event ?hg (N := 9) ?hd (cs := #[.slice none 0 0, .slice none 0 0]) (t := 30) ?hr ?_; (case hd => rfl); (case hg => rfl); (case hr => first | (go_simp; done) | (go_simp; rfl)); intro gb343 hg w27 hbox hb; have n0_ := Aside0.mk (Kd.S_below q14_ hb); have n1_ := Aside0.mk (Kd.S_below q15_ hb); have n2_ := Aside0.mk (Kd.S_below q37_ hb); have n3_ := Aside0.mk (Kd.S_below q38_ hb); have n4_ := Aside0.mk (blk_below (g := gb328) (o := .cells #[.slice A0_0 l0_0.length c0_0, .slice A0_1 l0_1.length c0_1] 25 (0, 0)) q8_ hb); have n5_ := Aside0.mk (below_step q5_ hb); have n6_ := Aside0.mk (hbox); have n7_ := Aside0.mk ((by rw [hg]; exact (below_size q5_) : w.heap.size ≤ gb343)); have n8_ := Aside0.mk ((by rw [hg]; exact (below_size q5_) : w.heap.size ≤ gb343)); have n9_ := Aside0.mk ((by rw [hg]; exact Nat.ne_of_lt (blk_lt (g := gb328) (o := .cells #[.slice A0_0 l0_0.length c0_0, .slice A0_1 l0_1.length c0_1] 25 (0, 0)) q8_) : gb328 ≠ gb343)); have n10_ := Aside0.mk ((by rw [hg]; exact Nat.ne_of_gt (blk_lt (g := gb328) (o := .cells #[.slice A0_0 l0_0.length c0_0, .slice A0_1 l0_1.length c0_1] 25 (0, 0)) q8_) : gb343 ≠ gb328)); clear HO332; clear HO335; clear HO339; clear HO342; clear BK328; clear HB; have HO332 := n0_; have HO335 := n1_; have HO339 := n2_; have HO342 := n3_; have BK328 := n4_; have HB := n5_; have BK343 := n6_; have GW343 := n7_; have GE343 := n8_; have NB328_343 := n9_; have NB343_328 := n10_; clear n0_ n1_ n2_ n3_ n4_ n5_ n6_ n7_ n8_ n9_ n10_; clear hb hbox hg; obtain ⟨Ao28, co28, eo28⟩ := Kd.S_slice HO339.out; subst eo28; have hnb29 := NB343_328.out; have hnc29 := NB328_343.out; have hcz30_0 : w27.cell? ⟨gb343, 0, none⟩ = some (.slice none 0 0) := (blk_cell BK343.out 0).trans rfl; have hcz30_1 : w27.cell? ⟨gb343, 1, none⟩ = some (.slice none 0 0) := (blk_cell BK343.out 1).trans rfl; have hfz30_0 := blk_frozen BK343.out 0; have hfz30_1 := blk_frozen BK343.out 1; obtain ⟨Ao31, co31, eo31⟩ := Kd.S_slice HO342.out; subst eo31) | ((with_reducible refine gate_callee (f := 20) rfl ?_); refine goesL_ (some 26) rfl rfl Try.func20 (by kernel_rfl) rfl #[.agg #[.slice Ao28 t337.length co28, .slice Ao31 t340.length co31], .int .i64 a1, .int .i64 a2] rfl q0_ ?_; (with_reducible refine (impl_Shared.calls k _ _ t337 _ _ t340 a1 a2 t344 _ ?side1 ?side2 ?side3 ?side4 A12.out).mono ?_); (case side1 => refine (Kd.S_reads' (e := 36) (base := w.heap.size) (ok := fun k_ => (True ∧ some k_ ≠ (.slice Ao22 t330.length co22 : Value).ownBlock)) (n := t337.length) (c := co28) ?_).2.2; exact (by (with_reducible repeat (first | apply Kd.S_alloc | apply Kd.S_drewN | apply Kd.S_drew)); exact (Kd.S_mono (Kd.S_far (p := ⟨gb343, 1, none⟩) (Kd.S_far (p := ⟨gb343, 0, none⟩) (Kd.S_types HO339.out BK343.out (by decide)) (fun _ hk => hk.2) (.slice Ao28 t337.length co28)) (fun _ hk => hk.2) (.slice Ao31 t340.length co31)) (fun _ h_ => h_.1)))); (case side2 => exact (Kd.S_reads' HO339.out).2.1); (case side3 => refine (Kd.S_reads' (e := 68) (base := w.heap.size) (ok := fun k_ => (True ∧ some k_ ≠ (.slice Ao23 t333.length co23 : Value).ownBlock)) (n := t340.length) (c := co31) ?_).2.2; exact (by (with_reducible repeat (first | apply Kd.S_alloc | apply Kd.S_drewN | apply Kd.S_drew)); exact (Kd.S_mono (Kd.S_far (p := ⟨gb343, 1, none⟩) (Kd.S_far (p := ⟨gb343, 0, none⟩) (Kd.S_types HO342.out BK343.out (by decide)) (fun _ hk => hk.2) (.slice Ao28 t337.length co28)) (fun _ hk => hk.2) (.slice Ao31 t340.length co31)) (fun _ h_ => h_.1)))); (case side4 => exact (Kd.S_reads' HO342.out).2.1); rintro e w32 ⟨rfl, hb⟩; refine ⟨_, rfl, ?_⟩; have n0_ := Aside0.mk (Kd.S_below (by (with_reducible repeat (first | apply Kd.S_alloc | apply Kd.S_drewN | apply Kd.S_drew)); exact (Kd.S_mono (Kd.S_far (p := ⟨gb343, 1, none⟩) (Kd.S_far (p := ⟨gb343, 0, none⟩) (Kd.S_types HO332.out BK343.out (by decide)) (fun _ hk => hk.2) (.slice Ao28 t337.length co28)) (fun _ hk => hk.2) (.slice Ao31 t340.length co31)) (fun _ h_ => h_.1))) hb); have n1_ := Aside0.mk (Kd.S_below (by (with_reducible repeat (first | apply Kd.S_alloc | apply Kd.S_drewN | apply Kd.S_drew)); exact (Kd.S_mono (Kd.S_far (p := ⟨gb343, 1, none⟩) (Kd.S_far (p := ⟨gb343, 0, none⟩) (Kd.S_types HO335.out BK343.out (by decide)) (fun _ hk => hk.2) (.slice Ao28 t337.length co28)) (fun _ hk => hk.2) (.slice Ao31 t340.length co31)) (fun _ h_ => h_.1))) hb); have n2_ := Aside0.mk (Kd.S_below (by (with_reducible repeat (first | apply Kd.S_alloc | apply Kd.S_drewN | apply Kd.S_drew)); exact (Kd.S_mono (Kd.S_far (p := ⟨gb343, 1, none⟩) (Kd.S_far (p := ⟨gb343, 0, none⟩) (Kd.S_types HO339.out BK343.out (by decide)) (fun _ hk => hk.2) (.slice Ao28 t337.length co28)) (fun _ hk => hk.2) (.slice Ao31 t340.length co31)) (fun _ h_ => h_.1))) hb); have n3_ := Aside0.mk (Kd.S_below (by (with_reducible repeat (first | apply Kd.S_alloc | apply Kd.S_drewN | apply Kd.S_drew)); exact (Kd.S_mono (Kd.S_far (p := ⟨gb343, 1, none⟩) (Kd.S_far (p := ⟨gb343, 0, none⟩) (Kd.S_types HO342.out BK343.out (by decide)) (fun _ hk => hk.2) (.slice Ao28 t337.length co28)) (fun _ hk => hk.2) (.slice Ao31 t340.length co31)) (fun _ h_ => h_.1))) hb); have n4_ := Aside0.mk (blk_below (g := gb328) (o := .cells #[.slice A0_0 l0_0.length c0_0, .slice A0_1 l0_1.length c0_1] 25 (0, 0)) q27_ hb); have n5_ := Aside0.mk (blk_below (g := gb343) (o := .cells #[.slice Ao28 t337.length co28, .slice Ao31 t340.length co31] 30 (0, 0)) (by (with_reducible repeat (first | refine blk_drewN ?_ _ | refine blk_drew ?_ | refine blk_alloc ?_ _)); refine blk_put (cs := #[.slice Ao28 t337.length co28, .slice none 0 0]) ?_ 1 _ rfl; (with_reducible repeat (first | refine blk_drewN ?_ _ | refine blk_drew ?_ | refine blk_alloc ?_ _)); refine blk_put (cs := #[.slice none 0 0, .slice none 0 0]) ?_ 0 _ rfl; (with_reducible repeat (first | refine blk_drewN ?_ _ | refine blk_drew ?_ | refine blk_alloc ?_ _)); exact BK343.out) hb); have n6_ := Aside0.mk (below_step q13_ hb); clear HO332; clear HO335; clear HO339; clear HO342; clear BK328; clear BK343; clear HB; have HO332 := n0_; have HO335 := n1_; have HO339 := n2_; have HO342 := n3_; have BK328 := n4_; have BK343 := n5_; have HB := n6_; clear n0_ n1_ n2_ n3_ n4_ n5_ n6_; (try clear hb); (try clear hb2); (try clear hk); (try clear hi)))
      have n0_ := Aside0.mk (Kd.S_drew HO332.out)
      have n1_ := Aside0.mk (Kd.S_drew HO335.out)
      have n2_ := Aside0.mk (Kd.S_drew HO339.out)
      have n3_ := Aside0.mk (Kd.S_drew HO342.out)
      have n4_ := Aside0.mk (blk_drew BK328.out)
      have n5_ := Aside0.mk (blk_drew BK343.out)
      have n6_ := Aside0.mk (below_drew1 HB.out)
      clear HO332
      clear HO335
      clear HO339
      clear HO342
      clear BK328
      clear BK343
      clear HB
      have HO332 := n0_
      have HO335 := n1_
      have HO339 := n2_
      have HO342 := n3_
      have BK328 := n4_
      have BK343 := n5_
      have HB := n6_
      clear n0_ n1_ n2_ n3_ n4_ n5_ n6_
      refine start_ (n := 5) (S := fun w' => w'.cell? ⟨gb343, 0, none⟩ = some (.slice Ao28 t337.length co28) ∧ w'.cell? ⟨gb343, 1, none⟩ = some (.slice Ao31 t340.length co31) ∧ w'.cell? ⟨gb328, 0, none⟩ = some (.slice A0_0 l0_0.length c0_0) ∧ w'.cell? ⟨gb328, 1, none⟩ = some (.slice A0_1 l0_1.length c0_1)) (ds := []) #[false, false, false, false, false] (by kernel_rfl) rfl rfl ⟨(blk_cell BK343.out 0).trans rfl, (blk_cell BK343.out 1).trans rfl, (blk_cell BK328.out 0).trans rfl, (blk_cell BK328.out 1).trans rfl⟩ (fun hHeld => ?_)
      generalize w32.drew = w33 at HO332 HO335 HO339 HO342 BK328 BK343 HB hHeld ⊢
      refine take_ (i := 0) (N := some 30) (v := ?_) (a' := ?_) #[true, false, false, false, false] rfl rfl (by kernel_rfl) (fun _ _ _ h => h) (Or.inl ⟨by rfl, ?_⟩) hHeld ?_ ?_
      rotate_left; exact pw4_; rotate_left; exact pz_
      refine take_ (i := 1) (N := some 31) (v := ?_) (a' := ?_) #[true, true, false, false, false] rfl rfl (by kernel_rfl) (fun _ _ _ h => h) (Or.inl ⟨by rfl, ?_⟩) hHeld ?_ ?_
      rotate_left; exact pw4_; rotate_left; exact pz_
      refine one_ (i := 2) (N := some 32) #[true, true, true, false, false] rfl rfl (by kernel_rfl) (by decide) (fun K hK => ?_)
      refine goes_ Try.func16 (by kernel_rfl) rfl #[.agg #[.slice A0_0 l0_0.length c0_0, .slice A0_1 l0_1.length c0_1]] (by rfl) rfl rfl q0_ ?_
      with_reducible refine (laws_toWeave.calls k _ _ l0_0 _ _ l0_1 t345 t348 _ ?side1 ?side2 ?side3 ?side4 A14.out).mono ?_
      (case side1 => exact q3_)
      (case side2 => exact HC0_0.out)
      (case side3 => exact q4_)
      (case side4 => exact HC0_1.out)
      rintro e w34 ⟨v346, v349, rfl, ho0, ho1, hb⟩
      refine ⟨_, rfl, ?_⟩
      have n0_ := Aside0.mk (Kd.S_elder' q14_ (Kd.S_base ho0) hb)
      have n1_ := Aside0.mk (Kd.S_elder' q15_ (Kd.S_base ho1) hb)
      have n2_ := Aside0.mk (Kd.S_elder' q37_ (Kd.S_base ho0) hb)
      have n3_ := Aside0.mk (Kd.S_elder' q38_ (Kd.S_base ho1) hb)
      have n4_ := Aside0.mk (Kd.S_lower (Kd.S_new' (Kd.S_new' ho0 (Kd.S_lt q14_)) (Kd.S_lt q37_)) (below_size q13_))
      have n5_ := Aside0.mk (Kd.S_lower (Kd.S_new' (Kd.S_new' ho1 (Kd.S_lt q15_)) (Kd.S_lt q38_)) (below_size q13_))
      have n6_ := Aside0.mk (blk_below (g := gb328) (o := .cells #[.slice A0_0 l0_0.length c0_0, .slice A0_1 l0_1.length c0_1] 25 (0, 0)) q8_ hb)
      have n7_ := Aside0.mk (blk_below (g := gb343) (o := .cells #[.slice Ao28 t337.length co28, .slice Ao31 t340.length co31] 30 (0, 0)) (by (with_reducible repeat (first | refine blk_drewN ?_ _ | refine blk_drew ?_ | refine blk_alloc ?_ _)); exact BK343.out) hb)
      have n8_ := Aside0.mk (below_step q13_ hb)
      clear HO332
      clear HO335
      clear HO339
      clear HO342
      clear BK328
      clear BK343
      clear HB
      have HO332 := n0_
      have HO335 := n1_
      have HO339 := n2_
      have HO342 := n3_
      have HO347 := n4_
      have HO350 := n5_
      have BK328 := n6_
      have BK343 := n7_
      have HB := n8_
      clear n0_ n1_ n2_ n3_ n4_ n5_ n6_ n7_ n8_
      (try clear hb)
      (try clear hb2)
      (try clear hk)
      (try clear hi)
      (try clear ho0)
      (try clear ho1)
      obtain ⟨Ao35, co35, eo35⟩ := Kd.S_slice HO347.out
      (first | subst eo35 | (injection eo35 with f1_ f2_ f3_; have f4_ := f1_.symm; have f5_ := f3_.symm; clear f1_ f2_ f3_; subst f4_; subst f5_))
      obtain ⟨Ao36, co36, eo36⟩ := Kd.S_slice HO350.out
      (first | subst eo36 | (injection eo36 with f1_ f2_ f3_; have f4_ := f1_.symm; have f5_ := f3_.symm; clear f1_ f2_ f3_; subst f4_; subst f5_))
      refine hK.out _ _ ⟨(blk_cell BK343.out 0).trans rfl, (blk_cell BK343.out 1).trans rfl, (blk_cell BK328.out 0).trans rfl, (blk_cell BK328.out 1).trans rfl⟩ (fun hHeld => ?_)
      clear hK K
      refine norm_ (a' := ?_) ?_ ?_
      rotate_left
      ·show Act.put _ (some 32) _ = _
       simp only [Act.put, List.setIfInBounds_toArray, List.set_cons_zero, List.set_cons_succ, i64_w, i32_w]
       rfl
      refine one_ (i := 3) (N := some 33) #[true, true, true, true, false] rfl rfl (by kernel_rfl) (by decide) (fun K hK => ?_)
      refine goes_ Try.func18 (by kernel_rfl) rfl #[.agg #[.slice Ao28 t337.length co28, .slice Ao31 t340.length co31], .agg #[.slice Ao35 t345.length co35, .slice Ao36 t348.length co36]] (by rfl) rfl rfl q0_ ?_
      with_reducible refine (laws_eqWeave.calls k _ _ t337 _ _ t340 _ _ t345 _ _ t348 true _ ?side1 ?side2 ?side3 ?side4 ?side5 ?side6 ?side7 ?side8 A15.out).mono ?_
      (case side1 => exact (by repeat (first | exact (Kd.S_reads' HO339.out).2.2 | (with_reducible refine Kd.C_alloc ?_ _) | (with_reducible refine Kd.C_drewN ?_ _) | (with_reducible refine Kd.C_drew ?_))))
      (case side2 => exact (Kd.S_reads' HO339.out).2.1)
      (case side3 => exact (by repeat (first | exact (Kd.S_reads' HO342.out).2.2 | (with_reducible refine Kd.C_alloc ?_ _) | (with_reducible refine Kd.C_drewN ?_ _) | (with_reducible refine Kd.C_drew ?_))))
      (case side4 => exact (Kd.S_reads' HO342.out).2.1)
      (case side5 => exact (by repeat (first | exact (Kd.S_reads' HO347.out).2.2 | (with_reducible refine Kd.C_alloc ?_ _) | (with_reducible refine Kd.C_drewN ?_ _) | (with_reducible refine Kd.C_drew ?_))))
      (case side6 => exact (Kd.S_reads' HO347.out).2.1)
      (case side7 => exact (by repeat (first | exact (Kd.S_reads' HO350.out).2.2 | (with_reducible refine Kd.C_alloc ?_ _) | (with_reducible refine Kd.C_drewN ?_ _) | (with_reducible refine Kd.C_drew ?_))))
      (case side8 => exact (Kd.S_reads' HO350.out).2.1)
      rintro e w37 ⟨rfl, hb⟩
      refine ⟨_, rfl, ?_⟩
      have n0_ := Aside0.mk (Kd.S_below q14_ hb)
      have n1_ := Aside0.mk (Kd.S_below q15_ hb)
      have n2_ := Aside0.mk (Kd.S_below q37_ hb)
      have n3_ := Aside0.mk (Kd.S_below q38_ hb)
      have n4_ := Aside0.mk (Kd.S_below (by (with_reducible repeat (first | apply Kd.S_alloc | apply Kd.S_drewN | apply Kd.S_drew)); exact HO347.out) hb)
      have n5_ := Aside0.mk (Kd.S_below (by (with_reducible repeat (first | apply Kd.S_alloc | apply Kd.S_drewN | apply Kd.S_drew)); exact HO350.out) hb)
      have n6_ := Aside0.mk (blk_below (g := gb328) (o := .cells #[.slice A0_0 l0_0.length c0_0, .slice A0_1 l0_1.length c0_1] 25 (0, 0)) q8_ hb)
      have n7_ := Aside0.mk (blk_below (g := gb343) (o := .cells #[.slice Ao28 t337.length co28, .slice Ao31 t340.length co31] 30 (0, 0)) (by (with_reducible repeat (first | refine blk_drewN ?_ _ | refine blk_drew ?_ | refine blk_alloc ?_ _)); exact BK343.out) hb)
      have n8_ := Aside0.mk (below_step q13_ hb)
      clear HO332
      clear HO335
      clear HO339
      clear HO342
      clear HO347
      clear HO350
      clear BK328
      clear BK343
      clear HB
      have HO332 := n0_
      have HO335 := n1_
      have HO339 := n2_
      have HO342 := n3_
      have HO347 := n4_
      have HO350 := n5_
      have BK328 := n6_
      have BK343 := n7_
      have HB := n8_
      clear n0_ n1_ n2_ n3_ n4_ n5_ n6_ n7_ n8_
      (try clear hb)
      (try clear hb2)
      (try clear hk)
      (try clear hi)
      refine hK.out _ _ ⟨(blk_cell BK343.out 0).trans rfl, (blk_cell BK343.out 1).trans rfl, (blk_cell BK328.out 0).trans rfl, (blk_cell BK328.out 1).trans rfl⟩ (fun hHeld => ?_)
      clear hK K
      refine norm_ (a' := ?_) ?_ ?_
      rotate_left
      ·show Act.put _ (some 33) _ = _
       simp only [Act.put, List.setIfInBounds_toArray, List.set_cons_zero, List.set_cons_succ, i64_w, i32_w]
       rfl
      refine pure_ (i := 4) (N := some 34) (v := ?_) (a' := ?_) #[true, true, true, true, true] rfl rfl (by kernel_rfl) (fun _ _ _ h => h) (Or.inl ⟨by rfl, ?_⟩) ?_ ?_
      rotate_left; exact pw_; rotate_left; exact pz_
      refine done_ (by kernel_rfl) ?_
      try go_wp2
      go_ret
      exact ⟨by first | rfl | (simp [errW_none, errW_some] <;> rfl) | (simp [*, errW_none, errW_some] <;> rfl), by repeat (first | (with_reducible first | exact HB.out | apply below_alloc | apply pw_below_drewN | apply below_drew1 | refine below_set ?_ GE328.out | refine below_set ?_ GE343.out) | exact HB.out)⟩
     ·replace c16 := Bool.eq_false_iff.mpr c16
      subst c16
      have H1 : (some false) = some r := by rw [if_neg (show ¬ (false = true) by decide)] at H; exact H
      clear H
      have H := H1
      clear H1
      obtain rfl := Option.some.inj H
      go_enter Try.func4, Try.ntmps4
      try go_wp2_with (first | ((with_reducible refine gate_dst (N := 3) rfl ?_); refine box_event ?hg (N := 3) ?hd (cs := #[.slice A0_0 l0_0.length c0_0, .slice A0_1 l0_1.length c0_1]) (t := 25) ?hr ?_; (case hd => rfl); (case hg => rfl); (case hr => first | (go_simp; done) | (go_simp; rfl)); intro gb328 hg w38 hbox hb; have n0_ := Aside0.mk (below_step q1_ hb); have n1_ := Aside0.mk (hbox); have n2_ := Aside0.mk ((by rw [hg]; exact (below_size q1_) : w.heap.size ≤ gb328)); have n3_ := Aside0.mk ((by rw [hg]; exact (below_size q1_) : w.heap.size ≤ gb328)); clear HB; have HB := n0_; have BK328 := n1_; have GW328 := n2_; have GE328 := n3_; clear n0_ n1_ n2_ n3_; clear hb hbox hg; have hcz39_0 : w38.cell? ⟨gb328, 0, none⟩ = some (.slice A0_0 l0_0.length c0_0) := (blk_cell BK328.out 0).trans rfl; have hcz39_1 : w38.cell? ⟨gb328, 1, none⟩ = some (.slice A0_1 l0_1.length c0_1) := (blk_cell BK328.out 1).trans rfl; have hfz39_0 := blk_frozen BK328.out 0; have hfz39_1 := blk_frozen BK328.out 1) | ((with_reducible refine gate_callee (f := 14) rfl ?_); refine goesL_ (some 13) rfl rfl Try.func14 (by kernel_rfl) rfl #[.agg #[.slice A0_0 l0_0.length c0_0, .slice A0_1 l0_1.length c0_1], .int .i64 1048576] rfl q0_ ?_; (with_reducible refine (laws_szWeave.calls k _ _ l0_0 _ _ l0_1 1048576 t329 _ ?side1 ?side2 ?side3 ?side4 A4.out).mono ?_); (case side1 => exact q3_); (case side2 => exact HC0_0.out); (case side3 => exact q4_); (case side4 => exact HC0_1.out); rintro e w40 ⟨rfl, hb⟩; refine ⟨_, rfl, ?_⟩; have n0_ := Aside0.mk (blk_below (g := gb328) (o := .cells #[.slice A0_0 l0_0.length c0_0, .slice A0_1 l0_1.length c0_1] 25 (0, 0)) q8_ hb); have n1_ := Aside0.mk (below_step q5_ hb); clear BK328; clear HB; have BK328 := n0_; have HB := n1_; clear n0_ n1_; (try clear hb); (try clear hb2); (try clear hk); (try clear hi); have hcz41_0 : w40.cell? ⟨gb328, 0, none⟩ = some (.slice A0_0 l0_0.length c0_0) := (blk_cell BK328.out 0).trans rfl; have hcz41_1 : w40.cell? ⟨gb328, 1, none⟩ = some (.slice A0_1 l0_1.length c0_1) := (blk_cell BK328.out 1).trans rfl; have hfz41_0 := blk_frozen BK328.out 0; have hfz41_1 := blk_frozen BK328.out 1) | ((with_reducible refine gate_callee (f := 16) rfl ?_); refine goesL_ (some 17) rfl rfl Try.func16 (by kernel_rfl) rfl #[.agg #[.slice A0_0 l0_0.length c0_0, .slice A0_1 l0_1.length c0_1]] rfl q0_ ?_; (with_reducible refine (laws_toWeave.calls k _ _ l0_0 _ _ l0_1 t330 t333 _ ?side1 ?side2 ?side3 ?side4 A9.out).mono ?_); (case side1 => exact q3_); (case side2 => exact HC0_0.out); (case side3 => exact q4_); (case side4 => exact HC0_1.out); rintro e w42 ⟨v331, v334, rfl, ho0, ho1, hb⟩; refine ⟨_, rfl, ?_⟩; have n0_ := Aside0.mk (Kd.S_lower ho0 (below_size q5_)); have n1_ := Aside0.mk (Kd.S_lower ho1 (below_size q5_)); have n2_ := Aside0.mk (blk_below (g := gb328) (o := .cells #[.slice A0_0 l0_0.length c0_0, .slice A0_1 l0_1.length c0_1] 25 (0, 0)) q8_ hb); have n3_ := Aside0.mk (below_step q5_ hb); clear BK328; clear HB; have HO332 := n0_; have HO335 := n1_; have BK328 := n2_; have HB := n3_; clear n0_ n1_ n2_ n3_; (try clear hb); (try clear hb2); (try clear hk); (try clear hi); (try clear ho0); (try clear ho1); obtain ⟨Ao43, co43, eo43⟩ := Kd.S_slice HO332.out; subst eo43; obtain ⟨Ao44, co44, eo44⟩ := Kd.S_slice HO335.out; subst eo44) | ((with_reducible refine gate_callee (f := 19) rfl ?_); refine goesL_ (some 20) rfl rfl Try.func19 (by kernel_rfl) rfl #[.agg #[.slice Ao43 t330.length co43, .slice Ao44 t333.length co44], .int .i64 a1, .int .i64 a2] rfl q0_ ?_; (with_reducible refine (spec_Shared.calls k _ _ t330 _ _ t333 a1 a2 t336 _ ?side1 ?side2 ?side3 ?side4 A10.out).mono ?_); (case side1 => exact (by repeat (first | exact (Kd.S_reads' HO332.out).2.2 | (with_reducible refine Kd.C_alloc ?_ _) | (with_reducible refine Kd.C_drewN ?_ _) | (with_reducible refine Kd.C_drew ?_)))); (case side2 => exact (Kd.S_reads' HO332.out).2.1); (case side3 => exact (by repeat (first | exact (Kd.S_reads' HO335.out).2.2 | (with_reducible refine Kd.C_alloc ?_ _) | (with_reducible refine Kd.C_drewN ?_ _) | (with_reducible refine Kd.C_drew ?_)))); (case side4 => exact (Kd.S_reads' HO335.out).2.1); rintro e w45 ⟨rfl, hb⟩; refine ⟨_, rfl, ?_⟩; have n0_ := Aside0.mk (Kd.S_below q14_ hb); have n1_ := Aside0.mk (Kd.S_below q15_ hb); have n2_ := Aside0.mk (blk_below (g := gb328) (o := .cells #[.slice A0_0 l0_0.length c0_0, .slice A0_1 l0_1.length c0_1] 25 (0, 0)) q8_ hb); have n3_ := Aside0.mk (below_step q5_ hb); clear HO332; clear HO335; clear BK328; clear HB; have HO332 := n0_; have HO335 := n1_; have BK328 := n2_; have HB := n3_; clear n0_ n1_ n2_ n3_; (try clear hb); (try clear hb2); (try clear hk); (try clear hi); have hcz46_0 : w45.cell? ⟨gb328, 0, none⟩ = some (.slice A0_0 l0_0.length c0_0) := (blk_cell BK328.out 0).trans rfl; have hcz46_1 : w45.cell? ⟨gb328, 1, none⟩ = some (.slice A0_1 l0_1.length c0_1) := (blk_cell BK328.out 1).trans rfl; have hfz46_0 := blk_frozen BK328.out 0; have hfz46_1 := blk_frozen BK328.out 1) | ((with_reducible refine gate_callee (f := 16) rfl ?_); refine goesL_ (some 22) rfl rfl Try.func16 (by kernel_rfl) rfl #[.agg #[.slice A0_0 l0_0.length c0_0, .slice A0_1 l0_1.length c0_1]] rfl q0_ ?_; (with_reducible refine (laws_toWeave.calls k _ _ l0_0 _ _ l0_1 t337 t340 _ ?side1 ?side2 ?side3 ?side4 A11.out).mono ?_); (case side1 => exact q3_); (case side2 => exact HC0_0.out); (case side3 => exact q4_); (case side4 => exact HC0_1.out); rintro e w47 ⟨v338, v341, rfl, ho0, ho1, hb⟩; refine ⟨_, rfl, ?_⟩; have n0_ := Aside0.mk (Kd.S_elder' q14_ (Kd.S_base ho0) hb); have n1_ := Aside0.mk (Kd.S_elder' q15_ (Kd.S_base ho1) hb); have n2_ := Aside0.mk (Kd.S_lower (Kd.S_new' ho0 (Kd.S_lt q14_)) (below_size q5_)); have n3_ := Aside0.mk (Kd.S_lower (Kd.S_new' ho1 (Kd.S_lt q15_)) (below_size q5_)); have n4_ := Aside0.mk (blk_below (g := gb328) (o := .cells #[.slice A0_0 l0_0.length c0_0, .slice A0_1 l0_1.length c0_1] 25 (0, 0)) q8_ hb); have n5_ := Aside0.mk (below_step q5_ hb); clear HO332; clear HO335; clear BK328; clear HB; have HO332 := n0_; have HO335 := n1_; have HO339 := n2_; have HO342 := n3_; have BK328 := n4_; have HB := n5_; clear n0_ n1_ n2_ n3_ n4_ n5_; (try clear hb); (try clear hb2); (try clear hk); (try clear hi); (try clear ho0); (try clear ho1)) | ((with_reducible refine gate_dst (N := 9) rfl ?_); refine box_event ?hg (N := 9) ?hd (cs := #[.slice none 0 0, .slice none 0 0]) (t := 30) ?hr ?_; (case hd => rfl); (case hg => rfl); (case hr => first | (go_simp; done) | (go_simp; rfl)); intro gb343 hg w48 hbox hb; have n0_ := Aside0.mk (Kd.S_below q14_ hb); have n1_ := Aside0.mk (Kd.S_below q15_ hb); have n2_ := Aside0.mk (Kd.S_below q37_ hb); have n3_ := Aside0.mk (Kd.S_below q38_ hb); have n4_ := Aside0.mk (blk_below (g := gb328) (o := .cells #[.slice A0_0 l0_0.length c0_0, .slice A0_1 l0_1.length c0_1] 25 (0, 0)) q8_ hb); have n5_ := Aside0.mk (below_step q5_ hb); have n6_ := Aside0.mk (hbox); have n7_ := Aside0.mk ((by rw [hg]; exact (below_size q5_) : w.heap.size ≤ gb343)); have n8_ := Aside0.mk ((by rw [hg]; exact (below_size q5_) : w.heap.size ≤ gb343)); have n9_ := Aside0.mk ((by rw [hg]; exact Nat.ne_of_lt (blk_lt (g := gb328) (o := .cells #[.slice A0_0 l0_0.length c0_0, .slice A0_1 l0_1.length c0_1] 25 (0, 0)) q8_) : gb328 ≠ gb343)); have n10_ := Aside0.mk ((by rw [hg]; exact Nat.ne_of_gt (blk_lt (g := gb328) (o := .cells #[.slice A0_0 l0_0.length c0_0, .slice A0_1 l0_1.length c0_1] 25 (0, 0)) q8_) : gb343 ≠ gb328)); clear HO332; clear HO335; clear HO339; clear HO342; clear BK328; clear HB; have HO332 := n0_; have HO335 := n1_; have HO339 := n2_; have HO342 := n3_; have BK328 := n4_; have HB := n5_; have BK343 := n6_; have GW343 := n7_; have GE343 := n8_; have NB328_343 := n9_; have NB343_328 := n10_; clear n0_ n1_ n2_ n3_ n4_ n5_ n6_ n7_ n8_ n9_ n10_; clear hb hbox hg; obtain ⟨Ao49, co49, eo49⟩ := Kd.S_slice HO339.out; subst eo49; have hnb50 := NB343_328.out; have hnc50 := NB328_343.out; have hcz51_0 : w48.cell? ⟨gb343, 0, none⟩ = some (.slice none 0 0) := (blk_cell BK343.out 0).trans rfl; have hcz51_1 : w48.cell? ⟨gb343, 1, none⟩ = some (.slice none 0 0) := (blk_cell BK343.out 1).trans rfl; have hfz51_0 := blk_frozen BK343.out 0; have hfz51_1 := blk_frozen BK343.out 1; obtain ⟨Ao52, co52, eo52⟩ := Kd.S_slice HO342.out; subst eo52) | ((with_reducible refine gate_callee (f := 20) rfl ?_); refine goesL_ (some 26) rfl rfl Try.func20 (by kernel_rfl) rfl #[.agg #[.slice Ao49 t337.length co49, .slice Ao52 t340.length co52], .int .i64 a1, .int .i64 a2] rfl q0_ ?_; (with_reducible refine (impl_Shared.calls k _ _ t337 _ _ t340 a1 a2 t344 _ ?side1 ?side2 ?side3 ?side4 A12.out).mono ?_); (case side1 => refine (Kd.S_reads' (e := 36) (base := w.heap.size) (ok := fun k_ => (True ∧ some k_ ≠ (.slice Ao43 t330.length co43 : Value).ownBlock)) (n := t337.length) (c := co49) ?_).2.2; exact (by (with_reducible repeat (first | apply Kd.S_alloc | apply Kd.S_drewN | apply Kd.S_drew)); exact (Kd.S_mono (Kd.S_far (p := ⟨gb343, 1, none⟩) (Kd.S_far (p := ⟨gb343, 0, none⟩) (Kd.S_types HO339.out BK343.out (by decide)) (fun _ hk => hk.2) (.slice Ao49 t337.length co49)) (fun _ hk => hk.2) (.slice Ao52 t340.length co52)) (fun _ h_ => h_.1)))); (case side2 => exact (Kd.S_reads' HO339.out).2.1); (case side3 => refine (Kd.S_reads' (e := 68) (base := w.heap.size) (ok := fun k_ => (True ∧ some k_ ≠ (.slice Ao44 t333.length co44 : Value).ownBlock)) (n := t340.length) (c := co52) ?_).2.2; exact (by (with_reducible repeat (first | apply Kd.S_alloc | apply Kd.S_drewN | apply Kd.S_drew)); exact (Kd.S_mono (Kd.S_far (p := ⟨gb343, 1, none⟩) (Kd.S_far (p := ⟨gb343, 0, none⟩) (Kd.S_types HO342.out BK343.out (by decide)) (fun _ hk => hk.2) (.slice Ao49 t337.length co49)) (fun _ hk => hk.2) (.slice Ao52 t340.length co52)) (fun _ h_ => h_.1)))); (case side4 => exact (Kd.S_reads' HO342.out).2.1); rintro e w53 ⟨rfl, hb⟩; refine ⟨_, rfl, ?_⟩; have n0_ := Aside0.mk (Kd.S_below (by (with_reducible repeat (first | apply Kd.S_alloc | apply Kd.S_drewN | apply Kd.S_drew)); exact (Kd.S_mono (Kd.S_far (p := ⟨gb343, 1, none⟩) (Kd.S_far (p := ⟨gb343, 0, none⟩) (Kd.S_types HO332.out BK343.out (by decide)) (fun _ hk => hk.2) (.slice Ao49 t337.length co49)) (fun _ hk => hk.2) (.slice Ao52 t340.length co52)) (fun _ h_ => h_.1))) hb); have n1_ := Aside0.mk (Kd.S_below (by (with_reducible repeat (first | apply Kd.S_alloc | apply Kd.S_drewN | apply Kd.S_drew)); exact (Kd.S_mono (Kd.S_far (p := ⟨gb343, 1, none⟩) (Kd.S_far (p := ⟨gb343, 0, none⟩) (Kd.S_types HO335.out BK343.out (by decide)) (fun _ hk => hk.2) (.slice Ao49 t337.length co49)) (fun _ hk => hk.2) (.slice Ao52 t340.length co52)) (fun _ h_ => h_.1))) hb); have n2_ := Aside0.mk (Kd.S_below (by (with_reducible repeat (first | apply Kd.S_alloc | apply Kd.S_drewN | apply Kd.S_drew)); exact (Kd.S_mono (Kd.S_far (p := ⟨gb343, 1, none⟩) (Kd.S_far (p := ⟨gb343, 0, none⟩) (Kd.S_types HO339.out BK343.out (by decide)) (fun _ hk => hk.2) (.slice Ao49 t337.length co49)) (fun _ hk => hk.2) (.slice Ao52 t340.length co52)) (fun _ h_ => h_.1))) hb); have n3_ := Aside0.mk (Kd.S_below (by (with_reducible repeat (first | apply Kd.S_alloc | apply Kd.S_drewN | apply Kd.S_drew)); exact (Kd.S_mono (Kd.S_far (p := ⟨gb343, 1, none⟩) (Kd.S_far (p := ⟨gb343, 0, none⟩) (Kd.S_types HO342.out BK343.out (by decide)) (fun _ hk => hk.2) (.slice Ao49 t337.length co49)) (fun _ hk => hk.2) (.slice Ao52 t340.length co52)) (fun _ h_ => h_.1))) hb); have n4_ := Aside0.mk (blk_below (g := gb328) (o := .cells #[.slice A0_0 l0_0.length c0_0, .slice A0_1 l0_1.length c0_1] 25 (0, 0)) q27_ hb); have n5_ := Aside0.mk (blk_below (g := gb343) (o := .cells #[.slice Ao49 t337.length co49, .slice Ao52 t340.length co52] 30 (0, 0)) (by (with_reducible repeat (first | refine blk_drewN ?_ _ | refine blk_drew ?_ | refine blk_alloc ?_ _)); refine blk_put (cs := #[.slice Ao49 t337.length co49, .slice none 0 0]) ?_ 1 _ rfl; (with_reducible repeat (first | refine blk_drewN ?_ _ | refine blk_drew ?_ | refine blk_alloc ?_ _)); refine blk_put (cs := #[.slice none 0 0, .slice none 0 0]) ?_ 0 _ rfl; (with_reducible repeat (first | refine blk_drewN ?_ _ | refine blk_drew ?_ | refine blk_alloc ?_ _)); exact BK343.out) hb); have n6_ := Aside0.mk (below_step q13_ hb); clear HO332; clear HO335; clear HO339; clear HO342; clear BK328; clear BK343; clear HB; have HO332 := n0_; have HO335 := n1_; have HO339 := n2_; have HO342 := n3_; have BK328 := n4_; have BK343 := n5_; have HB := n6_; clear n0_ n1_ n2_ n3_ n4_ n5_ n6_; (try clear hb); (try clear hb2); (try clear hk); (try clear hi)))
      have n0_ := Aside0.mk (Kd.S_drew HO332.out)
      have n1_ := Aside0.mk (Kd.S_drew HO335.out)
      have n2_ := Aside0.mk (Kd.S_drew HO339.out)
      have n3_ := Aside0.mk (Kd.S_drew HO342.out)
      have n4_ := Aside0.mk (blk_drew BK328.out)
      have n5_ := Aside0.mk (blk_drew BK343.out)
      have n6_ := Aside0.mk (below_drew1 HB.out)
      clear HO332
      clear HO335
      clear HO339
      clear HO342
      clear BK328
      clear BK343
      clear HB
      have HO332 := n0_
      have HO335 := n1_
      have HO339 := n2_
      have HO342 := n3_
      have BK328 := n4_
      have BK343 := n5_
      have HB := n6_
      clear n0_ n1_ n2_ n3_ n4_ n5_ n6_
      refine start_ (n := 5) (S := fun w' => w'.cell? ⟨gb343, 0, none⟩ = some (.slice Ao49 t337.length co49) ∧ w'.cell? ⟨gb343, 1, none⟩ = some (.slice Ao52 t340.length co52) ∧ w'.cell? ⟨gb328, 0, none⟩ = some (.slice A0_0 l0_0.length c0_0) ∧ w'.cell? ⟨gb328, 1, none⟩ = some (.slice A0_1 l0_1.length c0_1)) (ds := []) #[false, false, false, false, false] (by kernel_rfl) rfl rfl ⟨(blk_cell BK343.out 0).trans rfl, (blk_cell BK343.out 1).trans rfl, (blk_cell BK328.out 0).trans rfl, (blk_cell BK328.out 1).trans rfl⟩ (fun hHeld => ?_)
      generalize w53.drew = w54 at HO332 HO335 HO339 HO342 BK328 BK343 HB hHeld ⊢
      refine take_ (i := 0) (N := some 30) (v := ?_) (a' := ?_) #[true, false, false, false, false] rfl rfl (by kernel_rfl) (fun _ _ _ h => h) (Or.inl ⟨by rfl, ?_⟩) hHeld ?_ ?_
      rotate_left; exact pw4_; rotate_left; exact pz_
      refine take_ (i := 1) (N := some 31) (v := ?_) (a' := ?_) #[true, true, false, false, false] rfl rfl (by kernel_rfl) (fun _ _ _ h => h) (Or.inl ⟨by rfl, ?_⟩) hHeld ?_ ?_
      rotate_left; exact pw4_; rotate_left; exact pz_
      refine one_ (i := 2) (N := some 32) #[true, true, true, false, false] rfl rfl (by kernel_rfl) (by decide) (fun K hK => ?_)
      refine goes_ Try.func16 (by kernel_rfl) rfl #[.agg #[.slice A0_0 l0_0.length c0_0, .slice A0_1 l0_1.length c0_1]] (by rfl) rfl rfl q0_ ?_
      with_reducible refine (laws_toWeave.calls k _ _ l0_0 _ _ l0_1 t345 t348 _ ?side1 ?side2 ?side3 ?side4 A14.out).mono ?_
      (case side1 => exact q3_)
      (case side2 => exact HC0_0.out)
      (case side3 => exact q4_)
      (case side4 => exact HC0_1.out)
      rintro e w55 ⟨v346, v349, rfl, ho0, ho1, hb⟩
      refine ⟨_, rfl, ?_⟩
      have n0_ := Aside0.mk (Kd.S_elder' q14_ (Kd.S_base ho0) hb)
      have n1_ := Aside0.mk (Kd.S_elder' q15_ (Kd.S_base ho1) hb)
      have n2_ := Aside0.mk (Kd.S_elder' q37_ (Kd.S_base ho0) hb)
      have n3_ := Aside0.mk (Kd.S_elder' q38_ (Kd.S_base ho1) hb)
      have n4_ := Aside0.mk (Kd.S_lower (Kd.S_new' (Kd.S_new' ho0 (Kd.S_lt q14_)) (Kd.S_lt q37_)) (below_size q13_))
      have n5_ := Aside0.mk (Kd.S_lower (Kd.S_new' (Kd.S_new' ho1 (Kd.S_lt q15_)) (Kd.S_lt q38_)) (below_size q13_))
      have n6_ := Aside0.mk (blk_below (g := gb328) (o := .cells #[.slice A0_0 l0_0.length c0_0, .slice A0_1 l0_1.length c0_1] 25 (0, 0)) q8_ hb)
      have n7_ := Aside0.mk (blk_below (g := gb343) (o := .cells #[.slice Ao49 t337.length co49, .slice Ao52 t340.length co52] 30 (0, 0)) (by (with_reducible repeat (first | refine blk_drewN ?_ _ | refine blk_drew ?_ | refine blk_alloc ?_ _)); exact BK343.out) hb)
      have n8_ := Aside0.mk (below_step q13_ hb)
      clear HO332
      clear HO335
      clear HO339
      clear HO342
      clear BK328
      clear BK343
      clear HB
      have HO332 := n0_
      have HO335 := n1_
      have HO339 := n2_
      have HO342 := n3_
      have HO347 := n4_
      have HO350 := n5_
      have BK328 := n6_
      have BK343 := n7_
      have HB := n8_
      clear n0_ n1_ n2_ n3_ n4_ n5_ n6_ n7_ n8_
      (try clear hb)
      (try clear hb2)
      (try clear hk)
      (try clear hi)
      (try clear ho0)
      (try clear ho1)
      obtain ⟨Ao56, co56, eo56⟩ := Kd.S_slice HO347.out
      (first | subst eo56 | (injection eo56 with f1_ f2_ f3_; have f4_ := f1_.symm; have f5_ := f3_.symm; clear f1_ f2_ f3_; subst f4_; subst f5_))
      obtain ⟨Ao57, co57, eo57⟩ := Kd.S_slice HO350.out
      (first | subst eo57 | (injection eo57 with f1_ f2_ f3_; have f4_ := f1_.symm; have f5_ := f3_.symm; clear f1_ f2_ f3_; subst f4_; subst f5_))
      refine hK.out _ _ ⟨(blk_cell BK343.out 0).trans rfl, (blk_cell BK343.out 1).trans rfl, (blk_cell BK328.out 0).trans rfl, (blk_cell BK328.out 1).trans rfl⟩ (fun hHeld => ?_)
      clear hK K
      refine norm_ (a' := ?_) ?_ ?_
      rotate_left
      ·show Act.put _ (some 32) _ = _
       simp only [Act.put, List.setIfInBounds_toArray, List.set_cons_zero, List.set_cons_succ, i64_w, i32_w]
       rfl
      refine one_ (i := 3) (N := some 33) #[true, true, true, true, false] rfl rfl (by kernel_rfl) (by decide) (fun K hK => ?_)
      refine goes_ Try.func18 (by kernel_rfl) rfl #[.agg #[.slice Ao49 t337.length co49, .slice Ao52 t340.length co52], .agg #[.slice Ao56 t345.length co56, .slice Ao57 t348.length co57]] (by rfl) rfl rfl q0_ ?_
      with_reducible refine (laws_eqWeave.calls k _ _ t337 _ _ t340 _ _ t345 _ _ t348 false _ ?side1 ?side2 ?side3 ?side4 ?side5 ?side6 ?side7 ?side8 A15.out).mono ?_
      (case side1 => exact (by repeat (first | exact (Kd.S_reads' HO339.out).2.2 | (with_reducible refine Kd.C_alloc ?_ _) | (with_reducible refine Kd.C_drewN ?_ _) | (with_reducible refine Kd.C_drew ?_))))
      (case side2 => exact (Kd.S_reads' HO339.out).2.1)
      (case side3 => exact (by repeat (first | exact (Kd.S_reads' HO342.out).2.2 | (with_reducible refine Kd.C_alloc ?_ _) | (with_reducible refine Kd.C_drewN ?_ _) | (with_reducible refine Kd.C_drew ?_))))
      (case side4 => exact (Kd.S_reads' HO342.out).2.1)
      (case side5 => exact (by repeat (first | exact (Kd.S_reads' HO347.out).2.2 | (with_reducible refine Kd.C_alloc ?_ _) | (with_reducible refine Kd.C_drewN ?_ _) | (with_reducible refine Kd.C_drew ?_))))
      (case side6 => exact (Kd.S_reads' HO347.out).2.1)
      (case side7 => exact (by repeat (first | exact (Kd.S_reads' HO350.out).2.2 | (with_reducible refine Kd.C_alloc ?_ _) | (with_reducible refine Kd.C_drewN ?_ _) | (with_reducible refine Kd.C_drew ?_))))
      (case side8 => exact (Kd.S_reads' HO350.out).2.1)
      rintro e w58 ⟨rfl, hb⟩
      refine ⟨_, rfl, ?_⟩
      have n0_ := Aside0.mk (Kd.S_below q14_ hb)
      have n1_ := Aside0.mk (Kd.S_below q15_ hb)
      have n2_ := Aside0.mk (Kd.S_below q37_ hb)
      have n3_ := Aside0.mk (Kd.S_below q38_ hb)
      have n4_ := Aside0.mk (Kd.S_below (by (with_reducible repeat (first | apply Kd.S_alloc | apply Kd.S_drewN | apply Kd.S_drew)); exact HO347.out) hb)
      have n5_ := Aside0.mk (Kd.S_below (by (with_reducible repeat (first | apply Kd.S_alloc | apply Kd.S_drewN | apply Kd.S_drew)); exact HO350.out) hb)
      have n6_ := Aside0.mk (blk_below (g := gb328) (o := .cells #[.slice A0_0 l0_0.length c0_0, .slice A0_1 l0_1.length c0_1] 25 (0, 0)) q8_ hb)
      have n7_ := Aside0.mk (blk_below (g := gb343) (o := .cells #[.slice Ao49 t337.length co49, .slice Ao52 t340.length co52] 30 (0, 0)) (by (with_reducible repeat (first | refine blk_drewN ?_ _ | refine blk_drew ?_ | refine blk_alloc ?_ _)); exact BK343.out) hb)
      have n8_ := Aside0.mk (below_step q13_ hb)
      clear HO332
      clear HO335
      clear HO339
      clear HO342
      clear HO347
      clear HO350
      clear BK328
      clear BK343
      clear HB
      have HO332 := n0_
      have HO335 := n1_
      have HO339 := n2_
      have HO342 := n3_
      have HO347 := n4_
      have HO350 := n5_
      have BK328 := n6_
      have BK343 := n7_
      have HB := n8_
      clear n0_ n1_ n2_ n3_ n4_ n5_ n6_ n7_ n8_
      (try clear hb)
      (try clear hb2)
      (try clear hk)
      (try clear hi)
      refine hK.out _ _ ⟨(blk_cell BK343.out 0).trans rfl, (blk_cell BK343.out 1).trans rfl, (blk_cell BK328.out 0).trans rfl, (blk_cell BK328.out 1).trans rfl⟩ (fun hHeld => ?_)
      clear hK K
      refine norm_ (a' := ?_) ?_ ?_
      rotate_left
      ·show Act.put _ (some 33) _ = _
       simp only [Act.put, List.setIfInBounds_toArray, List.set_cons_zero, List.set_cons_succ, i64_w, i32_w]
       rfl
      refine pure_ (i := 4) (N := some 34) (v := ?_) (a' := ?_) #[true, true, true, true, true] rfl rfl (by kernel_rfl) (fun _ _ _ h => h) (Or.inl ⟨by rfl, ?_⟩) ?_ ?_
      rotate_left; exact pw_; rotate_left; exact pz_
      refine done_ (by kernel_rfl) ?_
      try go_wp2
      go_ret
      exact ⟨by first | rfl | (simp [errW_none, errW_some] <;> rfl) | (simp [*, errW_none, errW_some] <;> rfl), by repeat (first | (with_reducible first | exact HB.out | apply below_alloc | apply pw_below_drewN | apply below_drew1 | refine below_set ?_ GE328.out | refine below_set ?_ GE343.out) | exact HB.out)⟩
    ·rw [if_neg c13] at H
     have c13b0 : (t344 == t336) = false := beq_eq_false_iff_ne.mpr c13
     have c13b1 : (t344 != t336) = true := bne_iff_ne.mpr c13
     obtain rfl := Option.some.inj H
     go_enter Try.func4, Try.ntmps4
     go_wp2_with (first | ((with_reducible refine gate_dst (N := 3) rfl ?_); refine box_event ?hg (N := 3) ?hd (cs := #[.slice A0_0 l0_0.length c0_0, .slice A0_1 l0_1.length c0_1]) (t := 25) ?hr ?_; (case hd => rfl); (case hg => rfl); (case hr => first | (go_simp; done) | (go_simp; rfl)); intro gb328 hg w59 hbox hb; have n0_ := Aside0.mk (below_step q1_ hb); have n1_ := Aside0.mk (hbox); have n2_ := Aside0.mk ((by rw [hg]; exact (below_size q1_) : w.heap.size ≤ gb328)); have n3_ := Aside0.mk ((by rw [hg]; exact (below_size q1_) : w.heap.size ≤ gb328)); clear HB; have HB := n0_; have BK328 := n1_; have GW328 := n2_; have GE328 := n3_; clear n0_ n1_ n2_ n3_; clear hb hbox hg; have hcz60_0 : w59.cell? ⟨gb328, 0, none⟩ = some (.slice A0_0 l0_0.length c0_0) := (blk_cell BK328.out 0).trans rfl; have hcz60_1 : w59.cell? ⟨gb328, 1, none⟩ = some (.slice A0_1 l0_1.length c0_1) := (blk_cell BK328.out 1).trans rfl; have hfz60_0 := blk_frozen BK328.out 0; have hfz60_1 := blk_frozen BK328.out 1) | ((with_reducible refine gate_callee (f := 14) rfl ?_); refine goesL_ (some 13) rfl rfl Try.func14 (by kernel_rfl) rfl #[.agg #[.slice A0_0 l0_0.length c0_0, .slice A0_1 l0_1.length c0_1], .int .i64 1048576] rfl q0_ ?_; (with_reducible refine (laws_szWeave.calls k _ _ l0_0 _ _ l0_1 1048576 t329 _ ?side1 ?side2 ?side3 ?side4 A4.out).mono ?_); (case side1 => exact q3_); (case side2 => exact HC0_0.out); (case side3 => exact q4_); (case side4 => exact HC0_1.out); rintro e w61 ⟨rfl, hb⟩; refine ⟨_, rfl, ?_⟩; have n0_ := Aside0.mk (blk_below (g := gb328) (o := .cells #[.slice A0_0 l0_0.length c0_0, .slice A0_1 l0_1.length c0_1] 25 (0, 0)) q8_ hb); have n1_ := Aside0.mk (below_step q5_ hb); clear BK328; clear HB; have BK328 := n0_; have HB := n1_; clear n0_ n1_; (try clear hb); (try clear hb2); (try clear hk); (try clear hi); have hcz62_0 : w61.cell? ⟨gb328, 0, none⟩ = some (.slice A0_0 l0_0.length c0_0) := (blk_cell BK328.out 0).trans rfl; have hcz62_1 : w61.cell? ⟨gb328, 1, none⟩ = some (.slice A0_1 l0_1.length c0_1) := (blk_cell BK328.out 1).trans rfl; have hfz62_0 := blk_frozen BK328.out 0; have hfz62_1 := blk_frozen BK328.out 1) | ((with_reducible refine gate_callee (f := 16) rfl ?_); refine goesL_ (some 17) rfl rfl Try.func16 (by kernel_rfl) rfl #[.agg #[.slice A0_0 l0_0.length c0_0, .slice A0_1 l0_1.length c0_1]] rfl q0_ ?_; (with_reducible refine (laws_toWeave.calls k _ _ l0_0 _ _ l0_1 t330 t333 _ ?side1 ?side2 ?side3 ?side4 A9.out).mono ?_); (case side1 => exact q3_); (case side2 => exact HC0_0.out); (case side3 => exact q4_); (case side4 => exact HC0_1.out); rintro e w63 ⟨v331, v334, rfl, ho0, ho1, hb⟩; refine ⟨_, rfl, ?_⟩; have n0_ := Aside0.mk (Kd.S_lower ho0 (below_size q5_)); have n1_ := Aside0.mk (Kd.S_lower ho1 (below_size q5_)); have n2_ := Aside0.mk (blk_below (g := gb328) (o := .cells #[.slice A0_0 l0_0.length c0_0, .slice A0_1 l0_1.length c0_1] 25 (0, 0)) q8_ hb); have n3_ := Aside0.mk (below_step q5_ hb); clear BK328; clear HB; have HO332 := n0_; have HO335 := n1_; have BK328 := n2_; have HB := n3_; clear n0_ n1_ n2_ n3_; (try clear hb); (try clear hb2); (try clear hk); (try clear hi); (try clear ho0); (try clear ho1); obtain ⟨Ao64, co64, eo64⟩ := Kd.S_slice HO332.out; subst eo64; obtain ⟨Ao65, co65, eo65⟩ := Kd.S_slice HO335.out; subst eo65) | ((with_reducible refine gate_callee (f := 19) rfl ?_); refine goesL_ (some 20) rfl rfl Try.func19 (by kernel_rfl) rfl #[.agg #[.slice Ao64 t330.length co64, .slice Ao65 t333.length co65], .int .i64 a1, .int .i64 a2] rfl q0_ ?_; (with_reducible refine (spec_Shared.calls k _ _ t330 _ _ t333 a1 a2 t336 _ ?side1 ?side2 ?side3 ?side4 A10.out).mono ?_); (case side1 => exact (by repeat (first | exact (Kd.S_reads' HO332.out).2.2 | (with_reducible refine Kd.C_alloc ?_ _) | (with_reducible refine Kd.C_drewN ?_ _) | (with_reducible refine Kd.C_drew ?_)))); (case side2 => exact (Kd.S_reads' HO332.out).2.1); (case side3 => exact (by repeat (first | exact (Kd.S_reads' HO335.out).2.2 | (with_reducible refine Kd.C_alloc ?_ _) | (with_reducible refine Kd.C_drewN ?_ _) | (with_reducible refine Kd.C_drew ?_)))); (case side4 => exact (Kd.S_reads' HO335.out).2.1); rintro e w66 ⟨rfl, hb⟩; refine ⟨_, rfl, ?_⟩; have n0_ := Aside0.mk (Kd.S_below q14_ hb); have n1_ := Aside0.mk (Kd.S_below q15_ hb); have n2_ := Aside0.mk (blk_below (g := gb328) (o := .cells #[.slice A0_0 l0_0.length c0_0, .slice A0_1 l0_1.length c0_1] 25 (0, 0)) q8_ hb); have n3_ := Aside0.mk (below_step q5_ hb); clear HO332; clear HO335; clear BK328; clear HB; have HO332 := n0_; have HO335 := n1_; have BK328 := n2_; have HB := n3_; clear n0_ n1_ n2_ n3_; (try clear hb); (try clear hb2); (try clear hk); (try clear hi); have hcz67_0 : w66.cell? ⟨gb328, 0, none⟩ = some (.slice A0_0 l0_0.length c0_0) := (blk_cell BK328.out 0).trans rfl; have hcz67_1 : w66.cell? ⟨gb328, 1, none⟩ = some (.slice A0_1 l0_1.length c0_1) := (blk_cell BK328.out 1).trans rfl; have hfz67_0 := blk_frozen BK328.out 0; have hfz67_1 := blk_frozen BK328.out 1) | ((with_reducible refine gate_callee (f := 16) rfl ?_); refine goesL_ (some 22) rfl rfl Try.func16 (by kernel_rfl) rfl #[.agg #[.slice A0_0 l0_0.length c0_0, .slice A0_1 l0_1.length c0_1]] rfl q0_ ?_; (with_reducible refine (laws_toWeave.calls k _ _ l0_0 _ _ l0_1 t337 t340 _ ?side1 ?side2 ?side3 ?side4 A11.out).mono ?_); (case side1 => exact q3_); (case side2 => exact HC0_0.out); (case side3 => exact q4_); (case side4 => exact HC0_1.out); rintro e w68 ⟨v338, v341, rfl, ho0, ho1, hb⟩; refine ⟨_, rfl, ?_⟩; have n0_ := Aside0.mk (Kd.S_elder' q14_ (Kd.S_base ho0) hb); have n1_ := Aside0.mk (Kd.S_elder' q15_ (Kd.S_base ho1) hb); have n2_ := Aside0.mk (Kd.S_lower (Kd.S_new' ho0 (Kd.S_lt q14_)) (below_size q5_)); have n3_ := Aside0.mk (Kd.S_lower (Kd.S_new' ho1 (Kd.S_lt q15_)) (below_size q5_)); have n4_ := Aside0.mk (blk_below (g := gb328) (o := .cells #[.slice A0_0 l0_0.length c0_0, .slice A0_1 l0_1.length c0_1] 25 (0, 0)) q8_ hb); have n5_ := Aside0.mk (below_step q5_ hb); clear HO332; clear HO335; clear BK328; clear HB; have HO332 := n0_; have HO335 := n1_; have HO339 := n2_; have HO342 := n3_; have BK328 := n4_; have HB := n5_; clear n0_ n1_ n2_ n3_ n4_ n5_; (try clear hb); (try clear hb2); (try clear hk); (try clear hi); (try clear ho0); (try clear ho1)) | ((with_reducible refine gate_dst (N := 9) rfl ?_); refine box_event ?hg (N := 9) ?hd (cs := #[.slice none 0 0, .slice none 0 0]) (t := 30) ?hr ?_; (case hd => rfl); (case hg => rfl); (case hr => first | (go_simp; done) | (go_simp; rfl)); intro gb343 hg w69 hbox hb; have n0_ := Aside0.mk (Kd.S_below q14_ hb); have n1_ := Aside0.mk (Kd.S_below q15_ hb); have n2_ := Aside0.mk (Kd.S_below q37_ hb); have n3_ := Aside0.mk (Kd.S_below q38_ hb); have n4_ := Aside0.mk (blk_below (g := gb328) (o := .cells #[.slice A0_0 l0_0.length c0_0, .slice A0_1 l0_1.length c0_1] 25 (0, 0)) q8_ hb); have n5_ := Aside0.mk (below_step q5_ hb); have n6_ := Aside0.mk (hbox); have n7_ := Aside0.mk ((by rw [hg]; exact (below_size q5_) : w.heap.size ≤ gb343)); have n8_ := Aside0.mk ((by rw [hg]; exact (below_size q5_) : w.heap.size ≤ gb343)); have n9_ := Aside0.mk ((by rw [hg]; exact Nat.ne_of_lt (blk_lt (g := gb328) (o := .cells #[.slice A0_0 l0_0.length c0_0, .slice A0_1 l0_1.length c0_1] 25 (0, 0)) q8_) : gb328 ≠ gb343)); have n10_ := Aside0.mk ((by rw [hg]; exact Nat.ne_of_gt (blk_lt (g := gb328) (o := .cells #[.slice A0_0 l0_0.length c0_0, .slice A0_1 l0_1.length c0_1] 25 (0, 0)) q8_) : gb343 ≠ gb328)); clear HO332; clear HO335; clear HO339; clear HO342; clear BK328; clear HB; have HO332 := n0_; have HO335 := n1_; have HO339 := n2_; have HO342 := n3_; have BK328 := n4_; have HB := n5_; have BK343 := n6_; have GW343 := n7_; have GE343 := n8_; have NB328_343 := n9_; have NB343_328 := n10_; clear n0_ n1_ n2_ n3_ n4_ n5_ n6_ n7_ n8_ n9_ n10_; clear hb hbox hg; obtain ⟨Ao70, co70, eo70⟩ := Kd.S_slice HO339.out; subst eo70; have hnb71 := NB343_328.out; have hnc71 := NB328_343.out; have hcz72_0 : w69.cell? ⟨gb343, 0, none⟩ = some (.slice none 0 0) := (blk_cell BK343.out 0).trans rfl; have hcz72_1 : w69.cell? ⟨gb343, 1, none⟩ = some (.slice none 0 0) := (blk_cell BK343.out 1).trans rfl; have hfz72_0 := blk_frozen BK343.out 0; have hfz72_1 := blk_frozen BK343.out 1; obtain ⟨Ao73, co73, eo73⟩ := Kd.S_slice HO342.out; subst eo73) | ((with_reducible refine gate_callee (f := 20) rfl ?_); refine goesL_ (some 26) rfl rfl Try.func20 (by kernel_rfl) rfl #[.agg #[.slice Ao70 t337.length co70, .slice Ao73 t340.length co73], .int .i64 a1, .int .i64 a2] rfl q0_ ?_; (with_reducible refine (impl_Shared.calls k _ _ t337 _ _ t340 a1 a2 t344 _ ?side1 ?side2 ?side3 ?side4 A12.out).mono ?_); (case side1 => refine (Kd.S_reads' (e := 36) (base := w.heap.size) (ok := fun k_ => (True ∧ some k_ ≠ (.slice Ao64 t330.length co64 : Value).ownBlock)) (n := t337.length) (c := co70) ?_).2.2; exact (by (with_reducible repeat (first | apply Kd.S_alloc | apply Kd.S_drewN | apply Kd.S_drew)); exact (Kd.S_mono (Kd.S_far (p := ⟨gb343, 1, none⟩) (Kd.S_far (p := ⟨gb343, 0, none⟩) (Kd.S_types HO339.out BK343.out (by decide)) (fun _ hk => hk.2) (.slice Ao70 t337.length co70)) (fun _ hk => hk.2) (.slice Ao73 t340.length co73)) (fun _ h_ => h_.1)))); (case side2 => exact (Kd.S_reads' HO339.out).2.1); (case side3 => refine (Kd.S_reads' (e := 68) (base := w.heap.size) (ok := fun k_ => (True ∧ some k_ ≠ (.slice Ao65 t333.length co65 : Value).ownBlock)) (n := t340.length) (c := co73) ?_).2.2; exact (by (with_reducible repeat (first | apply Kd.S_alloc | apply Kd.S_drewN | apply Kd.S_drew)); exact (Kd.S_mono (Kd.S_far (p := ⟨gb343, 1, none⟩) (Kd.S_far (p := ⟨gb343, 0, none⟩) (Kd.S_types HO342.out BK343.out (by decide)) (fun _ hk => hk.2) (.slice Ao70 t337.length co70)) (fun _ hk => hk.2) (.slice Ao73 t340.length co73)) (fun _ h_ => h_.1)))); (case side4 => exact (Kd.S_reads' HO342.out).2.1); rintro e w74 ⟨rfl, hb⟩; refine ⟨_, rfl, ?_⟩; have n0_ := Aside0.mk (Kd.S_below (by (with_reducible repeat (first | apply Kd.S_alloc | apply Kd.S_drewN | apply Kd.S_drew)); exact (Kd.S_mono (Kd.S_far (p := ⟨gb343, 1, none⟩) (Kd.S_far (p := ⟨gb343, 0, none⟩) (Kd.S_types HO332.out BK343.out (by decide)) (fun _ hk => hk.2) (.slice Ao70 t337.length co70)) (fun _ hk => hk.2) (.slice Ao73 t340.length co73)) (fun _ h_ => h_.1))) hb); have n1_ := Aside0.mk (Kd.S_below (by (with_reducible repeat (first | apply Kd.S_alloc | apply Kd.S_drewN | apply Kd.S_drew)); exact (Kd.S_mono (Kd.S_far (p := ⟨gb343, 1, none⟩) (Kd.S_far (p := ⟨gb343, 0, none⟩) (Kd.S_types HO335.out BK343.out (by decide)) (fun _ hk => hk.2) (.slice Ao70 t337.length co70)) (fun _ hk => hk.2) (.slice Ao73 t340.length co73)) (fun _ h_ => h_.1))) hb); have n2_ := Aside0.mk (Kd.S_below (by (with_reducible repeat (first | apply Kd.S_alloc | apply Kd.S_drewN | apply Kd.S_drew)); exact (Kd.S_mono (Kd.S_far (p := ⟨gb343, 1, none⟩) (Kd.S_far (p := ⟨gb343, 0, none⟩) (Kd.S_types HO339.out BK343.out (by decide)) (fun _ hk => hk.2) (.slice Ao70 t337.length co70)) (fun _ hk => hk.2) (.slice Ao73 t340.length co73)) (fun _ h_ => h_.1))) hb); have n3_ := Aside0.mk (Kd.S_below (by (with_reducible repeat (first | apply Kd.S_alloc | apply Kd.S_drewN | apply Kd.S_drew)); exact (Kd.S_mono (Kd.S_far (p := ⟨gb343, 1, none⟩) (Kd.S_far (p := ⟨gb343, 0, none⟩) (Kd.S_types HO342.out BK343.out (by decide)) (fun _ hk => hk.2) (.slice Ao70 t337.length co70)) (fun _ hk => hk.2) (.slice Ao73 t340.length co73)) (fun _ h_ => h_.1))) hb); have n4_ := Aside0.mk (blk_below (g := gb328) (o := .cells #[.slice A0_0 l0_0.length c0_0, .slice A0_1 l0_1.length c0_1] 25 (0, 0)) q27_ hb); have n5_ := Aside0.mk (blk_below (g := gb343) (o := .cells #[.slice Ao70 t337.length co70, .slice Ao73 t340.length co73] 30 (0, 0)) (by (with_reducible repeat (first | refine blk_drewN ?_ _ | refine blk_drew ?_ | refine blk_alloc ?_ _)); refine blk_put (cs := #[.slice Ao70 t337.length co70, .slice none 0 0]) ?_ 1 _ rfl; (with_reducible repeat (first | refine blk_drewN ?_ _ | refine blk_drew ?_ | refine blk_alloc ?_ _)); refine blk_put (cs := #[.slice none 0 0, .slice none 0 0]) ?_ 0 _ rfl; (with_reducible repeat (first | refine blk_drewN ?_ _ | refine blk_drew ?_ | refine blk_alloc ?_ _)); exact BK343.out) hb); have n6_ := Aside0.mk (below_step q13_ hb); clear HO332; clear HO335; clear HO339; clear HO342; clear BK328; clear BK343; clear HB; have HO332 := n0_; have HO335 := n1_; have HO339 := n2_; have HO342 := n3_; have BK328 := n4_; have BK343 := n5_; have HB := n6_; clear n0_ n1_ n2_ n3_ n4_ n5_ n6_; (try clear hb); (try clear hb2); (try clear hk); (try clear hi)))
     go_ret
     exact ⟨by first | rfl | (simp [errW_none, errW_some] <;> rfl) | (simp [*, errW_none, errW_some] <;> rfl), by repeat (first | (with_reducible first | exact HB.out | apply below_alloc | apply pw_below_drewN | apply below_drew1 | refine below_set ?_ GE328.out | refine below_set ?_ GE343.out) | exact HB.out)⟩
/-- What is left of laws_FnExactShared. -/
def laws_FnExactShared.Pure : Prop := ∀ (l0_0 : List (List Int)) (l0_1 : List (S109)), ∀ (a1 : Int), ∀ (a2 : Int), (l0_0.length * 24 ≤ 140737488351232 ∧ ∀ x0 ∈ l0_0, x0.length * 8 ≤ 140737488351232 ∧ ∀ x1 ∈ x0, (Lit.int .i64 x1).wf = true) → (l0_1.length * 56 ≤ 140737488351232 ∧ ∀ x0 ∈ l0_1, (x0.f0.size ≤ 140737488351232) ∧ ((Lit.int .i64 x0.f1).wf = true) ∧ ((Lit.int .i64 x0.f2).wf = true) ∧ (x0.f3.length * 8 ≤ 140737488351232 ∧ ∀ x1 ∈ x0.f3, (Lit.int .i64 x1).wf = true)) → ((Lit.int .i64 a1).wf = true) → ((Lit.int .i64 a2).wf = true) → ∃ k, laws_FnExactShared.f k l0_0 l0_1 a1 a2 = some true

end Go.Proofs.Ytcgelllmdcnmfaa.PFnExactShared
-- (flat)
-- (thin)
