-- Made by a program (the kit's print with additions of this session: wip/tools/patch_print.py, ext.py).
-- (turned)
import Derived.Test.YtcgelllmdcnmfaaPFnExactLivesInx0
import Derived.Test.YtcgelllmdcnmfaaPFnExactLivesInx1
import Derived.Test.YtcgelllmdcnmfaaPFnExactLivesInx2
import Derived.Test.YtcgelllmdcnmfaaPFnExactLivesInx3
import Derived.Test.YtcgelllmdcnmfaaPFnExactLivesInx7
import Derived.Test.YtcgelllmdcnmfaaPFnExactLivesInx11
namespace Go.Proofs.Ytcgelllmdcnmfaa.PFnExactLivesIn
open Go.RowKit Go.Proofs.YtcgelllmdcnmfaaW.PrintWords Go.Proofs.YtcgelllmdcnmfaaW.PrintLast Go.Proofs.YtcgelllmdcnmfaaW.PrintMore
attribute [local go_sem] max2_int min2_int max_two min_two max_three min_three max_four min_four   -- for this text's walks alone
set_option linter.unusedVariables false
set_option linter.unusedSimpArgs false

/-! ### laws_FnExactLivesIn: function 7 -/
def laws_FnExactLivesIn.j0 : Nat → Int → List Int → List Int → Bool → List (List Int) → List (S109) → Option (Bool)
  | 0, _, _, _, _, _, _ => none
  | k + 1, x1, x6, x8, x46, x328000, x328001 => if x46 = true then (some false) else ((laws_markIntS.f k x8 1).bind fun bt358 => ((laws_heldIntS.f k bt358.2 1).bind fun t360 => (if t360 < 0 then (some false) else (if t360 = bt358.1 then ((laws_toWeave.f k x328000 x328001).bind fun bt361 => ((impl_LivesIn.f k bt361.1 bt361.2 x1).bind fun t367 => ((laws_eqIntS.f k t367 x6).bind fun t370 => (if t370 = true then ((laws_heldIntS.f k bt358.2 1).bind fun t371 => (if t371 < 0 then (some false) else (if t371 = bt358.1 then (some true) else (some false)))) else (some false))))) else (some false)))))
def laws_FnExactLivesIn.f (k : Nat) (l0_0 : List (List Int)) (l0_1 : List (S109)) (a1 : Int) : Option (Bool) := (laws_szWeave.f k l0_0 l0_1 1048576).bind fun t328 => (if t328 < 0 then (some true) else ((laws_toWeave.f k l0_0 l0_1).bind fun bt329 => ((spec_LivesIn.f k bt329.1 bt329.2 a1).bind fun t335 => ((laws_toWeave.f k l0_0 l0_1).bind fun bt338 => ((impl_LivesIn.f k bt338.1 bt338.2 a1).bind fun t345 => ((laws_eqIntS.f k t345 t335).bind fun t348 => (if t348 = true then ((laws_toWeave.f k l0_0 l0_1).bind fun bt349 => ((laws_eqWeave.f k bt338.1 bt338.2 bt349.1 bt349.2).bind fun t355 => (if t355 = true then ((laws_markWeave.f bt338.1 bt338.2 1).bind fun t356 => (if t356 < 0 then (laws_FnExactLivesIn.j0 k a1 t335 t345 true l0_0 l0_1) else ((laws_eqIntS.f k t345 t335).bind fun t357 => (laws_FnExactLivesIn.j0 k a1 t335 t345 (!t357) l0_0 l0_1)))) else (some false)))) else (some false))))))))
theorem laws_FnExactLivesIn.mono_l : ∀ k, (∀ y0 y1 y2 y3 y4 y5, LeO (laws_FnExactLivesIn.j0 k y0 y1 y2 y3 y4 y5) (laws_FnExactLivesIn.j0 (k + 1) y0 y1 y2 y3 y4 y5))
  | 0 => fun _ _ _ _ _ _ r h => by simp [laws_FnExactLivesIn.j0] at h
  | k + 1 => by
    have ih0 := laws_FnExactLivesIn.mono_l k
    ·intro y0 y1 y2 y3 y4 y5
     unfold laws_FnExactLivesIn.j0
     repeat' first
     | (with_reducible exact ih0 _ _ _ _ _ _)
     | (with_reducible exact impl_LivesIn.mono _ _ _ _)
     | (with_reducible exact laws_eqIntS.mono _ _ _)
     | (with_reducible exact laws_eqWeave.mono _ _ _ _ _)
     | (with_reducible exact laws_heldIntS.mono _ _ _)
     | (with_reducible exact laws_markIntS.mono _ _ _)
     | (with_reducible exact laws_szWeave.mono _ _ _ _)
     | (with_reducible exact laws_toWeave.mono _ _ _)
     | (with_reducible exact spec_LivesIn.mono _ _ _ _)
     | (with_reducible exact LeO.refl _)
     | (with_reducible exact LeO.none _)
     | (with_reducible refine LeO.ite ?_ ?_)
     | (with_reducible refine LeO.bind ?_ (fun _ => ?_))
     | exact ih0 _ _ _ _ _ _
     | exact impl_LivesIn.mono _ _ _ _
     | exact laws_eqIntS.mono _ _ _
     | exact laws_eqWeave.mono _ _ _ _ _
     | exact laws_heldIntS.mono _ _ _
     | exact laws_markIntS.mono _ _ _
     | exact laws_szWeave.mono _ _ _ _
     | exact laws_toWeave.mono _ _ _
     | exact spec_LivesIn.mono _ _ _ _
     | exact LeO.none _
     | refine LeO.ite ?_ ?_
     | refine LeO.bind ?_ (fun _ => ?_)
theorem laws_FnExactLivesIn.mono : ∀ a0 a1 a2 k, LeO (laws_FnExactLivesIn.f k a0 a1 a2) (laws_FnExactLivesIn.f (k + 1) a0 a1 a2) := by
  intro a0 a1 a2 k
  have ih0 := laws_FnExactLivesIn.mono_l k
  unfold laws_FnExactLivesIn.f
  repeat' first
     | (with_reducible exact ih0 _ _ _ _ _ _)
     | (with_reducible exact impl_LivesIn.mono _ _ _ _)
     | (with_reducible exact laws_eqIntS.mono _ _ _)
     | (with_reducible exact laws_eqWeave.mono _ _ _ _ _)
     | (with_reducible exact laws_heldIntS.mono _ _ _)
     | (with_reducible exact laws_markIntS.mono _ _ _)
     | (with_reducible exact laws_szWeave.mono _ _ _ _)
     | (with_reducible exact laws_toWeave.mono _ _ _)
     | (with_reducible exact spec_LivesIn.mono _ _ _ _)
     | (with_reducible exact LeO.refl _)
     | (with_reducible exact LeO.none _)
     | (with_reducible refine LeO.ite ?_ ?_)
     | (with_reducible refine LeO.bind ?_ (fun _ => ?_))
     | exact ih0 _ _ _ _ _ _
     | exact impl_LivesIn.mono _ _ _ _
     | exact laws_eqIntS.mono _ _ _
     | exact laws_eqWeave.mono _ _ _ _ _
     | exact laws_heldIntS.mono _ _ _
     | exact laws_markIntS.mono _ _ _
     | exact laws_szWeave.mono _ _ _ _
     | exact laws_toWeave.mono _ _ _
     | exact spec_LivesIn.mono _ _ _ _
     | exact LeO.none _
     | refine LeO.ite ?_ ?_
     | refine LeO.bind ?_ (fun _ => ?_)
set_option maxHeartbeats 8000000 in
set_option maxRecDepth 100000 in
theorem laws_FnExactLivesIn.calls (k : Nat) (A0_0 : Option Addr) (c0_0 : Nat) (l0_0 : List (List Int)) (A0_1 : Option Addr) (c0_1 : Nat) (l0_1 : List (S109)) (a1 : Int) (r : Bool) (w : World) (hr0_0 : Kd.C (Kd.slice 3 (Kd.int .i64)) w A0_0 l0_0.length l0_0) (hc0_0 : l0_0.length ≤ c0_0) (hr0_1 : Kd.C k109 w A0_1 l0_1.length l0_1) (hc0_1 : l0_1.length ≤ c0_1) (h : laws_FnExactLivesIn.f k l0_0 l0_1 a1 = some r) :
    Calls Try.prog 7 #[.agg #[.slice A0_0 l0_0.length c0_0, .slice A0_1 l0_1.length c0_1], .int .i64 a1] w fun e w' => e = .returned (.bool r) ∧ Below w.heap.size w w' := by
  have hu25 := Try.underlying25
  have hu30 := Try.underlying30
  have HR0_0 := Aside0.mk hr0_0
  have HC0_0 := Aside0.mk hc0_0
  clear hr0_0 hc0_0
  have HR0_1 := Aside0.mk hr0_1
  have HC0_1 := Aside0.mk hc0_1
  clear hr0_1 hc0_1
  have HB := Aside0.mk (Below.refl w.heap.size w)
  have H : ((laws_szWeave.f k l0_0 l0_1 1048576).bind fun t328 => (if t328 < 0 then (some true) else ((laws_toWeave.f k l0_0 l0_1).bind fun bt329 => ((spec_LivesIn.f k bt329.1 bt329.2 a1).bind fun t335 => ((laws_toWeave.f k l0_0 l0_1).bind fun bt338 => ((impl_LivesIn.f k bt338.1 bt338.2 a1).bind fun t345 => ((laws_eqIntS.f k t345 t335).bind fun t348 => (if t348 = true then ((laws_toWeave.f k l0_0 l0_1).bind fun bt349 => ((laws_eqWeave.f k bt338.1 bt338.2 bt349.1 bt349.2).bind fun t355 => (if t355 = true then ((laws_markWeave.f bt338.1 bt338.2 1).bind fun t356 => (if t356 < 0 then (laws_FnExactLivesIn.j0 k a1 t335 t345 true l0_0 l0_1) else ((laws_eqIntS.f k t345 t335).bind fun t357 => (laws_FnExactLivesIn.j0 k a1 t335 t345 (!t357) l0_0 l0_1)))) else (some false)))) else (some false))))))))) = some r := h
  clear h
  replace H := Option.bind_eq_some_iff.mp H
  obtain ⟨t328, A30, H⟩ := H
  replace H : (if t328 < 0 then (some true) else ((laws_toWeave.f k l0_0 l0_1).bind fun bt329 => ((spec_LivesIn.f k bt329.1 bt329.2 a1).bind fun t335 => ((laws_toWeave.f k l0_0 l0_1).bind fun bt338 => ((impl_LivesIn.f k bt338.1 bt338.2 a1).bind fun t345 => ((laws_eqIntS.f k t345 t335).bind fun t348 => (if t348 = true then ((laws_toWeave.f k l0_0 l0_1).bind fun bt349 => ((laws_eqWeave.f k bt338.1 bt338.2 bt349.1 bt349.2).bind fun t355 => (if t355 = true then ((laws_markWeave.f bt338.1 bt338.2 1).bind fun t356 => (if t356 < 0 then (laws_FnExactLivesIn.j0 k a1 t335 t345 true l0_0 l0_1) else ((laws_eqIntS.f k t345 t335).bind fun t357 => (laws_FnExactLivesIn.j0 k a1 t335 t345 (!t357) l0_0 l0_1)))) else (some false)))) else (some false)))))))) = some r := H
  have A3 := Aside0.mk A30
  clear A30
  by_cases c4 : t328 < 0
  · rw [if_pos c4] at H
    have c4b0 : decide (t328 < 0) = true := decide_eq_true c4
    clear c4
    obtain rfl := Option.some.inj H
    go_enter Try.func7, Try.ntmps7
    go_wp2_with (first | ((with_reducible refine gate_dst (N := 2) rfl ?_); refine box_event ?hg (N := 2) ?hd (cs := #[.slice A0_0 l0_0.length c0_0, .slice A0_1 l0_1.length c0_1]) (t := 25) ?hr ?_; (case hd => rfl); (case hg => rfl); (case hr => first | (go_simp; done) | (go_simp; rfl)); intro gb327 hg w5 hbox hb; have n0_ := Aside0.mk (below_step q1_ hb); have n1_ := Aside0.mk (hbox); have n2_ := Aside0.mk ((by rw [hg]; exact (below_size q1_) : w.heap.size ≤ gb327)); have n3_ := Aside0.mk ((by rw [hg]; exact (below_size q1_) : w.heap.size ≤ gb327)); clear HB; have HB := n0_; have BK327 := n1_; have GW327 := n2_; have GE327 := n3_; clear n0_ n1_ n2_ n3_; clear hb hbox hg; have hcz6_0 : w5.cell? ⟨gb327, 0, none⟩ = some (.slice A0_0 l0_0.length c0_0) := (blk_cell BK327.out 0).trans rfl; have hcz6_1 : w5.cell? ⟨gb327, 1, none⟩ = some (.slice A0_1 l0_1.length c0_1) := (blk_cell BK327.out 1).trans rfl; have hfz6_0 := blk_frozen BK327.out 0; have hfz6_1 := blk_frozen BK327.out 1) | ((with_reducible refine gate_callee (f := 14) rfl ?_); refine goesL_ (some 15) rfl rfl Try.func14 (by kernel_rfl) rfl #[.agg #[.slice A0_0 l0_0.length c0_0, .slice A0_1 l0_1.length c0_1], .int .i64 1048576] rfl q0_ ?_; (with_reducible refine (laws_szWeave.calls k _ _ l0_0 _ _ l0_1 1048576 t328 _ ?side1 ?side2 ?side3 ?side4 A3.out).mono ?_); (case side1 => exact q4_); (case side2 => exact HC0_0.out); (case side3 => exact q7_); (case side4 => exact HC0_1.out); rintro e w7 ⟨rfl, hb⟩; refine ⟨_, rfl, ?_⟩; have n0_ := Aside0.mk (blk_below (g := gb327) (o := .cells #[.slice A0_0 l0_0.length c0_0, .slice A0_1 l0_1.length c0_1] 25 (0, 0)) q6_ hb); have n1_ := Aside0.mk (below_step q3_ hb); clear BK327; clear HB; have BK327 := n0_; have HB := n1_; clear n0_ n1_; (try clear hb); (try clear hb2); (try clear hk); (try clear hi)))
    go_ret
    exact ⟨by first | rfl | (simp [errW_none, errW_some] <;> rfl) | (simp [*, errW_none, errW_some] <;> rfl), by repeat (first | (with_reducible first | exact HB.out | apply below_alloc | apply pw_below_drewN | apply below_drew1 | refine below_set ?_ GE327.out) | exact HB.out)⟩
  · rw [if_neg c4] at H
    have c4b0 : decide (t328 < 0) = false := decide_eq_false c4
    clear c4
    replace H := Option.bind_eq_some_iff.mp H
    obtain ⟨⟨t329, t332⟩, A80, H⟩ := H
    replace H : ((spec_LivesIn.f k t329 t332 a1).bind fun t335 => ((laws_toWeave.f k l0_0 l0_1).bind fun bt338 => ((impl_LivesIn.f k bt338.1 bt338.2 a1).bind fun t345 => ((laws_eqIntS.f k t345 t335).bind fun t348 => (if t348 = true then ((laws_toWeave.f k l0_0 l0_1).bind fun bt349 => ((laws_eqWeave.f k bt338.1 bt338.2 bt349.1 bt349.2).bind fun t355 => (if t355 = true then ((laws_markWeave.f bt338.1 bt338.2 1).bind fun t356 => (if t356 < 0 then (laws_FnExactLivesIn.j0 k a1 t335 t345 true l0_0 l0_1) else ((laws_eqIntS.f k t345 t335).bind fun t357 => (laws_FnExactLivesIn.j0 k a1 t335 t345 (!t357) l0_0 l0_1)))) else (some false)))) else (some false)))))) = some r := H
    have A8 := Aside0.mk A80
    clear A80
    replace H := Option.bind_eq_some_iff.mp H
    obtain ⟨t335, A90, H⟩ := H
    replace H : ((laws_toWeave.f k l0_0 l0_1).bind fun bt338 => ((impl_LivesIn.f k bt338.1 bt338.2 a1).bind fun t345 => ((laws_eqIntS.f k t345 t335).bind fun t348 => (if t348 = true then ((laws_toWeave.f k l0_0 l0_1).bind fun bt349 => ((laws_eqWeave.f k bt338.1 bt338.2 bt349.1 bt349.2).bind fun t355 => (if t355 = true then ((laws_markWeave.f bt338.1 bt338.2 1).bind fun t356 => (if t356 < 0 then (laws_FnExactLivesIn.j0 k a1 t335 t345 true l0_0 l0_1) else ((laws_eqIntS.f k t345 t335).bind fun t357 => (laws_FnExactLivesIn.j0 k a1 t335 t345 (!t357) l0_0 l0_1)))) else (some false)))) else (some false))))) = some r := H
    have A9 := Aside0.mk A90
    clear A90
    replace H := Option.bind_eq_some_iff.mp H
    obtain ⟨⟨t338, t341⟩, A100, H⟩ := H
    replace H : ((impl_LivesIn.f k t338 t341 a1).bind fun t345 => ((laws_eqIntS.f k t345 t335).bind fun t348 => (if t348 = true then ((laws_toWeave.f k l0_0 l0_1).bind fun bt349 => ((laws_eqWeave.f k t338 t341 bt349.1 bt349.2).bind fun t355 => (if t355 = true then ((laws_markWeave.f t338 t341 1).bind fun t356 => (if t356 < 0 then (laws_FnExactLivesIn.j0 k a1 t335 t345 true l0_0 l0_1) else ((laws_eqIntS.f k t345 t335).bind fun t357 => (laws_FnExactLivesIn.j0 k a1 t335 t345 (!t357) l0_0 l0_1)))) else (some false)))) else (some false)))) = some r := H
    have A10 := Aside0.mk A100
    clear A100
    replace H := Option.bind_eq_some_iff.mp H
    obtain ⟨t345, A110, H⟩ := H
    replace H : ((laws_eqIntS.f k t345 t335).bind fun t348 => (if t348 = true then ((laws_toWeave.f k l0_0 l0_1).bind fun bt349 => ((laws_eqWeave.f k t338 t341 bt349.1 bt349.2).bind fun t355 => (if t355 = true then ((laws_markWeave.f t338 t341 1).bind fun t356 => (if t356 < 0 then (laws_FnExactLivesIn.j0 k a1 t335 t345 true l0_0 l0_1) else ((laws_eqIntS.f k t345 t335).bind fun t357 => (laws_FnExactLivesIn.j0 k a1 t335 t345 (!t357) l0_0 l0_1)))) else (some false)))) else (some false))) = some r := H
    have A11 := Aside0.mk A110
    clear A110
    replace H := Option.bind_eq_some_iff.mp H
    obtain ⟨t348, A120, H⟩ := H
    replace H : (if t348 = true then ((laws_toWeave.f k l0_0 l0_1).bind fun bt349 => ((laws_eqWeave.f k t338 t341 bt349.1 bt349.2).bind fun t355 => (if t355 = true then ((laws_markWeave.f t338 t341 1).bind fun t356 => (if t356 < 0 then (laws_FnExactLivesIn.j0 k a1 t335 t345 true l0_0 l0_1) else ((laws_eqIntS.f k t345 t335).bind fun t357 => (laws_FnExactLivesIn.j0 k a1 t335 t345 (!t357) l0_0 l0_1)))) else (some false)))) else (some false)) = some r := H
    have A12 := Aside0.mk A120
    clear A120
    by_cases c13 : t348 = true
    ·subst c13
     have H1 : ((laws_toWeave.f k l0_0 l0_1).bind fun bt349 => ((laws_eqWeave.f k t338 t341 bt349.1 bt349.2).bind fun t355 => (if t355 = true then ((laws_markWeave.f t338 t341 1).bind fun t356 => (if t356 < 0 then (laws_FnExactLivesIn.j0 k a1 t335 t345 true l0_0 l0_1) else ((laws_eqIntS.f k t345 t335).bind fun t357 => (laws_FnExactLivesIn.j0 k a1 t335 t345 (!t357) l0_0 l0_1)))) else (some false)))) = some r := by rw [if_pos rfl] at H; exact H
     clear H
     have H := H1
     clear H1
     replace H := Option.bind_eq_some_iff.mp H
     obtain ⟨⟨t349, t352⟩, A140, H⟩ := H
     replace H : ((laws_eqWeave.f k t338 t341 t349 t352).bind fun t355 => (if t355 = true then ((laws_markWeave.f t338 t341 1).bind fun t356 => (if t356 < 0 then (laws_FnExactLivesIn.j0 k a1 t335 t345 true l0_0 l0_1) else ((laws_eqIntS.f k t345 t335).bind fun t357 => (laws_FnExactLivesIn.j0 k a1 t335 t345 (!t357) l0_0 l0_1)))) else (some false))) = some r := H
     have A14 := Aside0.mk A140
     clear A140
     replace H := Option.bind_eq_some_iff.mp H
     obtain ⟨t355, A150, H⟩ := H
     replace H : (if t355 = true then ((laws_markWeave.f t338 t341 1).bind fun t356 => (if t356 < 0 then (laws_FnExactLivesIn.j0 k a1 t335 t345 true l0_0 l0_1) else ((laws_eqIntS.f k t345 t335).bind fun t357 => (laws_FnExactLivesIn.j0 k a1 t335 t345 (!t357) l0_0 l0_1)))) else (some false)) = some r := H
     have A15 := Aside0.mk A150
     clear A150
     by_cases c16 : t355 = true
     ·subst c16
      have H1 : ((laws_markWeave.f t338 t341 1).bind fun t356 => (if t356 < 0 then (laws_FnExactLivesIn.j0 k a1 t335 t345 true l0_0 l0_1) else ((laws_eqIntS.f k t345 t335).bind fun t357 => (laws_FnExactLivesIn.j0 k a1 t335 t345 (!t357) l0_0 l0_1)))) = some r := by rw [if_pos rfl] at H; exact H
      clear H
      have H := H1
      clear H1
      replace H := Option.bind_eq_some_iff.mp H
      obtain ⟨t356, A170, H⟩ := H
      replace H : (if t356 < 0 then (laws_FnExactLivesIn.j0 k a1 t335 t345 true l0_0 l0_1) else ((laws_eqIntS.f k t345 t335).bind fun t357 => (laws_FnExactLivesIn.j0 k a1 t335 t345 (!t357) l0_0 l0_1))) = some r := H
      have A17 := Aside0.mk A170
      clear A170
      have HC18 := Aside0.mk H
      clear H
      go_enter Try.func7, Try.ntmps7
      try go_wp2_with (first | ((with_reducible refine gate_dst (N := 2) rfl ?_); refine box_event ?hg (N := 2) ?hd (cs := #[.slice A0_0 l0_0.length c0_0, .slice A0_1 l0_1.length c0_1]) (t := 25) ?hr ?_; (case hd => rfl); (case hg => rfl); (case hr => first | (go_simp; done) | (go_simp; rfl)); intro gb327 hg w19 hbox hb; have n0_ := Aside0.mk (below_step q1_ hb); have n1_ := Aside0.mk (hbox); have n2_ := Aside0.mk ((by rw [hg]; exact (below_size q1_) : w.heap.size ≤ gb327)); have n3_ := Aside0.mk ((by rw [hg]; exact (below_size q1_) : w.heap.size ≤ gb327)); clear HB; have HB := n0_; have BK327 := n1_; have GW327 := n2_; have GE327 := n3_; clear n0_ n1_ n2_ n3_; clear hb hbox hg; have hcz20_0 : w19.cell? ⟨gb327, 0, none⟩ = some (.slice A0_0 l0_0.length c0_0) := (blk_cell BK327.out 0).trans rfl; have hcz20_1 : w19.cell? ⟨gb327, 1, none⟩ = some (.slice A0_1 l0_1.length c0_1) := (blk_cell BK327.out 1).trans rfl; have hfz20_0 := blk_frozen BK327.out 0; have hfz20_1 := blk_frozen BK327.out 1) | ((with_reducible refine gate_callee (f := 14) rfl ?_); refine goesL_ (some 15) rfl rfl Try.func14 (by kernel_rfl) rfl #[.agg #[.slice A0_0 l0_0.length c0_0, .slice A0_1 l0_1.length c0_1], .int .i64 1048576] rfl q0_ ?_; (with_reducible refine (laws_szWeave.calls k _ _ l0_0 _ _ l0_1 1048576 t328 _ ?side1 ?side2 ?side3 ?side4 A3.out).mono ?_); (case side1 => exact q4_); (case side2 => exact HC0_0.out); (case side3 => exact q7_); (case side4 => exact HC0_1.out); rintro e w21 ⟨rfl, hb⟩; refine ⟨_, rfl, ?_⟩; have n0_ := Aside0.mk (blk_below (g := gb327) (o := .cells #[.slice A0_0 l0_0.length c0_0, .slice A0_1 l0_1.length c0_1] 25 (0, 0)) q6_ hb); have n1_ := Aside0.mk (below_step q3_ hb); clear BK327; clear HB; have BK327 := n0_; have HB := n1_; clear n0_ n1_; (try clear hb); (try clear hb2); (try clear hk); (try clear hi); have hcz22_0 : w21.cell? ⟨gb327, 0, none⟩ = some (.slice A0_0 l0_0.length c0_0) := (blk_cell BK327.out 0).trans rfl; have hcz22_1 : w21.cell? ⟨gb327, 1, none⟩ = some (.slice A0_1 l0_1.length c0_1) := (blk_cell BK327.out 1).trans rfl; have hfz22_0 := blk_frozen BK327.out 0; have hfz22_1 := blk_frozen BK327.out 1) | ((with_reducible refine gate_callee (f := 16) rfl ?_); refine goesL_ (some 19) rfl rfl Try.func16 (by kernel_rfl) rfl #[.agg #[.slice A0_0 l0_0.length c0_0, .slice A0_1 l0_1.length c0_1]] rfl q0_ ?_; (with_reducible refine (laws_toWeave.calls k _ _ l0_0 _ _ l0_1 t329 t332 _ ?side1 ?side2 ?side3 ?side4 A8.out).mono ?_); (case side1 => exact q4_); (case side2 => exact HC0_0.out); (case side3 => exact q7_); (case side4 => exact HC0_1.out); rintro e w23 ⟨v330, v333, rfl, ho0, ho1, hb⟩; refine ⟨_, rfl, ?_⟩; have n0_ := Aside0.mk (Kd.S_lower ho0 (below_size q3_)); have n1_ := Aside0.mk (Kd.S_lower ho1 (below_size q3_)); have n2_ := Aside0.mk (blk_below (g := gb327) (o := .cells #[.slice A0_0 l0_0.length c0_0, .slice A0_1 l0_1.length c0_1] 25 (0, 0)) q6_ hb); have n3_ := Aside0.mk (below_step q3_ hb); clear BK327; clear HB; have HO331 := n0_; have HO334 := n1_; have BK327 := n2_; have HB := n3_; clear n0_ n1_ n2_ n3_; (try clear hb); (try clear hb2); (try clear hk); (try clear hi); (try clear ho0); (try clear ho1); obtain ⟨Ao24, co24, eo24⟩ := Kd.S_slice HO331.out; subst eo24; obtain ⟨Ao25, co25, eo25⟩ := Kd.S_slice HO334.out; subst eo25) | ((with_reducible refine gate_callee (f := 30) rfl ?_); refine goesL_ (some 21) rfl rfl Try.func30 (by kernel_rfl) rfl #[.agg #[.slice Ao24 t329.length co24, .slice Ao25 t332.length co25], .int .i64 a1] rfl q0_ ?_; (with_reducible refine (spec_LivesIn.calls k _ _ t329 _ _ t332 a1 t335 _ ?side1 ?side2 ?side3 ?side4 A9.out).mono ?_); (case side1 => exact (by repeat (first | exact (Kd.S_reads' HO331.out).2.2 | (with_reducible refine Kd.C_alloc ?_ _) | (with_reducible refine Kd.C_drewN ?_ _) | (with_reducible refine Kd.C_drew ?_)))); (case side2 => exact (Kd.S_reads' HO331.out).2.1); (case side3 => exact (by repeat (first | exact (Kd.S_reads' HO334.out).2.2 | (with_reducible refine Kd.C_alloc ?_ _) | (with_reducible refine Kd.C_drewN ?_ _) | (with_reducible refine Kd.C_drew ?_)))); (case side4 => exact (Kd.S_reads' HO334.out).2.1); rintro e w26 ⟨v336, rfl, ho0, hb⟩; refine ⟨_, rfl, ?_⟩; have n0_ := Aside0.mk (Kd.S_elder' q18_ (Kd.R_base ho0) hb); have n1_ := Aside0.mk (Kd.S_elder' q19_ (Kd.R_base ho0) hb); have n2_ := Aside0.mk (Kd.R_lower ho0 (below_size q3_)); have n3_ := Aside0.mk (blk_below (g := gb327) (o := .cells #[.slice A0_0 l0_0.length c0_0, .slice A0_1 l0_1.length c0_1] 25 (0, 0)) q6_ hb); have n4_ := Aside0.mk (below_step q3_ hb); clear HO331; clear HO334; clear BK327; clear HB; have HO331 := n0_; have HO334 := n1_; have HO337 := n2_; have BK327 := n3_; have HB := n4_; clear n0_ n1_ n2_ n3_ n4_; (try clear hb); (try clear hb2); (try clear hk); (try clear hi); (try clear ho0); have hcz27_0 : w26.cell? ⟨gb327, 0, none⟩ = some (.slice A0_0 l0_0.length c0_0) := (blk_cell BK327.out 0).trans rfl; have hcz27_1 : w26.cell? ⟨gb327, 1, none⟩ = some (.slice A0_1 l0_1.length c0_1) := (blk_cell BK327.out 1).trans rfl; have hfz27_0 := blk_frozen BK327.out 0; have hfz27_1 := blk_frozen BK327.out 1) | ((with_reducible refine gate_callee (f := 16) rfl ?_); refine goesL_ (some 23) rfl rfl Try.func16 (by kernel_rfl) rfl #[.agg #[.slice A0_0 l0_0.length c0_0, .slice A0_1 l0_1.length c0_1]] rfl q0_ ?_; (with_reducible refine (laws_toWeave.calls k _ _ l0_0 _ _ l0_1 t338 t341 _ ?side1 ?side2 ?side3 ?side4 A10.out).mono ?_); (case side1 => exact q4_); (case side2 => exact HC0_0.out); (case side3 => exact q7_); (case side4 => exact HC0_1.out); rintro e w28 ⟨v339, v342, rfl, ho0, ho1, hb⟩; refine ⟨_, rfl, ?_⟩; have n0_ := Aside0.mk (Kd.S_elder' q18_ (Kd.S_base ho0) hb); have n1_ := Aside0.mk (Kd.S_elder' q19_ (Kd.S_base ho1) hb); have n2_ := Aside0.mk (Kd.R_below q12_ hb); have n3_ := Aside0.mk (Kd.S_lower (Kd.S_new' (Kd.S_new' ho0 (Kd.S_lt q18_)) (Kd.R_lt q12_)) (below_size q3_)); have n4_ := Aside0.mk (Kd.S_lower (Kd.S_new' (Kd.S_new' ho1 (Kd.S_lt q19_)) (Kd.R_lt q12_)) (below_size q3_)); have n5_ := Aside0.mk (blk_below (g := gb327) (o := .cells #[.slice A0_0 l0_0.length c0_0, .slice A0_1 l0_1.length c0_1] 25 (0, 0)) q6_ hb); have n6_ := Aside0.mk (below_step q3_ hb); clear HO331; clear HO334; clear HO337; clear BK327; clear HB; have HO331 := n0_; have HO334 := n1_; have HO337 := n2_; have HO340 := n3_; have HO343 := n4_; have BK327 := n5_; have HB := n6_; clear n0_ n1_ n2_ n3_ n4_ n5_ n6_; (try clear hb); (try clear hb2); (try clear hk); (try clear hi); (try clear ho0); (try clear ho1)) | ((with_reducible refine gate_dst (N := 7) rfl ?_); refine box_event ?hg (N := 7) ?hd (cs := #[.slice none 0 0, .slice none 0 0]) (t := 30) ?hr ?_; (case hd => rfl); (case hg => rfl); (case hr => first | (go_simp; done) | (go_simp; rfl)); intro gb344 hg w29 hbox hb; have n0_ := Aside0.mk (Kd.S_below q18_ hb); have n1_ := Aside0.mk (Kd.S_below q19_ hb); have n2_ := Aside0.mk (Kd.R_below q12_ hb); have n3_ := Aside0.mk (Kd.S_below q41_ hb); have n4_ := Aside0.mk (Kd.S_below q42_ hb); have n5_ := Aside0.mk (blk_below (g := gb327) (o := .cells #[.slice A0_0 l0_0.length c0_0, .slice A0_1 l0_1.length c0_1] 25 (0, 0)) q6_ hb); have n6_ := Aside0.mk (below_step q3_ hb); have n7_ := Aside0.mk (hbox); have n8_ := Aside0.mk ((by rw [hg]; exact (below_size q3_) : w.heap.size ≤ gb344)); have n9_ := Aside0.mk ((by rw [hg]; exact (below_size q3_) : w.heap.size ≤ gb344)); have n10_ := Aside0.mk ((by rw [hg]; exact Nat.ne_of_lt (blk_lt (g := gb327) (o := .cells #[.slice A0_0 l0_0.length c0_0, .slice A0_1 l0_1.length c0_1] 25 (0, 0)) q6_) : gb327 ≠ gb344)); have n11_ := Aside0.mk ((by rw [hg]; exact Nat.ne_of_gt (blk_lt (g := gb327) (o := .cells #[.slice A0_0 l0_0.length c0_0, .slice A0_1 l0_1.length c0_1] 25 (0, 0)) q6_) : gb344 ≠ gb327)); clear HO331; clear HO334; clear HO337; clear HO340; clear HO343; clear BK327; clear HB; have HO331 := n0_; have HO334 := n1_; have HO337 := n2_; have HO340 := n3_; have HO343 := n4_; have BK327 := n5_; have HB := n6_; have BK344 := n7_; have GW344 := n8_; have GE344 := n9_; have NB327_344 := n10_; have NB344_327 := n11_; clear n0_ n1_ n2_ n3_ n4_ n5_ n6_ n7_ n8_ n9_ n10_ n11_; clear hb hbox hg; obtain ⟨Ao30, co30, eo30⟩ := Kd.S_slice HO340.out; subst eo30; have hnb31 := NB344_327.out; have hnc31 := NB327_344.out; have hcz32_0 : w29.cell? ⟨gb344, 0, none⟩ = some (.slice none 0 0) := (blk_cell BK344.out 0).trans rfl; have hcz32_1 : w29.cell? ⟨gb344, 1, none⟩ = some (.slice none 0 0) := (blk_cell BK344.out 1).trans rfl; have hfz32_0 := blk_frozen BK344.out 0; have hfz32_1 := blk_frozen BK344.out 1; obtain ⟨Ao33, co33, eo33⟩ := Kd.S_slice HO343.out; subst eo33) | ((with_reducible refine gate_callee (f := 31) rfl ?_); refine goesL_ (some 26) rfl rfl Try.func31 (by kernel_rfl) rfl #[.agg #[.slice Ao30 t338.length co30, .slice Ao33 t341.length co33], .int .i64 a1] rfl q0_ ?_; (with_reducible refine (impl_LivesIn.calls k _ _ t338 _ _ t341 a1 t345 _ ?side1 ?side2 ?side3 ?side4 A11.out).mono ?_); (case side1 => refine (Kd.S_reads' (e := 36) (base := w.heap.size) (ok := fun k_ => ((True ∧ some k_ ≠ (.slice Ao24 t329.length co24 : Value).ownBlock) ∧ some k_ ≠ (v336 : Value).ownBlock)) (n := t338.length) (c := co30) ?_).2.2; exact (by (with_reducible repeat (first | apply Kd.S_alloc | apply Kd.S_drewN | apply Kd.S_drew)); exact (Kd.S_mono (Kd.S_far (p := ⟨gb344, 1, none⟩) (Kd.S_far (p := ⟨gb344, 0, none⟩) (Kd.S_types HO340.out BK344.out (by decide)) (fun _ hk => hk.2) (.slice Ao30 t338.length co30)) (fun _ hk => hk.2) (.slice Ao33 t341.length co33)) (fun _ h_ => h_.1)))); (case side2 => exact (Kd.S_reads' HO340.out).2.1); (case side3 => refine (Kd.S_reads' (e := 68) (base := w.heap.size) (ok := fun k_ => ((True ∧ some k_ ≠ (.slice Ao25 t332.length co25 : Value).ownBlock) ∧ some k_ ≠ (v336 : Value).ownBlock)) (n := t341.length) (c := co33) ?_).2.2; exact (by (with_reducible repeat (first | apply Kd.S_alloc | apply Kd.S_drewN | apply Kd.S_drew)); exact (Kd.S_mono (Kd.S_far (p := ⟨gb344, 1, none⟩) (Kd.S_far (p := ⟨gb344, 0, none⟩) (Kd.S_types HO343.out BK344.out (by decide)) (fun _ hk => hk.2) (.slice Ao30 t338.length co30)) (fun _ hk => hk.2) (.slice Ao33 t341.length co33)) (fun _ h_ => h_.1)))); (case side4 => exact (Kd.S_reads' HO343.out).2.1); rintro e w34 ⟨v346, rfl, ho0, hb⟩; refine ⟨_, rfl, ?_⟩; have n0_ := Aside0.mk (Kd.S_elder' (by (with_reducible repeat (first | apply Kd.S_alloc | apply Kd.S_drewN | apply Kd.S_drew)); exact (Kd.S_mono (Kd.S_far (p := ⟨gb344, 1, none⟩) (Kd.S_far (p := ⟨gb344, 0, none⟩) (Kd.S_types HO331.out BK344.out (by decide)) (fun _ hk => hk.2) (.slice Ao30 t338.length co30)) (fun _ hk => hk.2) (.slice Ao33 t341.length co33)) (fun _ h_ => h_.1))) (Kd.R_base ho0) hb); have n1_ := Aside0.mk (Kd.S_elder' (by (with_reducible repeat (first | apply Kd.S_alloc | apply Kd.S_drewN | apply Kd.S_drew)); exact (Kd.S_mono (Kd.S_far (p := ⟨gb344, 1, none⟩) (Kd.S_far (p := ⟨gb344, 0, none⟩) (Kd.S_types HO334.out BK344.out (by decide)) (fun _ hk => hk.2) (.slice Ao30 t338.length co30)) (fun _ hk => hk.2) (.slice Ao33 t341.length co33)) (fun _ h_ => h_.1))) (Kd.R_base ho0) hb); have n2_ := Aside0.mk (Kd.R_elder' (by (with_reducible repeat (first | apply Kd.R_alloc | apply Kd.R_drewN | apply Kd.R_drew)); exact (Kd.R_mono (Kd.R_far (p := ⟨gb344, 1, none⟩) (Kd.R_far (p := ⟨gb344, 0, none⟩) (Kd.R_types HO337.out BK344.out (by decide)) (fun _ hk => hk.2) (.slice Ao30 t338.length co30)) (fun _ hk => hk.2) (.slice Ao33 t341.length co33)) (fun _ h_ => h_.1))) (Kd.R_base ho0) hb); have n3_ := Aside0.mk (Kd.S_elder' (by (with_reducible repeat (first | apply Kd.S_alloc | apply Kd.S_drewN | apply Kd.S_drew)); exact (Kd.S_mono (Kd.S_far (p := ⟨gb344, 1, none⟩) (Kd.S_far (p := ⟨gb344, 0, none⟩) (Kd.S_types HO340.out BK344.out (by decide)) (fun _ hk => hk.2) (.slice Ao30 t338.length co30)) (fun _ hk => hk.2) (.slice Ao33 t341.length co33)) (fun _ h_ => h_.1))) (Kd.R_base ho0) hb); have n4_ := Aside0.mk (Kd.S_elder' (by (with_reducible repeat (first | apply Kd.S_alloc | apply Kd.S_drewN | apply Kd.S_drew)); exact (Kd.S_mono (Kd.S_far (p := ⟨gb344, 1, none⟩) (Kd.S_far (p := ⟨gb344, 0, none⟩) (Kd.S_types HO343.out BK344.out (by decide)) (fun _ hk => hk.2) (.slice Ao30 t338.length co30)) (fun _ hk => hk.2) (.slice Ao33 t341.length co33)) (fun _ h_ => h_.1))) (Kd.R_base ho0) hb); have n5_ := Aside0.mk (Kd.R_lower (Kd.R_new' ho0 (Kd.R_lt (by (with_reducible repeat (first | apply Kd.R_alloc | apply Kd.R_drewN | apply Kd.R_drew)); exact (Kd.R_mono (Kd.R_far (p := ⟨gb344, 1, none⟩) (Kd.R_far (p := ⟨gb344, 0, none⟩) (Kd.R_types HO337.out BK344.out (by decide)) (fun _ hk => hk.2) (.slice Ao30 t338.length co30)) (fun _ hk => hk.2) (.slice Ao33 t341.length co33)) (fun _ h_ => h_.1))))) (below_size q8_)); have n6_ := Aside0.mk (blk_below (g := gb327) (o := .cells #[.slice A0_0 l0_0.length c0_0, .slice A0_1 l0_1.length c0_1] 25 (0, 0)) q34_ hb); have n7_ := Aside0.mk (blk_below (g := gb344) (o := .cells #[.slice Ao30 t338.length co30, .slice Ao33 t341.length co33] 30 (0, 0)) (by (with_reducible repeat (first | refine blk_drewN ?_ _ | refine blk_drew ?_ | refine blk_alloc ?_ _)); refine blk_put (cs := #[.slice Ao30 t338.length co30, .slice none 0 0]) ?_ 1 _ rfl; (with_reducible repeat (first | refine blk_drewN ?_ _ | refine blk_drew ?_ | refine blk_alloc ?_ _)); refine blk_put (cs := #[.slice none 0 0, .slice none 0 0]) ?_ 0 _ rfl; (with_reducible repeat (first | refine blk_drewN ?_ _ | refine blk_drew ?_ | refine blk_alloc ?_ _)); exact BK344.out) hb); have n8_ := Aside0.mk (below_step q8_ hb); clear HO331; clear HO334; clear HO337; clear HO340; clear HO343; clear BK327; clear BK344; clear HB; have HO331 := n0_; have HO334 := n1_; have HO337 := n2_; have HO340 := n3_; have HO343 := n4_; have HO347 := n5_; have BK327 := n6_; have BK344 := n7_; have HB := n8_; clear n0_ n1_ n2_ n3_ n4_ n5_ n6_ n7_ n8_; (try clear hb); (try clear hb2); (try clear hk); (try clear hi); (try clear ho0); obtain ⟨Ao35, co35, eo35⟩ := Kd.R_slice HO347.out; subst eo35; obtain ⟨Ao36, co36, eo36⟩ := Kd.R_slice HO337.out; subst eo36) | ((with_reducible refine gate_callee (f := 24) rfl ?_); refine goesL_ (some 29) rfl rfl Try.func24 (by kernel_rfl) rfl #[.slice Ao35 t345.length co35, .slice Ao36 t335.length co36] rfl q0_ ?_; (with_reducible refine (laws_eqIntS.calls k _ _ t345 _ _ t335 true _ ?side1 ?side2 ?side3 ?side4 A12.out).mono ?_); (case side1 => exact q53_); (case side2 => exact (Kd.R_reads' HO347.out).2.1); (case side3 => exact q54_); (case side4 => exact (Kd.R_reads' HO337.out).2.1); rintro e w' ⟨rfl, ⟨nd, rfl⟩⟩; refine ⟨_, rfl, ?_⟩))
      (try (rw [drewN_self w34]; generalize hq_ : World.drewN w34 _ = w34; have n0_ : Aside0 (Kd.S (Kd.slice 3 (Kd.int .i64)) 36 w34 w.heap.size (fun k_ => some k_ ≠ (.slice Ao36 t335.length co36 : Value).ownBlock ∧ some k_ ≠ (.slice Ao30 t338.length co30 : Value).ownBlock ∧ some k_ ≠ (.slice Ao35 t345.length co35 : Value).ownBlock) (.slice Ao24 t329.length co24) t329) := ⟨by rw [← hq_]; exact (by (with_reducible repeat (first | apply Kd.S_alloc | apply Kd.S_drewN | apply Kd.S_drew)); exact Kd.S_mono HO331.out (fun _ hk => ⟨hk.1.1.2, ⟨hk.1.2, hk.2⟩⟩))⟩; have n1_ : Aside0 (Kd.S k68 68 w34 w.heap.size (fun k_ => some k_ ≠ (.slice Ao36 t335.length co36 : Value).ownBlock ∧ some k_ ≠ (.slice Ao33 t341.length co33 : Value).ownBlock ∧ some k_ ≠ (.slice Ao35 t345.length co35 : Value).ownBlock) (.slice Ao25 t332.length co25) t332) := ⟨by rw [← hq_]; exact (by (with_reducible repeat (first | apply Kd.S_alloc | apply Kd.S_drewN | apply Kd.S_drew)); exact Kd.S_mono HO334.out (fun _ hk => ⟨hk.1.1.2, ⟨hk.1.2, hk.2⟩⟩))⟩; have n2_ : Aside0 (Kd.R (Kd.int .i64) 3 w34 w.heap.size (fun k_ => some k_ ≠ (.slice Ao35 t345.length co35 : Value).ownBlock) (.slice Ao36 t335.length co36) t335) := ⟨by rw [← hq_]; exact (by (with_reducible repeat (first | apply Kd.R_alloc | apply Kd.R_drewN | apply Kd.R_drew)); exact Kd.R_mono HO337.out (fun _ hk => hk.2))⟩; have n3_ : Aside0 (Kd.S (Kd.slice 3 (Kd.int .i64)) 36 w34 w.heap.size (fun k_ => some k_ ≠ (.slice Ao24 t329.length co24 : Value).ownBlock ∧ some k_ ≠ (.slice Ao36 t335.length co36 : Value).ownBlock ∧ some k_ ≠ (.slice Ao35 t345.length co35 : Value).ownBlock) (.slice Ao30 t338.length co30) t338) := ⟨by rw [← hq_]; exact (by (with_reducible repeat (first | apply Kd.S_alloc | apply Kd.S_drewN | apply Kd.S_drew)); exact Kd.S_mono HO340.out (fun _ hk => ⟨hk.1.1.2, ⟨hk.1.2, hk.2⟩⟩))⟩; have n4_ : Aside0 (Kd.S k68 68 w34 w.heap.size (fun k_ => some k_ ≠ (.slice Ao25 t332.length co25 : Value).ownBlock ∧ some k_ ≠ (.slice Ao36 t335.length co36 : Value).ownBlock ∧ some k_ ≠ (.slice Ao35 t345.length co35 : Value).ownBlock) (.slice Ao33 t341.length co33) t341) := ⟨by rw [← hq_]; exact (by (with_reducible repeat (first | apply Kd.S_alloc | apply Kd.S_drewN | apply Kd.S_drew)); exact Kd.S_mono HO343.out (fun _ hk => ⟨hk.1.1.2, ⟨hk.1.2, hk.2⟩⟩))⟩; have n5_ : Aside0 (Kd.R (Kd.int .i64) 3 w34 w.heap.size (fun k_ => some k_ ≠ (.slice Ao36 t335.length co36 : Value).ownBlock) (.slice Ao35 t345.length co35) t345) := ⟨by rw [← hq_]; exact (by (with_reducible repeat (first | apply Kd.R_alloc | apply Kd.R_drewN | apply Kd.R_drew)); exact Kd.R_mono HO347.out (fun _ hk => hk.2))⟩; have n6_ : Aside0 (w34.heap[gb327]? = some (.cells #[.slice A0_0 l0_0.length c0_0, .slice A0_1 l0_1.length c0_1] 25 (0, 0))) := ⟨by rw [← hq_]; exact q6_⟩; have n7_ : Aside0 (w34.heap[gb344]? = some (.cells #[.slice Ao30 t338.length co30, .slice Ao33 t341.length co33] 30 (0, 0))) := ⟨by rw [← hq_]; exact q48_⟩; have n8_ : Aside0 (Below w.heap.size w w34) := ⟨by rw [← hq_]; exact q8_⟩; clear HO331 HO334 HO337 HO340 HO343 HO347 BK327 BK344 HB hq_; have HO331 := n0_; have HO334 := n1_; have HO337 := n2_; have HO340 := n3_; have HO343 := n4_; have HO347 := n5_; have BK327 := n6_; have BK344 := n7_; have HB := n8_; clear n0_ n1_ n2_ n3_ n4_ n5_ n6_ n7_ n8_))
      have n0_ := Aside0.mk (Kd.S_drew HO331.out)
      have n1_ := Aside0.mk (Kd.S_drew HO334.out)
      have n2_ := Aside0.mk (Kd.R_drew HO337.out)
      have n3_ := Aside0.mk (Kd.S_drew HO340.out)
      have n4_ := Aside0.mk (Kd.S_drew HO343.out)
      have n5_ := Aside0.mk (Kd.R_drew HO347.out)
      have n6_ := Aside0.mk (blk_drew BK327.out)
      have n7_ := Aside0.mk (blk_drew BK344.out)
      have n8_ := Aside0.mk (below_drew1 HB.out)
      clear HO331
      clear HO334
      clear HO337
      clear HO340
      clear HO343
      clear HO347
      clear BK327
      clear BK344
      clear HB
      have HO331 := n0_
      have HO334 := n1_
      have HO337 := n2_
      have HO340 := n3_
      have HO343 := n4_
      have HO347 := n5_
      have BK327 := n6_
      have BK344 := n7_
      have HB := n8_
      clear n0_ n1_ n2_ n3_ n4_ n5_ n6_ n7_ n8_
      refine start_ (n := 5) (S := fun w' => w'.cell? ⟨gb344, 0, none⟩ = some (.slice Ao30 t338.length co30) ∧ w'.cell? ⟨gb344, 1, none⟩ = some (.slice Ao33 t341.length co33) ∧ w'.cell? ⟨gb327, 0, none⟩ = some (.slice A0_0 l0_0.length c0_0) ∧ w'.cell? ⟨gb327, 1, none⟩ = some (.slice A0_1 l0_1.length c0_1)) (ds := []) #[false, false, false, false, false] (by kernel_rfl) rfl rfl ⟨(blk_cell BK344.out 0).trans rfl, (blk_cell BK344.out 1).trans rfl, (blk_cell BK327.out 0).trans rfl, (blk_cell BK327.out 1).trans rfl⟩ (fun hHeld => ?_)
      generalize w34.drew = w37 at HO331 HO334 HO337 HO340 HO343 HO347 BK327 BK344 HB hHeld ⊢
      refine take_ (i := 0) (N := some 31) (v := ?_) (a' := ?_) #[true, false, false, false, false] rfl rfl (by kernel_rfl) (fun _ _ _ h => h) (Or.inl ⟨by rfl, ?_⟩) hHeld ?_ ?_
      rotate_left; exact pw4_; rotate_left; exact pz_
      refine take_ (i := 1) (N := some 32) (v := ?_) (a' := ?_) #[true, true, false, false, false] rfl rfl (by kernel_rfl) (fun _ _ _ h => h) (Or.inl ⟨by rfl, ?_⟩) hHeld ?_ ?_
      rotate_left; exact pw4_; rotate_left; exact pz_
      refine one_ (i := 2) (N := some 33) #[true, true, true, false, false] rfl rfl (by kernel_rfl) (by decide) (fun K hK => ?_)
      refine goes_ Try.func16 (by kernel_rfl) rfl #[.agg #[.slice A0_0 l0_0.length c0_0, .slice A0_1 l0_1.length c0_1]] (by rfl) rfl rfl q0_ ?_
      with_reducible refine (laws_toWeave.calls k _ _ l0_0 _ _ l0_1 t349 t352 _ ?side1 ?side2 ?side3 ?side4 A14.out).mono ?_
      (case side1 => exact q4_)
      (case side2 => exact HC0_0.out)
      (case side3 => exact q7_)
      (case side4 => exact HC0_1.out)
      rintro e w38 ⟨v350, v353, rfl, ho0, ho1, hb⟩
      refine ⟨_, rfl, ?_⟩
      have n0_ := Aside0.mk (Kd.S_elder' q18_ (Kd.S_base ho0) hb)
      have n1_ := Aside0.mk (Kd.S_elder' q19_ (Kd.S_base ho1) hb)
      have n2_ := Aside0.mk (Kd.R_below q12_ hb)
      have n3_ := Aside0.mk (Kd.S_elder' q41_ (Kd.S_base ho0) hb)
      have n4_ := Aside0.mk (Kd.S_elder' q42_ (Kd.S_base ho1) hb)
      have n5_ := Aside0.mk (Kd.R_below q46_ hb)
      have n6_ := Aside0.mk (Kd.S_lower (Kd.S_new' (Kd.S_new' (Kd.S_new' (Kd.S_new' ho0 (Kd.S_lt q18_)) (Kd.R_lt q12_)) (Kd.S_lt q41_)) (Kd.R_lt q46_)) (below_size q8_))
      have n7_ := Aside0.mk (Kd.S_lower (Kd.S_new' (Kd.S_new' (Kd.S_new' (Kd.S_new' ho1 (Kd.S_lt q19_)) (Kd.R_lt q12_)) (Kd.S_lt q42_)) (Kd.R_lt q46_)) (below_size q8_))
      have n8_ := Aside0.mk (blk_below (g := gb327) (o := .cells #[.slice A0_0 l0_0.length c0_0, .slice A0_1 l0_1.length c0_1] 25 (0, 0)) q6_ hb)
      have n9_ := Aside0.mk (blk_below (g := gb344) (o := .cells #[.slice Ao30 t338.length co30, .slice Ao33 t341.length co33] 30 (0, 0)) q48_ hb)
      have n10_ := Aside0.mk (below_step q8_ hb)
      clear HO331
      clear HO334
      clear HO337
      clear HO340
      clear HO343
      clear HO347
      clear BK327
      clear BK344
      clear HB
      have HO331 := n0_
      have HO334 := n1_
      have HO337 := n2_
      have HO340 := n3_
      have HO343 := n4_
      have HO347 := n5_
      have HO351 := n6_
      have HO354 := n7_
      have BK327 := n8_
      have BK344 := n9_
      have HB := n10_
      clear n0_ n1_ n2_ n3_ n4_ n5_ n6_ n7_ n8_ n9_ n10_
      (try clear hb)
      (try clear hb2)
      (try clear hk)
      (try clear hi)
      (try clear ho0)
      (try clear ho1)
      obtain ⟨Ao39, co39, eo39⟩ := Kd.S_slice HO351.out
      (first | subst eo39 | (injection eo39 with f1_ f2_ f3_; have f4_ := f1_.symm; have f5_ := f3_.symm; clear f1_ f2_ f3_; subst f4_; subst f5_))
      obtain ⟨Ao40, co40, eo40⟩ := Kd.S_slice HO354.out
      (first | subst eo40 | (injection eo40 with f1_ f2_ f3_; have f4_ := f1_.symm; have f5_ := f3_.symm; clear f1_ f2_ f3_; subst f4_; subst f5_))
      refine hK.out _ _ ⟨(blk_cell BK344.out 0).trans rfl, (blk_cell BK344.out 1).trans rfl, (blk_cell BK327.out 0).trans rfl, (blk_cell BK327.out 1).trans rfl⟩ (fun hHeld => ?_)
      clear hK K
      refine norm_ (a' := ?_) ?_ ?_
      rotate_left
      ·show Act.put _ (some 33) _ = _
       simp only [Act.put, List.setIfInBounds_toArray, List.set_cons_zero, List.set_cons_succ, i64_w, i32_w]
       rfl
      refine one_ (i := 3) (N := some 34) #[true, true, true, true, false] rfl rfl (by kernel_rfl) (by decide) (fun K hK => ?_)
      refine goes_ Try.func18 (by kernel_rfl) rfl #[.agg #[.slice Ao30 t338.length co30, .slice Ao33 t341.length co33], .agg #[.slice Ao39 t349.length co39, .slice Ao40 t352.length co40]] (by rfl) rfl rfl q0_ ?_
      with_reducible refine (laws_eqWeave.calls k _ _ t338 _ _ t341 _ _ t349 _ _ t352 true _ ?side1 ?side2 ?side3 ?side4 ?side5 ?side6 ?side7 ?side8 A15.out).mono ?_
      (case side1 => exact (by repeat (first | exact (Kd.S_reads' HO340.out).2.2 | (with_reducible refine Kd.C_alloc ?_ _) | (with_reducible refine Kd.C_drewN ?_ _) | (with_reducible refine Kd.C_drew ?_))))
      (case side2 => exact (Kd.S_reads' HO340.out).2.1)
      (case side3 => exact (by repeat (first | exact (Kd.S_reads' HO343.out).2.2 | (with_reducible refine Kd.C_alloc ?_ _) | (with_reducible refine Kd.C_drewN ?_ _) | (with_reducible refine Kd.C_drew ?_))))
      (case side4 => exact (Kd.S_reads' HO343.out).2.1)
      (case side5 => exact (by repeat (first | exact (Kd.S_reads' HO351.out).2.2 | (with_reducible refine Kd.C_alloc ?_ _) | (with_reducible refine Kd.C_drewN ?_ _) | (with_reducible refine Kd.C_drew ?_))))
      (case side6 => exact (Kd.S_reads' HO351.out).2.1)
      (case side7 => exact (by repeat (first | exact (Kd.S_reads' HO354.out).2.2 | (with_reducible refine Kd.C_alloc ?_ _) | (with_reducible refine Kd.C_drewN ?_ _) | (with_reducible refine Kd.C_drew ?_))))
      (case side8 => exact (Kd.S_reads' HO354.out).2.1)
      rintro e w41 ⟨rfl, hb⟩
      refine ⟨_, rfl, ?_⟩
      have n0_ := Aside0.mk (Kd.S_below q18_ hb)
      have n1_ := Aside0.mk (Kd.S_below q19_ hb)
      have n2_ := Aside0.mk (Kd.R_below q12_ hb)
      have n3_ := Aside0.mk (Kd.S_below q41_ hb)
      have n4_ := Aside0.mk (Kd.S_below q42_ hb)
      have n5_ := Aside0.mk (Kd.R_below q46_ hb)
      have n6_ := Aside0.mk (Kd.S_below (by (with_reducible repeat (first | apply Kd.S_alloc | apply Kd.S_drewN | apply Kd.S_drew)); exact HO351.out) hb)
      have n7_ := Aside0.mk (Kd.S_below (by (with_reducible repeat (first | apply Kd.S_alloc | apply Kd.S_drewN | apply Kd.S_drew)); exact HO354.out) hb)
      have n8_ := Aside0.mk (blk_below (g := gb327) (o := .cells #[.slice A0_0 l0_0.length c0_0, .slice A0_1 l0_1.length c0_1] 25 (0, 0)) q6_ hb)
      have n9_ := Aside0.mk (blk_below (g := gb344) (o := .cells #[.slice Ao30 t338.length co30, .slice Ao33 t341.length co33] 30 (0, 0)) q48_ hb)
      have n10_ := Aside0.mk (below_step q8_ hb)
      clear HO331
      clear HO334
      clear HO337
      clear HO340
      clear HO343
      clear HO347
      clear HO351
      clear HO354
      clear BK327
      clear BK344
      clear HB
      have HO331 := n0_
      have HO334 := n1_
      have HO337 := n2_
      have HO340 := n3_
      have HO343 := n4_
      have HO347 := n5_
      have HO351 := n6_
      have HO354 := n7_
      have BK327 := n8_
      have BK344 := n9_
      have HB := n10_
      clear n0_ n1_ n2_ n3_ n4_ n5_ n6_ n7_ n8_ n9_ n10_
      (try clear hb)
      (try clear hb2)
      (try clear hk)
      (try clear hi)
      refine hK.out _ _ ⟨(blk_cell BK344.out 0).trans rfl, (blk_cell BK344.out 1).trans rfl, (blk_cell BK327.out 0).trans rfl, (blk_cell BK327.out 1).trans rfl⟩ (fun hHeld => ?_)
      clear hK K
      refine norm_ (a' := ?_) ?_ ?_
      rotate_left
      ·show Act.put _ (some 34) _ = _
       simp only [Act.put, List.setIfInBounds_toArray, List.set_cons_zero, List.set_cons_succ, i64_w, i32_w]
       rfl
      refine pure_ (i := 4) (N := some 35) (v := ?_) (a' := ?_) #[true, true, true, true, true] rfl rfl (by kernel_rfl) (fun _ _ _ h => h) (Or.inl ⟨by rfl, ?_⟩) ?_ ?_
      rotate_left; exact pw_; rotate_left; exact pz_
      refine done_ (by kernel_rfl) ?_
      have hcz42_0 : w41.cell? ⟨gb344, 0, none⟩ = some (.slice Ao30 t338.length co30) := (blk_cell BK344.out 0).trans rfl
      have hcz42_1 : w41.cell? ⟨gb344, 1, none⟩ = some (.slice Ao33 t341.length co33) := (blk_cell BK344.out 1).trans rfl
      have hfz42_0 := blk_frozen BK344.out 0
      have hfz42_1 := blk_frozen BK344.out 1
      go_upto_region 14 with (first | ((with_reducible refine gate_callee (f := 25) rfl ?_); refine goesL_ (some 38) rfl rfl Try.func25 (by kernel_rfl) rfl #[.agg #[.slice Ao30 t338.length co30, .slice Ao33 t341.length co33], .int .i64 1] rfl q0_ ?_; (with_reducible refine (laws_markWeave.calls (fun k_ => ((((True ∧ some k_ ≠ (.slice Ao24 t329.length co24 : Value).ownBlock) ∧ some k_ ≠ (.slice Ao36 t335.length co36 : Value).ownBlock) ∧ some k_ ≠ (.slice Ao35 t345.length co35 : Value).ownBlock) ∧ some k_ ≠ (.slice Ao39 t349.length co39 : Value).ownBlock) ∧ w.heap.size ≤ k_ ∧ k_ < w41.heap.size ∧ ∃ q_, q_ ∈ 36 :: ((Kd.slice 3 (Kd.int .i64))).E ∧ ∃ cells_, w41.heap[k_]? = some (.cells cells_ q_ (0, 0))) (.slice Ao30 t338.length co30) t338 (fun k_ => ((((True ∧ some k_ ≠ (.slice Ao25 t332.length co25 : Value).ownBlock) ∧ some k_ ≠ (.slice Ao36 t335.length co36 : Value).ownBlock) ∧ some k_ ≠ (.slice Ao35 t345.length co35 : Value).ownBlock) ∧ some k_ ≠ (.slice Ao40 t352.length co40 : Value).ownBlock) ∧ w.heap.size ≤ k_ ∧ k_ < w41.heap.size ∧ ∃ q_, q_ ∈ 68 :: (k68).E ∧ ∃ cells_, w41.heap[k_]? = some (.cells cells_ q_ (0, 0))) (.slice Ao33 t341.length co33) t341 1 t356 w _ ?side1 ?side2 ?side3 A17.out).mono ?_); (case side1 => exact q8_); (case side2 => (with_reducible repeat (first | apply Kd.S_alloc | apply Kd.S_drewN | apply Kd.S_drew)); exact Kd.S_bound (Kd.S_mono HO340.out (fun _ h_ => by first | exact h_ | simpa only [true_and, and_assoc] using h_))); (case side3 => (with_reducible repeat (first | apply Kd.S_alloc | apply Kd.S_drewN | apply Kd.S_drew)); exact Kd.S_bound (Kd.S_mono HO343.out (fun _ h_ => by first | exact h_ | simpa only [true_and, and_assoc] using h_))); rintro e w43 ⟨rfl, hb, hkp⟩; refine ⟨_, rfl, ?_⟩; have n0_ := Aside0.mk (blk_kept q6_ hkp (fun hs_ => Or.elim hs_ (fun e_ => (fun e_ => Go.Proofs.YtcgelllmdcnmfaaH.apartB (by decide) BK327.out e_.2.2.2) e_) (fun e_ => (fun e_ => Go.Proofs.YtcgelllmdcnmfaaH.apartB (by decide) BK327.out e_.2.2.2) e_))); have n1_ := Aside0.mk (Kd.R_mono (ok' := fun k_ => some k_ ≠ (.slice Ao35 t345.length co35 : Value).ownBlock) (Kd.R_keptB ((Kd.R_mono (ok' := fun k_ => ((True ∧ some k_ ≠ (.slice Ao35 t345.length co35 : Value).ownBlock) ∧ ((fun k_ => ((((True ∧ some k_ ≠ (.slice Ao24 t329.length co24 : Value).ownBlock) ∧ some k_ ≠ (.slice Ao36 t335.length co36 : Value).ownBlock) ∧ some k_ ≠ (.slice Ao35 t345.length co35 : Value).ownBlock) ∧ some k_ ≠ (.slice Ao39 t349.length co39 : Value).ownBlock) ∧ w.heap.size ≤ k_ ∧ k_ < w41.heap.size ∧ ∃ q_, q_ ∈ 36 :: ((Kd.slice 3 (Kd.int .i64))).E ∧ ∃ cells_, w41.heap[k_]? = some (.cells cells_ q_ (0, 0))) k_ → False)) ∧ ((fun k_ => ((((True ∧ some k_ ≠ (.slice Ao25 t332.length co25 : Value).ownBlock) ∧ some k_ ≠ (.slice Ao36 t335.length co36 : Value).ownBlock) ∧ some k_ ≠ (.slice Ao35 t345.length co35 : Value).ownBlock) ∧ some k_ ≠ (.slice Ao40 t352.length co40 : Value).ownBlock) ∧ w.heap.size ≤ k_ ∧ k_ < w41.heap.size ∧ ∃ q_, q_ ∈ 68 :: (k68).E ∧ ∃ cells_, w41.heap[k_]? = some (.cells cells_ q_ (0, 0))) k_ → False)) (Kd.R_tight2 rfl (Kd.R_mono (ok' := fun k_ => (True ∧ some k_ ≠ (.slice Ao35 t345.length co35 : Value).ownBlock) ∧ ((fun k_ => ((((True ∧ some k_ ≠ (.slice Ao24 t329.length co24 : Value).ownBlock) ∧ some k_ ≠ (.slice Ao36 t335.length co36 : Value).ownBlock) ∧ some k_ ≠ (.slice Ao35 t345.length co35 : Value).ownBlock) ∧ some k_ ≠ (.slice Ao39 t349.length co39 : Value).ownBlock) ∧ w.heap.size ≤ k_ ∧ k_ < w41.heap.size ∧ ∃ q_, q_ ∈ 36 :: ((Kd.slice 3 (Kd.int .i64))).E ∧ ∃ cells_, w41.heap[k_]? = some (.cells cells_ q_ (0, 0))) k_ → False)) (Kd.R_tight2 rfl HO337.out) (fun k_ hk => ⟨(by first | exact hk.2 | exact ⟨trivial, hk.2⟩ | simpa only [true_and, and_assoc] using hk.2), fun e_ => (e_.1.1.1.2) hk.1⟩))) (fun k_ hk => ⟨(by first | exact hk.2 | exact ⟨trivial, hk.2⟩ | simpa only [true_and, and_assoc] using hk.2), fun e_ => (e_.1.1.1.2) hk.1⟩))) hkp (fun k_ hk_ hs_ => Or.elim hs_ (fun e_ => (hk_.1.2) e_) (fun e_ => (hk_.2) e_))) (fun k_ hk_ => hk_.1.1.1.2)); have n2_ := Aside0.mk (blk_kept q48_ hkp (fun hs_ => Or.elim hs_ (fun e_ => (fun e_ => Go.Proofs.YtcgelllmdcnmfaaH.apartB (by decide) BK344.out e_.2.2.2) e_) (fun e_ => (fun e_ => Go.Proofs.YtcgelllmdcnmfaaH.apartB (by decide) BK344.out e_.2.2.2) e_))); have n3_ := Aside0.mk (Kd.R_mono (ok' := fun k_ => some k_ ≠ (.slice Ao36 t335.length co36 : Value).ownBlock) (Kd.R_keptB ((Kd.R_mono (ok' := fun k_ => ((True ∧ some k_ ≠ (.slice Ao36 t335.length co36 : Value).ownBlock) ∧ ((fun k_ => ((((True ∧ some k_ ≠ (.slice Ao24 t329.length co24 : Value).ownBlock) ∧ some k_ ≠ (.slice Ao36 t335.length co36 : Value).ownBlock) ∧ some k_ ≠ (.slice Ao35 t345.length co35 : Value).ownBlock) ∧ some k_ ≠ (.slice Ao39 t349.length co39 : Value).ownBlock) ∧ w.heap.size ≤ k_ ∧ k_ < w41.heap.size ∧ ∃ q_, q_ ∈ 36 :: ((Kd.slice 3 (Kd.int .i64))).E ∧ ∃ cells_, w41.heap[k_]? = some (.cells cells_ q_ (0, 0))) k_ → False)) ∧ ((fun k_ => ((((True ∧ some k_ ≠ (.slice Ao25 t332.length co25 : Value).ownBlock) ∧ some k_ ≠ (.slice Ao36 t335.length co36 : Value).ownBlock) ∧ some k_ ≠ (.slice Ao35 t345.length co35 : Value).ownBlock) ∧ some k_ ≠ (.slice Ao40 t352.length co40 : Value).ownBlock) ∧ w.heap.size ≤ k_ ∧ k_ < w41.heap.size ∧ ∃ q_, q_ ∈ 68 :: (k68).E ∧ ∃ cells_, w41.heap[k_]? = some (.cells cells_ q_ (0, 0))) k_ → False)) (Kd.R_tight2 rfl (Kd.R_mono (ok' := fun k_ => (True ∧ some k_ ≠ (.slice Ao36 t335.length co36 : Value).ownBlock) ∧ ((fun k_ => ((((True ∧ some k_ ≠ (.slice Ao24 t329.length co24 : Value).ownBlock) ∧ some k_ ≠ (.slice Ao36 t335.length co36 : Value).ownBlock) ∧ some k_ ≠ (.slice Ao35 t345.length co35 : Value).ownBlock) ∧ some k_ ≠ (.slice Ao39 t349.length co39 : Value).ownBlock) ∧ w.heap.size ≤ k_ ∧ k_ < w41.heap.size ∧ ∃ q_, q_ ∈ 36 :: ((Kd.slice 3 (Kd.int .i64))).E ∧ ∃ cells_, w41.heap[k_]? = some (.cells cells_ q_ (0, 0))) k_ → False)) (Kd.R_tight2 rfl HO347.out) (fun k_ hk => ⟨(by first | exact hk.2 | exact ⟨trivial, hk.2⟩ | simpa only [true_and, and_assoc] using hk.2), fun e_ => (e_.1.1.2) hk.1⟩))) (fun k_ hk => ⟨(by first | exact hk.2 | exact ⟨trivial, hk.2⟩ | simpa only [true_and, and_assoc] using hk.2), fun e_ => (e_.1.1.2) hk.1⟩))) hkp (fun k_ hk_ hs_ => Or.elim hs_ (fun e_ => (hk_.1.2) e_) (fun e_ => (hk_.2) e_))) (fun k_ hk_ => hk_.1.1.1.2)); have n4_ := Aside0.mk (hb); clear BK327; clear HO337; clear BK344; clear HO347; clear HB; clear HO340; clear HO343; clear HO331; clear HO334; clear HO351; clear HO354; have BK327 := n0_; have HO337 := n1_; have BK344 := n2_; have HO347 := n3_; have HB := n4_; clear n0_ n1_ n2_ n3_ n4_; (try clear hb); (try clear hkp)))
      (try simp only [Act.put, List.setIfInBounds_toArray, List.set_cons_zero, List.set_cons_succ])
      go_cut [46] (fun v46 wc => ∃ (kq : Nat) (x46_17 : Bool), v46 = .bool x46_17 ∧ Aside0 (laws_FnExactLivesIn.j0 kq a1 t335 t345 x46_17 l0_0 l0_1 = some r) ∧ Aside0 (kq ≤ k) ∧ Aside0 (Kd.R (Kd.int .i64) 3 wc w.heap.size (fun k_ => some k_ ≠ ((.slice Ao35 t345.length co35) : Value).ownBlock) (.slice Ao36 t335.length co36) t335) ∧ Aside0 (Kd.R (Kd.int .i64) 3 wc w.heap.size (fun k_ => some k_ ≠ ((.slice Ao36 t335.length co36) : Value).ownBlock) (.slice Ao35 t345.length co35) t345) ∧ Aside0 (wc.heap[gb327]? = some (.cells #[(.slice A0_0 l0_0.length c0_0), (.slice A0_1 l0_1.length c0_1)] 25 (0, 0))) ∧ Aside0 (Below w.heap.size w wc))
      case first =>
       have H := HC18.out
       clear HC18
       by_cases c44 : t356 < 0
       ·rw [if_pos c44] at H
        have c44b0 : decide (t356 < 0) = true := decide_eq_true c44
        clear c44
        (first | rw [c44b0] | (simp only [i64_w, i32_w]; rw [c44b0]) | skip)
        have H' := Aside0.mk H
        clear H
        go_wp2
        go_meet
        case rel => exact ⟨_, (true), q5_, H', ⟨by first | omega | exact Nat.le_refl _⟩, ⟨by (with_reducible repeat (first | apply Kd.R_alloc | apply Kd.R_drewN | apply Kd.R_drew)); exact HO337.out⟩, ⟨by (with_reducible repeat (first | apply Kd.R_alloc | apply Kd.R_drewN | apply Kd.R_drew)); exact HO347.out⟩, ⟨by (with_reducible repeat (first | refine blk_drewN ?_ _ | refine blk_drew ?_ | refine blk_alloc ?_ _)); exact BK327.out⟩, ⟨by repeat (first | (with_reducible first | exact HB.out | apply below_alloc | apply pw_below_drewN | apply below_drew1 | refine below_set ?_ GE327.out | refine below_set ?_ GE344.out) | exact HB.out)⟩⟩
       ·rw [if_neg c44] at H
        have c44b0 : decide (t356 < 0) = false := decide_eq_false c44
        clear c44
        (first | rw [c44b0] | (simp only [i64_w, i32_w]; rw [c44b0]) | skip)
        replace H := Option.bind_eq_some_iff.mp H
        obtain ⟨t357, A450, H⟩ := H
        replace H : (laws_FnExactLivesIn.j0 k a1 t335 t345 (!t357) l0_0 l0_1) = some r := H
        have A45 := Aside0.mk A450
        clear A450
        have H' := Aside0.mk H
        clear H
        go_wp2_with (first | (go_at_call 24; (try simp only [i64_w]); (with_reducible refine (laws_eqIntS.calls k _ _ t345 _ _ t335 t357 _ ?side1 ?side2 ?side3 ?side4 A45.out).mono ?_); (case side1 => exact q53_); (case side2 => exact (Kd.R_reads' HO347.out).2.1); (case side3 => exact q54_); (case side4 => exact (Kd.R_reads' HO337.out).2.1); rintro e w' ⟨rfl, ⟨nd, rfl⟩⟩))
        go_meet
        case rel => exact ⟨_, (!t357), q5_, H', ⟨by first | omega | exact Nat.le_refl _⟩, ⟨by (with_reducible repeat (first | apply Kd.R_alloc | apply Kd.R_drewN | apply Kd.R_drew)); exact HO337.out⟩, ⟨by (with_reducible repeat (first | apply Kd.R_alloc | apply Kd.R_drewN | apply Kd.R_drew)); exact HO347.out⟩, ⟨by (with_reducible repeat (first | refine blk_drewN ?_ _ | refine blk_drew ?_ | refine blk_alloc ?_ _)); exact BK327.out⟩, ⟨by repeat (first | (with_reducible first | exact HB.out | apply below_alloc | apply pw_below_drewN | apply below_drew1 | refine below_set ?_ GE327.out | refine below_set ?_ GE344.out) | exact HB.out)⟩⟩
      case rest =>
       clear HC18
       try clear c1
       try clear c2
       try clear p2
       try clear c3
       try clear c4
       try clear c4b0
       try clear c7
       try clear c13
       try clear c14
       try clear c16
       try clear c18
       try clear c24
       try clear c25
       try clear c30
       try clear c31
       try clear c44
       try clear c44b0
       try clear hcz20_0
       try clear hcz20_1
       try clear hcz22_0
       try clear hcz22_1
       try clear hcz27_0
       try clear hcz27_1
       try clear hcz32_0
       try clear hcz32_1
       try clear hcz42_0
       try clear hcz42_1
       try clear hcz6_0
       try clear hcz6_1
       try clear hfz20_0
       try clear hfz20_1
       try clear hfz22_0
       try clear hfz22_1
       try clear hfz27_0
       try clear hfz27_1
       try clear hfz32_0
       try clear hfz32_1
       try clear hfz42_0
       try clear hfz42_1
       try clear hfz6_0
       try clear hfz6_1
       obtain ⟨kq, x46_17, rfl, HA, HJ17, HO_6, HO_8, BK327, HB⟩ := hcut
       cases kq with
       | zero => exact absurd HA.out (by simp [laws_FnExactLivesIn.j0])
       | succ kj17 =>
        have H := HA.out
        clear HA
        simp only [laws_FnExactLivesIn.j0] at H
        by_cases c46 : x46_17 = true
        ·subst c46
         have H1 : (some false) = some r := by rw [if_pos rfl] at H; exact H
         clear H
         have H := H1
         clear H1
         obtain rfl := Option.some.inj H
         go_wp2
         go_ret
         exact ⟨by first | rfl | (simp [errW_none, errW_some] <;> rfl) | (simp [*, errW_none, errW_some] <;> rfl), by repeat (first | (with_reducible first | exact HB.out | apply below_alloc | apply pw_below_drewN | apply below_drew1 | refine below_set ?_ GE327.out) | exact HB.out)⟩
        ·replace c46 := Bool.eq_false_iff.mpr c46
         subst c46
         have H1 : ((laws_markIntS.f kj17 t345 1).bind fun bt358 => ((laws_heldIntS.f kj17 bt358.2 1).bind fun t360 => (if t360 < 0 then (some false) else (if t360 = bt358.1 then ((laws_toWeave.f kj17 l0_0 l0_1).bind fun bt361 => ((impl_LivesIn.f kj17 bt361.1 bt361.2 a1).bind fun t367 => ((laws_eqIntS.f kj17 t367 t335).bind fun t370 => (if t370 = true then ((laws_heldIntS.f kj17 bt358.2 1).bind fun t371 => (if t371 < 0 then (some false) else (if t371 = bt358.1 then (some true) else (some false)))) else (some false))))) else (some false))))) = some r := by rw [if_neg (show ¬ (false = true) by decide)] at H; exact H
         clear H
         have H := H1
         clear H1
         replace H := Option.bind_eq_some_iff.mp H
         obtain ⟨⟨t358, t359⟩, A470, H⟩ := H
         replace H : ((laws_heldIntS.f kj17 t359 1).bind fun t360 => (if t360 < 0 then (some false) else (if t360 = t358 then ((laws_toWeave.f kj17 l0_0 l0_1).bind fun bt361 => ((impl_LivesIn.f kj17 bt361.1 bt361.2 a1).bind fun t367 => ((laws_eqIntS.f kj17 t367 t335).bind fun t370 => (if t370 = true then ((laws_heldIntS.f kj17 t359 1).bind fun t371 => (if t371 < 0 then (some false) else (if t371 = t358 then (some true) else (some false)))) else (some false))))) else (some false)))) = some r := H
         have A47 := Aside0.mk A470
         clear A470
         replace H := Option.bind_eq_some_iff.mp H
         obtain ⟨t360, A480, H⟩ := H
         replace H : (if t360 < 0 then (some false) else (if t360 = t358 then ((laws_toWeave.f kj17 l0_0 l0_1).bind fun bt361 => ((impl_LivesIn.f kj17 bt361.1 bt361.2 a1).bind fun t367 => ((laws_eqIntS.f kj17 t367 t335).bind fun t370 => (if t370 = true then ((laws_heldIntS.f kj17 t359 1).bind fun t371 => (if t371 < 0 then (some false) else (if t371 = t358 then (some true) else (some false)))) else (some false))))) else (some false))) = some r := H
         have A48 := Aside0.mk A480
         clear A480
         by_cases c49 : t360 < 0
         ·rw [if_pos c49] at H
          have c49b0 : decide (t360 < 0) = true := decide_eq_true c49
          clear c49
          obtain rfl := Option.some.inj H
          go_wp2_with (first | ((with_reducible refine gate_callee (f := 26) rfl ?_); refine goesL_ (some 49) rfl rfl Try.func26 (by kernel_rfl) rfl #[.slice Ao35 t345.length co35, .int .i64 1] rfl q0_ ?_; (with_reducible refine (laws_markIntS.calls kj17 (fun k_ => some k_ = (.slice Ao35 t345.length co35 : Value).ownBlock) (.slice Ao35 t345.length co35) t345 1 t358 t359 w _ ?side1 ?side2 A47.out).mono ?_); (case side1 => exact q3_); (case side2 => exact Kd.R_tight rfl HO_8.out); rintro e w50 ⟨rfl, hy0, hb, hkp⟩; refine ⟨_, rfl, ?_⟩; have n0_ := Aside0.mk (Kd.R_mono (ok' := fun k_ => some k_ ≠ (.slice Ao35 t345.length co35 : Value).ownBlock) (Kd.R_keptB (HO_6.out) hkp (fun k_ hk_ hs_ => (hk_) hs_)) (fun k_ hk_ => hk_.1)); have n1_ := Aside0.mk (Kd.R_reok rfl hy0 (fun k_ e_ => HO_8.out.1 k_ e_)); have n2_ := Aside0.mk (blk_kept q6_ hkp (fun hs_ => (fun e_ => (Kd.R_ne HO_8.out BK327.out (by decide)) e_) hs_)); have n3_ := Aside0.mk (hb); clear HO_6; clear HO_8; clear BK327; clear HB; have HO_6 := n0_; have HO_8 := n1_; have BK327 := n2_; have HB := n3_; clear n0_ n1_ n2_ n3_; (try clear hb); (try clear hkp); (try clear hy0)) | ((with_reducible refine gate_callee (f := 27) rfl ?_); refine goesL_ (some 52) rfl rfl Try.func27 (by kernel_rfl) rfl #[.slice Ao35 t359.length co35, .int .i64 1] rfl q15_ ?_; (with_reducible refine (laws_heldIntS.calls kj17 _ _ t359 1 t360 _ ?side1 ?side2 A48.out).mono ?_); (case side1 => exact q21_); (case side2 => rw [show t359.length = t345.length from (Kd.R_reads' HO_8.out).1.symm]; exact (Kd.R_reads' HO_8.out).2.1); rintro e w' ⟨rfl, ⟨nd, rfl⟩⟩; refine ⟨_, rfl, ?_⟩))
          go_ret
          exact ⟨by first | rfl | (simp [errW_none, errW_some] <;> rfl) | (simp [*, errW_none, errW_some] <;> rfl), by repeat (first | (with_reducible first | exact HB.out | apply below_alloc | apply pw_below_drewN | apply below_drew1 | refine below_set ?_ GE327.out) | exact HB.out)⟩
         ·rw [if_neg c49] at H
          have c49b0 : decide (t360 < 0) = false := decide_eq_false c49
          clear c49
          by_cases c51 : t360 = t358
          ·rw [if_pos c51] at H
           have c51b0 : (t360 == t358) = true := beq_iff_eq.mpr c51
           have c51b1 : (t360 != t358) = false := bne_eq_false_iff_eq.mpr c51
           clear c51
           replace H := Option.bind_eq_some_iff.mp H
           obtain ⟨⟨t361, t364⟩, A520, H⟩ := H
           replace H : ((impl_LivesIn.f kj17 t361 t364 a1).bind fun t367 => ((laws_eqIntS.f kj17 t367 t335).bind fun t370 => (if t370 = true then ((laws_heldIntS.f kj17 t359 1).bind fun t371 => (if t371 < 0 then (some false) else (if t371 = t358 then (some true) else (some false)))) else (some false)))) = some r := H
           have A52 := Aside0.mk A520
           clear A520
           replace H := Option.bind_eq_some_iff.mp H
           obtain ⟨t367, A530, H⟩ := H
           replace H : ((laws_eqIntS.f kj17 t367 t335).bind fun t370 => (if t370 = true then ((laws_heldIntS.f kj17 t359 1).bind fun t371 => (if t371 < 0 then (some false) else (if t371 = t358 then (some true) else (some false)))) else (some false))) = some r := H
           have A53 := Aside0.mk A530
           clear A530
           replace H := Option.bind_eq_some_iff.mp H
           obtain ⟨t370, A540, H⟩ := H
           replace H : (if t370 = true then ((laws_heldIntS.f kj17 t359 1).bind fun t371 => (if t371 < 0 then (some false) else (if t371 = t358 then (some true) else (some false)))) else (some false)) = some r := H
           have A54 := Aside0.mk A540
           clear A540
           by_cases c55 : t370 = true
           ·subst c55
            have H1 : ((laws_heldIntS.f kj17 t359 1).bind fun t371 => (if t371 < 0 then (some false) else (if t371 = t358 then (some true) else (some false)))) = some r := by rw [if_pos rfl] at H; exact H
            clear H
            have H := H1
            clear H1
            replace H := Option.bind_eq_some_iff.mp H
            obtain ⟨t371, A560, H⟩ := H
            replace H : (if t371 < 0 then (some false) else (if t371 = t358 then (some true) else (some false))) = some r := H
            have A56 := Aside0.mk A560
            clear A560
            by_cases c57 : t371 < 0
            ·rw [if_pos c57] at H
             have c57b0 : decide (t371 < 0) = true := decide_eq_true c57
             clear c57
             obtain rfl := Option.some.inj H
             go_wp2_with (first | ((with_reducible refine gate_callee (f := 26) rfl ?_); refine goesL_ (some 49) rfl rfl Try.func26 (by kernel_rfl) rfl #[.slice Ao35 t345.length co35, .int .i64 1] rfl q0_ ?_; (with_reducible refine (laws_markIntS.calls kj17 (fun k_ => some k_ = (.slice Ao35 t345.length co35 : Value).ownBlock) (.slice Ao35 t345.length co35) t345 1 t358 t359 w _ ?side1 ?side2 A47.out).mono ?_); (case side1 => exact q3_); (case side2 => exact Kd.R_tight rfl HO_8.out); rintro e w58 ⟨rfl, hy0, hb, hkp⟩; refine ⟨_, rfl, ?_⟩; have n0_ := Aside0.mk (Kd.R_mono (ok' := fun k_ => some k_ ≠ (.slice Ao35 t345.length co35 : Value).ownBlock) (Kd.R_keptB (HO_6.out) hkp (fun k_ hk_ hs_ => (hk_) hs_)) (fun k_ hk_ => hk_.1)); have n1_ := Aside0.mk (Kd.R_reok rfl hy0 (fun k_ e_ => HO_8.out.1 k_ e_)); have n2_ := Aside0.mk (blk_kept q6_ hkp (fun hs_ => (fun e_ => (Kd.R_ne HO_8.out BK327.out (by decide)) e_) hs_)); have n3_ := Aside0.mk (hb); clear HO_6; clear HO_8; clear BK327; clear HB; have HO_6 := n0_; have HO_8 := n1_; have BK327 := n2_; have HB := n3_; clear n0_ n1_ n2_ n3_; (try clear hb); (try clear hkp); (try clear hy0)) | ((with_reducible refine gate_callee (f := 27) rfl ?_); refine goesL_ (some 52) rfl rfl Try.func27 (by kernel_rfl) rfl #[.slice Ao35 t359.length co35, .int .i64 1] rfl q15_ ?_; (with_reducible refine (laws_heldIntS.calls kj17 _ _ t359 1 t360 _ ?side1 ?side2 A48.out).mono ?_); (case side1 => exact q21_); (case side2 => rw [show t359.length = t345.length from (Kd.R_reads' HO_8.out).1.symm]; exact (Kd.R_reads' HO_8.out).2.1); rintro e w' ⟨rfl, ⟨nd, rfl⟩⟩; refine ⟨_, rfl, ?_⟩; have hcz59_0 : w58.cell? ⟨gb327, 0, none⟩ = some (.slice A0_0 l0_0.length c0_0) := (blk_cell BK327.out 0).trans rfl; have hcz59_1 : w58.cell? ⟨gb327, 1, none⟩ = some (.slice A0_1 l0_1.length c0_1) := (blk_cell BK327.out 1).trans rfl; have hfz59_0 := blk_frozen BK327.out 0; have hfz59_1 := blk_frozen BK327.out 1) | ((with_reducible refine gate_callee (f := 16) rfl ?_); refine goesL_ (some 59) rfl rfl Try.func16 (by kernel_rfl) rfl #[.agg #[.slice A0_0 l0_0.length c0_0, .slice A0_1 l0_1.length c0_1]] rfl q0_ ?_; (with_reducible refine (laws_toWeave.calls kj17 _ _ l0_0 _ _ l0_1 t361 t364 _ ?side1 ?side2 ?side3 ?side4 A52.out).mono ?_); (case side1 => exact (by repeat (first | exact (Kd.C_below HR0_0.out q3_) | (with_reducible refine Kd.C_alloc ?_ _) | (with_reducible refine Kd.C_drewN ?_ _) | (with_reducible refine Kd.C_drew ?_)))); (case side2 => exact HC0_0.out); (case side3 => exact (by repeat (first | exact (Kd.C_below HR0_1.out q3_) | (with_reducible refine Kd.C_alloc ?_ _) | (with_reducible refine Kd.C_drewN ?_ _) | (with_reducible refine Kd.C_drew ?_)))); (case side4 => exact HC0_1.out); rintro e w60 ⟨v362, v365, rfl, ho0, ho1, hb⟩; refine ⟨_, rfl, ?_⟩; have n0_ := Aside0.mk (Kd.R_below q13_ hb); have n1_ := Aside0.mk (Kd.R_below q14_ hb); have n2_ := Aside0.mk (Kd.S_lower (Kd.S_new' (Kd.S_new' ho0 (Kd.R_lt q13_)) (Kd.R_lt q14_)) (below_size q3_)); have n3_ := Aside0.mk (Kd.S_lower (Kd.S_new' (Kd.S_new' ho1 (Kd.R_lt q13_)) (Kd.R_lt q14_)) (below_size q3_)); have n4_ := Aside0.mk (blk_below (g := gb327) (o := .cells #[.slice A0_0 l0_0.length c0_0, .slice A0_1 l0_1.length c0_1] 25 (0, 0)) q6_ hb); have n5_ := Aside0.mk (below_step q3_ hb); clear HO_6; clear HO_8; clear BK327; clear HB; have HO_6 := n0_; have HO_8 := n1_; have HO363 := n2_; have HO366 := n3_; have BK327 := n4_; have HB := n5_; clear n0_ n1_ n2_ n3_ n4_ n5_; (try clear hb); (try clear hb2); (try clear hk); (try clear hi); (try clear ho0); (try clear ho1); obtain ⟨Ao61, co61, eo61⟩ := Kd.S_slice HO363.out; subst eo61; obtain ⟨Ao62, co62, eo62⟩ := Kd.S_slice HO366.out; subst eo62) | ((with_reducible refine gate_callee (f := 31) rfl ?_); refine goesL_ (some 61) rfl rfl Try.func31 (by kernel_rfl) rfl #[.agg #[.slice Ao61 t361.length co61, .slice Ao62 t364.length co62], .int .i64 a1] rfl q0_ ?_; (with_reducible refine (impl_LivesIn.calls kj17 _ _ t361 _ _ t364 a1 t367 _ ?side1 ?side2 ?side3 ?side4 A53.out).mono ?_); (case side1 => exact q55_); (case side2 => exact (Kd.S_reads' HO363.out).2.1); (case side3 => exact q56_); (case side4 => exact (Kd.S_reads' HO366.out).2.1); rintro e w63 ⟨v368, rfl, ho0, hb⟩; refine ⟨_, rfl, ?_⟩; have n0_ := Aside0.mk (Kd.R_elder' q13_ (Kd.R_base ho0) hb); have n1_ := Aside0.mk (Kd.R_elder' q14_ (Kd.R_base ho0) hb); have n2_ := Aside0.mk (Kd.S_elder' (by (with_reducible repeat (first | apply Kd.S_alloc | apply Kd.S_drewN | apply Kd.S_drew)); exact HO363.out) (Kd.R_base ho0) hb); have n3_ := Aside0.mk (Kd.S_elder' (by (with_reducible repeat (first | apply Kd.S_alloc | apply Kd.S_drewN | apply Kd.S_drew)); exact HO366.out) (Kd.R_base ho0) hb); have n4_ := Aside0.mk (Kd.R_lower (Kd.R_new' (Kd.R_new' ho0 (Kd.R_lt q13_)) (Kd.R_lt q14_)) (below_size q3_)); have n5_ := Aside0.mk (blk_below (g := gb327) (o := .cells #[.slice A0_0 l0_0.length c0_0, .slice A0_1 l0_1.length c0_1] 25 (0, 0)) q6_ hb); have n6_ := Aside0.mk (below_step q3_ hb); clear HO_6; clear HO_8; clear HO363; clear HO366; clear BK327; clear HB; have HO_6 := n0_; have HO_8 := n1_; have HO363 := n2_; have HO366 := n3_; have HO369 := n4_; have BK327 := n5_; have HB := n6_; clear n0_ n1_ n2_ n3_ n4_ n5_ n6_; (try clear hb); (try clear hb2); (try clear hk); (try clear hi); (try clear ho0); obtain ⟨Ao64, co64, eo64⟩ := Kd.R_slice HO369.out; subst eo64) | ((with_reducible refine gate_callee (f := 24) rfl ?_); refine goesL_ (some 64) rfl rfl Try.func24 (by kernel_rfl) rfl #[.slice Ao64 t367.length co64, .slice Ao36 t335.length co36] rfl q0_ ?_; (with_reducible refine (laws_eqIntS.calls kj17 _ _ t367 _ _ t335 true _ ?side1 ?side2 ?side3 ?side4 A54.out).mono ?_); (case side1 => exact q57_); (case side2 => exact (Kd.R_reads' HO369.out).2.1); (case side3 => exact q59_); (case side4 => exact (Kd.R_reads' HO_6.out).2.1); rintro e w' ⟨rfl, ⟨nd, rfl⟩⟩; refine ⟨_, rfl, ?_⟩) | ((with_reducible refine gate_callee (f := 27) rfl ?_); refine goesL_ (some 68) rfl rfl Try.func27 (by kernel_rfl) rfl #[.slice Ao35 t359.length co35, .int .i64 1] rfl q15_ ?_; (with_reducible refine (laws_heldIntS.calls kj17 _ _ t359 1 t371 _ ?side1 ?side2 A56.out).mono ?_); (case side1 => exact q21_); (case side2 => rw [show t359.length = t345.length from (Kd.R_reads' HO_8.out).1.symm]; exact (Kd.R_reads' HO_8.out).2.1); rintro e w' ⟨rfl, ⟨nd, rfl⟩⟩; refine ⟨_, rfl, ?_⟩))
             go_ret
             exact ⟨by first | rfl | (simp [errW_none, errW_some] <;> rfl) | (simp [*, errW_none, errW_some] <;> rfl), by repeat (first | (with_reducible first | exact HB.out | apply below_alloc | apply pw_below_drewN | apply below_drew1 | refine below_set ?_ GE327.out) | exact HB.out)⟩
            ·rw [if_neg c57] at H
             have c57b0 : decide (t371 < 0) = false := decide_eq_false c57
             clear c57
             by_cases c65 : t371 = t358
             ·rw [if_pos c65] at H
              have c65b0 : (t371 == t358) = true := beq_iff_eq.mpr c65
              have c65b1 : (t371 != t358) = false := bne_eq_false_iff_eq.mpr c65
              clear c65
              obtain rfl := Option.some.inj H
              go_wp2_with (first | ((with_reducible refine gate_callee (f := 26) rfl ?_); refine goesL_ (some 49) rfl rfl Try.func26 (by kernel_rfl) rfl #[.slice Ao35 t345.length co35, .int .i64 1] rfl q0_ ?_; (with_reducible refine (laws_markIntS.calls kj17 (fun k_ => some k_ = (.slice Ao35 t345.length co35 : Value).ownBlock) (.slice Ao35 t345.length co35) t345 1 t358 t359 w _ ?side1 ?side2 A47.out).mono ?_); (case side1 => exact q3_); (case side2 => exact Kd.R_tight rfl HO_8.out); rintro e w66 ⟨rfl, hy0, hb, hkp⟩; refine ⟨_, rfl, ?_⟩; have n0_ := Aside0.mk (Kd.R_mono (ok' := fun k_ => some k_ ≠ (.slice Ao35 t345.length co35 : Value).ownBlock) (Kd.R_keptB (HO_6.out) hkp (fun k_ hk_ hs_ => (hk_) hs_)) (fun k_ hk_ => hk_.1)); have n1_ := Aside0.mk (Kd.R_reok rfl hy0 (fun k_ e_ => HO_8.out.1 k_ e_)); have n2_ := Aside0.mk (blk_kept q6_ hkp (fun hs_ => (fun e_ => (Kd.R_ne HO_8.out BK327.out (by decide)) e_) hs_)); have n3_ := Aside0.mk (hb); clear HO_6; clear HO_8; clear BK327; clear HB; have HO_6 := n0_; have HO_8 := n1_; have BK327 := n2_; have HB := n3_; clear n0_ n1_ n2_ n3_; (try clear hb); (try clear hkp); (try clear hy0)) | ((with_reducible refine gate_callee (f := 27) rfl ?_); refine goesL_ (some 52) rfl rfl Try.func27 (by kernel_rfl) rfl #[.slice Ao35 t359.length co35, .int .i64 1] rfl q15_ ?_; (with_reducible refine (laws_heldIntS.calls kj17 _ _ t359 1 t360 _ ?side1 ?side2 A48.out).mono ?_); (case side1 => exact q21_); (case side2 => rw [show t359.length = t345.length from (Kd.R_reads' HO_8.out).1.symm]; exact (Kd.R_reads' HO_8.out).2.1); rintro e w' ⟨rfl, ⟨nd, rfl⟩⟩; refine ⟨_, rfl, ?_⟩; have hcz67_0 : w66.cell? ⟨gb327, 0, none⟩ = some (.slice A0_0 l0_0.length c0_0) := (blk_cell BK327.out 0).trans rfl; have hcz67_1 : w66.cell? ⟨gb327, 1, none⟩ = some (.slice A0_1 l0_1.length c0_1) := (blk_cell BK327.out 1).trans rfl; have hfz67_0 := blk_frozen BK327.out 0; have hfz67_1 := blk_frozen BK327.out 1) | ((with_reducible refine gate_callee (f := 16) rfl ?_); refine goesL_ (some 59) rfl rfl Try.func16 (by kernel_rfl) rfl #[.agg #[.slice A0_0 l0_0.length c0_0, .slice A0_1 l0_1.length c0_1]] rfl q0_ ?_; (with_reducible refine (laws_toWeave.calls kj17 _ _ l0_0 _ _ l0_1 t361 t364 _ ?side1 ?side2 ?side3 ?side4 A52.out).mono ?_); (case side1 => exact (by repeat (first | exact (Kd.C_below HR0_0.out q3_) | (with_reducible refine Kd.C_alloc ?_ _) | (with_reducible refine Kd.C_drewN ?_ _) | (with_reducible refine Kd.C_drew ?_)))); (case side2 => exact HC0_0.out); (case side3 => exact (by repeat (first | exact (Kd.C_below HR0_1.out q3_) | (with_reducible refine Kd.C_alloc ?_ _) | (with_reducible refine Kd.C_drewN ?_ _) | (with_reducible refine Kd.C_drew ?_)))); (case side4 => exact HC0_1.out); rintro e w68 ⟨v362, v365, rfl, ho0, ho1, hb⟩; refine ⟨_, rfl, ?_⟩; have n0_ := Aside0.mk (Kd.R_below q13_ hb); have n1_ := Aside0.mk (Kd.R_below q14_ hb); have n2_ := Aside0.mk (Kd.S_lower (Kd.S_new' (Kd.S_new' ho0 (Kd.R_lt q13_)) (Kd.R_lt q14_)) (below_size q3_)); have n3_ := Aside0.mk (Kd.S_lower (Kd.S_new' (Kd.S_new' ho1 (Kd.R_lt q13_)) (Kd.R_lt q14_)) (below_size q3_)); have n4_ := Aside0.mk (blk_below (g := gb327) (o := .cells #[.slice A0_0 l0_0.length c0_0, .slice A0_1 l0_1.length c0_1] 25 (0, 0)) q6_ hb); have n5_ := Aside0.mk (below_step q3_ hb); clear HO_6; clear HO_8; clear BK327; clear HB; have HO_6 := n0_; have HO_8 := n1_; have HO363 := n2_; have HO366 := n3_; have BK327 := n4_; have HB := n5_; clear n0_ n1_ n2_ n3_ n4_ n5_; (try clear hb); (try clear hb2); (try clear hk); (try clear hi); (try clear ho0); (try clear ho1); obtain ⟨Ao69, co69, eo69⟩ := Kd.S_slice HO363.out; subst eo69; obtain ⟨Ao70, co70, eo70⟩ := Kd.S_slice HO366.out; subst eo70) | ((with_reducible refine gate_callee (f := 31) rfl ?_); refine goesL_ (some 61) rfl rfl Try.func31 (by kernel_rfl) rfl #[.agg #[.slice Ao69 t361.length co69, .slice Ao70 t364.length co70], .int .i64 a1] rfl q0_ ?_; (with_reducible refine (impl_LivesIn.calls kj17 _ _ t361 _ _ t364 a1 t367 _ ?side1 ?side2 ?side3 ?side4 A53.out).mono ?_); (case side1 => exact q55_); (case side2 => exact (Kd.S_reads' HO363.out).2.1); (case side3 => exact q56_); (case side4 => exact (Kd.S_reads' HO366.out).2.1); rintro e w71 ⟨v368, rfl, ho0, hb⟩; refine ⟨_, rfl, ?_⟩; have n0_ := Aside0.mk (Kd.R_elder' q13_ (Kd.R_base ho0) hb); have n1_ := Aside0.mk (Kd.R_elder' q14_ (Kd.R_base ho0) hb); have n2_ := Aside0.mk (Kd.S_elder' (by (with_reducible repeat (first | apply Kd.S_alloc | apply Kd.S_drewN | apply Kd.S_drew)); exact HO363.out) (Kd.R_base ho0) hb); have n3_ := Aside0.mk (Kd.S_elder' (by (with_reducible repeat (first | apply Kd.S_alloc | apply Kd.S_drewN | apply Kd.S_drew)); exact HO366.out) (Kd.R_base ho0) hb); have n4_ := Aside0.mk (Kd.R_lower (Kd.R_new' (Kd.R_new' ho0 (Kd.R_lt q13_)) (Kd.R_lt q14_)) (below_size q3_)); have n5_ := Aside0.mk (blk_below (g := gb327) (o := .cells #[.slice A0_0 l0_0.length c0_0, .slice A0_1 l0_1.length c0_1] 25 (0, 0)) q6_ hb); have n6_ := Aside0.mk (below_step q3_ hb); clear HO_6; clear HO_8; clear HO363; clear HO366; clear BK327; clear HB; have HO_6 := n0_; have HO_8 := n1_; have HO363 := n2_; have HO366 := n3_; have HO369 := n4_; have BK327 := n5_; have HB := n6_; clear n0_ n1_ n2_ n3_ n4_ n5_ n6_; (try clear hb); (try clear hb2); (try clear hk); (try clear hi); (try clear ho0); obtain ⟨Ao72, co72, eo72⟩ := Kd.R_slice HO369.out; subst eo72) | ((with_reducible refine gate_callee (f := 24) rfl ?_); refine goesL_ (some 64) rfl rfl Try.func24 (by kernel_rfl) rfl #[.slice Ao72 t367.length co72, .slice Ao36 t335.length co36] rfl q0_ ?_; (with_reducible refine (laws_eqIntS.calls kj17 _ _ t367 _ _ t335 true _ ?side1 ?side2 ?side3 ?side4 A54.out).mono ?_); (case side1 => exact q57_); (case side2 => exact (Kd.R_reads' HO369.out).2.1); (case side3 => exact q59_); (case side4 => exact (Kd.R_reads' HO_6.out).2.1); rintro e w' ⟨rfl, ⟨nd, rfl⟩⟩; refine ⟨_, rfl, ?_⟩) | ((with_reducible refine gate_callee (f := 27) rfl ?_); refine goesL_ (some 68) rfl rfl Try.func27 (by kernel_rfl) rfl #[.slice Ao35 t359.length co35, .int .i64 1] rfl q15_ ?_; (with_reducible refine (laws_heldIntS.calls kj17 _ _ t359 1 t371 _ ?side1 ?side2 A56.out).mono ?_); (case side1 => exact q21_); (case side2 => rw [show t359.length = t345.length from (Kd.R_reads' HO_8.out).1.symm]; exact (Kd.R_reads' HO_8.out).2.1); rintro e w' ⟨rfl, ⟨nd, rfl⟩⟩; refine ⟨_, rfl, ?_⟩))
              go_ret
              exact ⟨by first | rfl | (simp [errW_none, errW_some] <;> rfl) | (simp [*, errW_none, errW_some] <;> rfl), by repeat (first | (with_reducible first | exact HB.out | apply below_alloc | apply pw_below_drewN | apply below_drew1 | refine below_set ?_ GE327.out) | exact HB.out)⟩
             ·rw [if_neg c65] at H
              have c65b0 : (t371 == t358) = false := beq_eq_false_iff_ne.mpr c65
              have c65b1 : (t371 != t358) = true := bne_iff_ne.mpr c65
              obtain rfl := Option.some.inj H
              go_wp2_with (first | ((with_reducible refine gate_callee (f := 26) rfl ?_); refine goesL_ (some 49) rfl rfl Try.func26 (by kernel_rfl) rfl #[.slice Ao35 t345.length co35, .int .i64 1] rfl q0_ ?_; (with_reducible refine (laws_markIntS.calls kj17 (fun k_ => some k_ = (.slice Ao35 t345.length co35 : Value).ownBlock) (.slice Ao35 t345.length co35) t345 1 t358 t359 w _ ?side1 ?side2 A47.out).mono ?_); (case side1 => exact q3_); (case side2 => exact Kd.R_tight rfl HO_8.out); rintro e w73 ⟨rfl, hy0, hb, hkp⟩; refine ⟨_, rfl, ?_⟩; have n0_ := Aside0.mk (Kd.R_mono (ok' := fun k_ => some k_ ≠ (.slice Ao35 t345.length co35 : Value).ownBlock) (Kd.R_keptB (HO_6.out) hkp (fun k_ hk_ hs_ => (hk_) hs_)) (fun k_ hk_ => hk_.1)); have n1_ := Aside0.mk (Kd.R_reok rfl hy0 (fun k_ e_ => HO_8.out.1 k_ e_)); have n2_ := Aside0.mk (blk_kept q6_ hkp (fun hs_ => (fun e_ => (Kd.R_ne HO_8.out BK327.out (by decide)) e_) hs_)); have n3_ := Aside0.mk (hb); clear HO_6; clear HO_8; clear BK327; clear HB; have HO_6 := n0_; have HO_8 := n1_; have BK327 := n2_; have HB := n3_; clear n0_ n1_ n2_ n3_; (try clear hb); (try clear hkp); (try clear hy0)) | ((with_reducible refine gate_callee (f := 27) rfl ?_); refine goesL_ (some 52) rfl rfl Try.func27 (by kernel_rfl) rfl #[.slice Ao35 t359.length co35, .int .i64 1] rfl q15_ ?_; (with_reducible refine (laws_heldIntS.calls kj17 _ _ t359 1 t360 _ ?side1 ?side2 A48.out).mono ?_); (case side1 => exact q21_); (case side2 => rw [show t359.length = t345.length from (Kd.R_reads' HO_8.out).1.symm]; exact (Kd.R_reads' HO_8.out).2.1); rintro e w' ⟨rfl, ⟨nd, rfl⟩⟩; refine ⟨_, rfl, ?_⟩; have hcz74_0 : w73.cell? ⟨gb327, 0, none⟩ = some (.slice A0_0 l0_0.length c0_0) := (blk_cell BK327.out 0).trans rfl; have hcz74_1 : w73.cell? ⟨gb327, 1, none⟩ = some (.slice A0_1 l0_1.length c0_1) := (blk_cell BK327.out 1).trans rfl; have hfz74_0 := blk_frozen BK327.out 0; have hfz74_1 := blk_frozen BK327.out 1) | ((with_reducible refine gate_callee (f := 16) rfl ?_); refine goesL_ (some 59) rfl rfl Try.func16 (by kernel_rfl) rfl #[.agg #[.slice A0_0 l0_0.length c0_0, .slice A0_1 l0_1.length c0_1]] rfl q0_ ?_; (with_reducible refine (laws_toWeave.calls kj17 _ _ l0_0 _ _ l0_1 t361 t364 _ ?side1 ?side2 ?side3 ?side4 A52.out).mono ?_); (case side1 => exact (by repeat (first | exact (Kd.C_below HR0_0.out q3_) | (with_reducible refine Kd.C_alloc ?_ _) | (with_reducible refine Kd.C_drewN ?_ _) | (with_reducible refine Kd.C_drew ?_)))); (case side2 => exact HC0_0.out); (case side3 => exact (by repeat (first | exact (Kd.C_below HR0_1.out q3_) | (with_reducible refine Kd.C_alloc ?_ _) | (with_reducible refine Kd.C_drewN ?_ _) | (with_reducible refine Kd.C_drew ?_)))); (case side4 => exact HC0_1.out); rintro e w75 ⟨v362, v365, rfl, ho0, ho1, hb⟩; refine ⟨_, rfl, ?_⟩; have n0_ := Aside0.mk (Kd.R_below q13_ hb); have n1_ := Aside0.mk (Kd.R_below q14_ hb); have n2_ := Aside0.mk (Kd.S_lower (Kd.S_new' (Kd.S_new' ho0 (Kd.R_lt q13_)) (Kd.R_lt q14_)) (below_size q3_)); have n3_ := Aside0.mk (Kd.S_lower (Kd.S_new' (Kd.S_new' ho1 (Kd.R_lt q13_)) (Kd.R_lt q14_)) (below_size q3_)); have n4_ := Aside0.mk (blk_below (g := gb327) (o := .cells #[.slice A0_0 l0_0.length c0_0, .slice A0_1 l0_1.length c0_1] 25 (0, 0)) q6_ hb); have n5_ := Aside0.mk (below_step q3_ hb); clear HO_6; clear HO_8; clear BK327; clear HB; have HO_6 := n0_; have HO_8 := n1_; have HO363 := n2_; have HO366 := n3_; have BK327 := n4_; have HB := n5_; clear n0_ n1_ n2_ n3_ n4_ n5_; (try clear hb); (try clear hb2); (try clear hk); (try clear hi); (try clear ho0); (try clear ho1); obtain ⟨Ao76, co76, eo76⟩ := Kd.S_slice HO363.out; subst eo76; obtain ⟨Ao77, co77, eo77⟩ := Kd.S_slice HO366.out; subst eo77) | ((with_reducible refine gate_callee (f := 31) rfl ?_); refine goesL_ (some 61) rfl rfl Try.func31 (by kernel_rfl) rfl #[.agg #[.slice Ao76 t361.length co76, .slice Ao77 t364.length co77], .int .i64 a1] rfl q0_ ?_; (with_reducible refine (impl_LivesIn.calls kj17 _ _ t361 _ _ t364 a1 t367 _ ?side1 ?side2 ?side3 ?side4 A53.out).mono ?_); (case side1 => exact q55_); (case side2 => exact (Kd.S_reads' HO363.out).2.1); (case side3 => exact q56_); (case side4 => exact (Kd.S_reads' HO366.out).2.1); rintro e w78 ⟨v368, rfl, ho0, hb⟩; refine ⟨_, rfl, ?_⟩; have n0_ := Aside0.mk (Kd.R_elder' q13_ (Kd.R_base ho0) hb); have n1_ := Aside0.mk (Kd.R_elder' q14_ (Kd.R_base ho0) hb); have n2_ := Aside0.mk (Kd.S_elder' (by (with_reducible repeat (first | apply Kd.S_alloc | apply Kd.S_drewN | apply Kd.S_drew)); exact HO363.out) (Kd.R_base ho0) hb); have n3_ := Aside0.mk (Kd.S_elder' (by (with_reducible repeat (first | apply Kd.S_alloc | apply Kd.S_drewN | apply Kd.S_drew)); exact HO366.out) (Kd.R_base ho0) hb); have n4_ := Aside0.mk (Kd.R_lower (Kd.R_new' (Kd.R_new' ho0 (Kd.R_lt q13_)) (Kd.R_lt q14_)) (below_size q3_)); have n5_ := Aside0.mk (blk_below (g := gb327) (o := .cells #[.slice A0_0 l0_0.length c0_0, .slice A0_1 l0_1.length c0_1] 25 (0, 0)) q6_ hb); have n6_ := Aside0.mk (below_step q3_ hb); clear HO_6; clear HO_8; clear HO363; clear HO366; clear BK327; clear HB; have HO_6 := n0_; have HO_8 := n1_; have HO363 := n2_; have HO366 := n3_; have HO369 := n4_; have BK327 := n5_; have HB := n6_; clear n0_ n1_ n2_ n3_ n4_ n5_ n6_; (try clear hb); (try clear hb2); (try clear hk); (try clear hi); (try clear ho0); obtain ⟨Ao79, co79, eo79⟩ := Kd.R_slice HO369.out; subst eo79) | ((with_reducible refine gate_callee (f := 24) rfl ?_); refine goesL_ (some 64) rfl rfl Try.func24 (by kernel_rfl) rfl #[.slice Ao79 t367.length co79, .slice Ao36 t335.length co36] rfl q0_ ?_; (with_reducible refine (laws_eqIntS.calls kj17 _ _ t367 _ _ t335 true _ ?side1 ?side2 ?side3 ?side4 A54.out).mono ?_); (case side1 => exact q57_); (case side2 => exact (Kd.R_reads' HO369.out).2.1); (case side3 => exact q59_); (case side4 => exact (Kd.R_reads' HO_6.out).2.1); rintro e w' ⟨rfl, ⟨nd, rfl⟩⟩; refine ⟨_, rfl, ?_⟩) | ((with_reducible refine gate_callee (f := 27) rfl ?_); refine goesL_ (some 68) rfl rfl Try.func27 (by kernel_rfl) rfl #[.slice Ao35 t359.length co35, .int .i64 1] rfl q15_ ?_; (with_reducible refine (laws_heldIntS.calls kj17 _ _ t359 1 t371 _ ?side1 ?side2 A56.out).mono ?_); (case side1 => exact q21_); (case side2 => rw [show t359.length = t345.length from (Kd.R_reads' HO_8.out).1.symm]; exact (Kd.R_reads' HO_8.out).2.1); rintro e w' ⟨rfl, ⟨nd, rfl⟩⟩; refine ⟨_, rfl, ?_⟩))
              go_ret
              exact ⟨by first | rfl | (simp [errW_none, errW_some] <;> rfl) | (simp [*, errW_none, errW_some] <;> rfl), by repeat (first | (with_reducible first | exact HB.out | apply below_alloc | apply pw_below_drewN | apply below_drew1 | refine below_set ?_ GE327.out) | exact HB.out)⟩
           ·replace c55 := Bool.eq_false_iff.mpr c55
            subst c55
            have H1 : (some false) = some r := by rw [if_neg (show ¬ (false = true) by decide)] at H; exact H
            clear H
            have H := H1
            clear H1
            obtain rfl := Option.some.inj H
            go_wp2_with (first | ((with_reducible refine gate_callee (f := 26) rfl ?_); refine goesL_ (some 49) rfl rfl Try.func26 (by kernel_rfl) rfl #[.slice Ao35 t345.length co35, .int .i64 1] rfl q0_ ?_; (with_reducible refine (laws_markIntS.calls kj17 (fun k_ => some k_ = (.slice Ao35 t345.length co35 : Value).ownBlock) (.slice Ao35 t345.length co35) t345 1 t358 t359 w _ ?side1 ?side2 A47.out).mono ?_); (case side1 => exact q3_); (case side2 => exact Kd.R_tight rfl HO_8.out); rintro e w80 ⟨rfl, hy0, hb, hkp⟩; refine ⟨_, rfl, ?_⟩; have n0_ := Aside0.mk (Kd.R_mono (ok' := fun k_ => some k_ ≠ (.slice Ao35 t345.length co35 : Value).ownBlock) (Kd.R_keptB (HO_6.out) hkp (fun k_ hk_ hs_ => (hk_) hs_)) (fun k_ hk_ => hk_.1)); have n1_ := Aside0.mk (Kd.R_reok rfl hy0 (fun k_ e_ => HO_8.out.1 k_ e_)); have n2_ := Aside0.mk (blk_kept q6_ hkp (fun hs_ => (fun e_ => (Kd.R_ne HO_8.out BK327.out (by decide)) e_) hs_)); have n3_ := Aside0.mk (hb); clear HO_6; clear HO_8; clear BK327; clear HB; have HO_6 := n0_; have HO_8 := n1_; have BK327 := n2_; have HB := n3_; clear n0_ n1_ n2_ n3_; (try clear hb); (try clear hkp); (try clear hy0)) | ((with_reducible refine gate_callee (f := 27) rfl ?_); refine goesL_ (some 52) rfl rfl Try.func27 (by kernel_rfl) rfl #[.slice Ao35 t359.length co35, .int .i64 1] rfl q15_ ?_; (with_reducible refine (laws_heldIntS.calls kj17 _ _ t359 1 t360 _ ?side1 ?side2 A48.out).mono ?_); (case side1 => exact q21_); (case side2 => rw [show t359.length = t345.length from (Kd.R_reads' HO_8.out).1.symm]; exact (Kd.R_reads' HO_8.out).2.1); rintro e w' ⟨rfl, ⟨nd, rfl⟩⟩; refine ⟨_, rfl, ?_⟩; have hcz81_0 : w80.cell? ⟨gb327, 0, none⟩ = some (.slice A0_0 l0_0.length c0_0) := (blk_cell BK327.out 0).trans rfl; have hcz81_1 : w80.cell? ⟨gb327, 1, none⟩ = some (.slice A0_1 l0_1.length c0_1) := (blk_cell BK327.out 1).trans rfl; have hfz81_0 := blk_frozen BK327.out 0; have hfz81_1 := blk_frozen BK327.out 1) | ((with_reducible refine gate_callee (f := 16) rfl ?_); refine goesL_ (some 59) rfl rfl Try.func16 (by kernel_rfl) rfl #[.agg #[.slice A0_0 l0_0.length c0_0, .slice A0_1 l0_1.length c0_1]] rfl q0_ ?_; (with_reducible refine (laws_toWeave.calls kj17 _ _ l0_0 _ _ l0_1 t361 t364 _ ?side1 ?side2 ?side3 ?side4 A52.out).mono ?_); (case side1 => exact (by repeat (first | exact (Kd.C_below HR0_0.out q3_) | (with_reducible refine Kd.C_alloc ?_ _) | (with_reducible refine Kd.C_drewN ?_ _) | (with_reducible refine Kd.C_drew ?_)))); (case side2 => exact HC0_0.out); (case side3 => exact (by repeat (first | exact (Kd.C_below HR0_1.out q3_) | (with_reducible refine Kd.C_alloc ?_ _) | (with_reducible refine Kd.C_drewN ?_ _) | (with_reducible refine Kd.C_drew ?_)))); (case side4 => exact HC0_1.out); rintro e w82 ⟨v362, v365, rfl, ho0, ho1, hb⟩; refine ⟨_, rfl, ?_⟩; have n0_ := Aside0.mk (Kd.R_below q13_ hb); have n1_ := Aside0.mk (Kd.R_below q14_ hb); have n2_ := Aside0.mk (Kd.S_lower (Kd.S_new' (Kd.S_new' ho0 (Kd.R_lt q13_)) (Kd.R_lt q14_)) (below_size q3_)); have n3_ := Aside0.mk (Kd.S_lower (Kd.S_new' (Kd.S_new' ho1 (Kd.R_lt q13_)) (Kd.R_lt q14_)) (below_size q3_)); have n4_ := Aside0.mk (blk_below (g := gb327) (o := .cells #[.slice A0_0 l0_0.length c0_0, .slice A0_1 l0_1.length c0_1] 25 (0, 0)) q6_ hb); have n5_ := Aside0.mk (below_step q3_ hb); clear HO_6; clear HO_8; clear BK327; clear HB; have HO_6 := n0_; have HO_8 := n1_; have HO363 := n2_; have HO366 := n3_; have BK327 := n4_; have HB := n5_; clear n0_ n1_ n2_ n3_ n4_ n5_; (try clear hb); (try clear hb2); (try clear hk); (try clear hi); (try clear ho0); (try clear ho1); obtain ⟨Ao83, co83, eo83⟩ := Kd.S_slice HO363.out; subst eo83; obtain ⟨Ao84, co84, eo84⟩ := Kd.S_slice HO366.out; subst eo84) | ((with_reducible refine gate_callee (f := 31) rfl ?_); refine goesL_ (some 61) rfl rfl Try.func31 (by kernel_rfl) rfl #[.agg #[.slice Ao83 t361.length co83, .slice Ao84 t364.length co84], .int .i64 a1] rfl q0_ ?_; (with_reducible refine (impl_LivesIn.calls kj17 _ _ t361 _ _ t364 a1 t367 _ ?side1 ?side2 ?side3 ?side4 A53.out).mono ?_); (case side1 => exact q55_); (case side2 => exact (Kd.S_reads' HO363.out).2.1); (case side3 => exact q56_); (case side4 => exact (Kd.S_reads' HO366.out).2.1); rintro e w85 ⟨v368, rfl, ho0, hb⟩; refine ⟨_, rfl, ?_⟩; have n0_ := Aside0.mk (Kd.R_elder' q13_ (Kd.R_base ho0) hb); have n1_ := Aside0.mk (Kd.R_elder' q14_ (Kd.R_base ho0) hb); have n2_ := Aside0.mk (Kd.S_elder' (by (with_reducible repeat (first | apply Kd.S_alloc | apply Kd.S_drewN | apply Kd.S_drew)); exact HO363.out) (Kd.R_base ho0) hb); have n3_ := Aside0.mk (Kd.S_elder' (by (with_reducible repeat (first | apply Kd.S_alloc | apply Kd.S_drewN | apply Kd.S_drew)); exact HO366.out) (Kd.R_base ho0) hb); have n4_ := Aside0.mk (Kd.R_lower (Kd.R_new' (Kd.R_new' ho0 (Kd.R_lt q13_)) (Kd.R_lt q14_)) (below_size q3_)); have n5_ := Aside0.mk (blk_below (g := gb327) (o := .cells #[.slice A0_0 l0_0.length c0_0, .slice A0_1 l0_1.length c0_1] 25 (0, 0)) q6_ hb); have n6_ := Aside0.mk (below_step q3_ hb); clear HO_6; clear HO_8; clear HO363; clear HO366; clear BK327; clear HB; have HO_6 := n0_; have HO_8 := n1_; have HO363 := n2_; have HO366 := n3_; have HO369 := n4_; have BK327 := n5_; have HB := n6_; clear n0_ n1_ n2_ n3_ n4_ n5_ n6_; (try clear hb); (try clear hb2); (try clear hk); (try clear hi); (try clear ho0); obtain ⟨Ao86, co86, eo86⟩ := Kd.R_slice HO369.out; subst eo86) | ((with_reducible refine gate_callee (f := 24) rfl ?_); refine goesL_ (some 64) rfl rfl Try.func24 (by kernel_rfl) rfl #[.slice Ao86 t367.length co86, .slice Ao36 t335.length co36] rfl q0_ ?_; (with_reducible refine (laws_eqIntS.calls kj17 _ _ t367 _ _ t335 false _ ?side1 ?side2 ?side3 ?side4 A54.out).mono ?_); (case side1 => exact q57_); (case side2 => exact (Kd.R_reads' HO369.out).2.1); (case side3 => exact q59_); (case side4 => exact (Kd.R_reads' HO_6.out).2.1); rintro e w' ⟨rfl, ⟨nd, rfl⟩⟩; refine ⟨_, rfl, ?_⟩))
            go_ret
            exact ⟨by first | rfl | (simp [errW_none, errW_some] <;> rfl) | (simp [*, errW_none, errW_some] <;> rfl), by repeat (first | (with_reducible first | exact HB.out | apply below_alloc | apply pw_below_drewN | apply below_drew1 | refine below_set ?_ GE327.out) | exact HB.out)⟩
          ·rw [if_neg c51] at H
           have c51b0 : (t360 == t358) = false := beq_eq_false_iff_ne.mpr c51
           have c51b1 : (t360 != t358) = true := bne_iff_ne.mpr c51
           obtain rfl := Option.some.inj H
           go_wp2_with (first | ((with_reducible refine gate_callee (f := 26) rfl ?_); refine goesL_ (some 49) rfl rfl Try.func26 (by kernel_rfl) rfl #[.slice Ao35 t345.length co35, .int .i64 1] rfl q0_ ?_; (with_reducible refine (laws_markIntS.calls kj17 (fun k_ => some k_ = (.slice Ao35 t345.length co35 : Value).ownBlock) (.slice Ao35 t345.length co35) t345 1 t358 t359 w _ ?side1 ?side2 A47.out).mono ?_); (case side1 => exact q3_); (case side2 => exact Kd.R_tight rfl HO_8.out); rintro e w87 ⟨rfl, hy0, hb, hkp⟩; refine ⟨_, rfl, ?_⟩; have n0_ := Aside0.mk (Kd.R_mono (ok' := fun k_ => some k_ ≠ (.slice Ao35 t345.length co35 : Value).ownBlock) (Kd.R_keptB (HO_6.out) hkp (fun k_ hk_ hs_ => (hk_) hs_)) (fun k_ hk_ => hk_.1)); have n1_ := Aside0.mk (Kd.R_reok rfl hy0 (fun k_ e_ => HO_8.out.1 k_ e_)); have n2_ := Aside0.mk (blk_kept q6_ hkp (fun hs_ => (fun e_ => (Kd.R_ne HO_8.out BK327.out (by decide)) e_) hs_)); have n3_ := Aside0.mk (hb); clear HO_6; clear HO_8; clear BK327; clear HB; have HO_6 := n0_; have HO_8 := n1_; have BK327 := n2_; have HB := n3_; clear n0_ n1_ n2_ n3_; (try clear hb); (try clear hkp); (try clear hy0)) | ((with_reducible refine gate_callee (f := 27) rfl ?_); refine goesL_ (some 52) rfl rfl Try.func27 (by kernel_rfl) rfl #[.slice Ao35 t359.length co35, .int .i64 1] rfl q15_ ?_; (with_reducible refine (laws_heldIntS.calls kj17 _ _ t359 1 t360 _ ?side1 ?side2 A48.out).mono ?_); (case side1 => exact q21_); (case side2 => rw [show t359.length = t345.length from (Kd.R_reads' HO_8.out).1.symm]; exact (Kd.R_reads' HO_8.out).2.1); rintro e w' ⟨rfl, ⟨nd, rfl⟩⟩; refine ⟨_, rfl, ?_⟩))
           go_ret
           exact ⟨by first | rfl | (simp [errW_none, errW_some] <;> rfl) | (simp [*, errW_none, errW_some] <;> rfl), by repeat (first | (with_reducible first | exact HB.out | apply below_alloc | apply pw_below_drewN | apply below_drew1 | refine below_set ?_ GE327.out) | exact HB.out)⟩
     ·replace c16 := Bool.eq_false_iff.mpr c16
      subst c16
      have H1 : (some false) = some r := by rw [if_neg (show ¬ (false = true) by decide)] at H; exact H
      clear H
      have H := H1
      clear H1
      obtain rfl := Option.some.inj H
      go_enter Try.func7, Try.ntmps7
      try go_wp2_with (first | ((with_reducible refine gate_dst (N := 2) rfl ?_); refine box_event ?hg (N := 2) ?hd (cs := #[.slice A0_0 l0_0.length c0_0, .slice A0_1 l0_1.length c0_1]) (t := 25) ?hr ?_; (case hd => rfl); (case hg => rfl); (case hr => first | (go_simp; done) | (go_simp; rfl)); intro gb327 hg w88 hbox hb; have n0_ := Aside0.mk (below_step q1_ hb); have n1_ := Aside0.mk (hbox); have n2_ := Aside0.mk ((by rw [hg]; exact (below_size q1_) : w.heap.size ≤ gb327)); have n3_ := Aside0.mk ((by rw [hg]; exact (below_size q1_) : w.heap.size ≤ gb327)); clear HB; have HB := n0_; have BK327 := n1_; have GW327 := n2_; have GE327 := n3_; clear n0_ n1_ n2_ n3_; clear hb hbox hg; have hcz89_0 : w88.cell? ⟨gb327, 0, none⟩ = some (.slice A0_0 l0_0.length c0_0) := (blk_cell BK327.out 0).trans rfl; have hcz89_1 : w88.cell? ⟨gb327, 1, none⟩ = some (.slice A0_1 l0_1.length c0_1) := (blk_cell BK327.out 1).trans rfl; have hfz89_0 := blk_frozen BK327.out 0; have hfz89_1 := blk_frozen BK327.out 1) | ((with_reducible refine gate_callee (f := 14) rfl ?_); refine goesL_ (some 15) rfl rfl Try.func14 (by kernel_rfl) rfl #[.agg #[.slice A0_0 l0_0.length c0_0, .slice A0_1 l0_1.length c0_1], .int .i64 1048576] rfl q0_ ?_; (with_reducible refine (laws_szWeave.calls k _ _ l0_0 _ _ l0_1 1048576 t328 _ ?side1 ?side2 ?side3 ?side4 A3.out).mono ?_); (case side1 => exact q4_); (case side2 => exact HC0_0.out); (case side3 => exact q7_); (case side4 => exact HC0_1.out); rintro e w90 ⟨rfl, hb⟩; refine ⟨_, rfl, ?_⟩; have n0_ := Aside0.mk (blk_below (g := gb327) (o := .cells #[.slice A0_0 l0_0.length c0_0, .slice A0_1 l0_1.length c0_1] 25 (0, 0)) q6_ hb); have n1_ := Aside0.mk (below_step q3_ hb); clear BK327; clear HB; have BK327 := n0_; have HB := n1_; clear n0_ n1_; (try clear hb); (try clear hb2); (try clear hk); (try clear hi); have hcz91_0 : w90.cell? ⟨gb327, 0, none⟩ = some (.slice A0_0 l0_0.length c0_0) := (blk_cell BK327.out 0).trans rfl; have hcz91_1 : w90.cell? ⟨gb327, 1, none⟩ = some (.slice A0_1 l0_1.length c0_1) := (blk_cell BK327.out 1).trans rfl; have hfz91_0 := blk_frozen BK327.out 0; have hfz91_1 := blk_frozen BK327.out 1) | ((with_reducible refine gate_callee (f := 16) rfl ?_); refine goesL_ (some 19) rfl rfl Try.func16 (by kernel_rfl) rfl #[.agg #[.slice A0_0 l0_0.length c0_0, .slice A0_1 l0_1.length c0_1]] rfl q0_ ?_; (with_reducible refine (laws_toWeave.calls k _ _ l0_0 _ _ l0_1 t329 t332 _ ?side1 ?side2 ?side3 ?side4 A8.out).mono ?_); (case side1 => exact q4_); (case side2 => exact HC0_0.out); (case side3 => exact q7_); (case side4 => exact HC0_1.out); rintro e w92 ⟨v330, v333, rfl, ho0, ho1, hb⟩; refine ⟨_, rfl, ?_⟩; have n0_ := Aside0.mk (Kd.S_lower ho0 (below_size q3_)); have n1_ := Aside0.mk (Kd.S_lower ho1 (below_size q3_)); have n2_ := Aside0.mk (blk_below (g := gb327) (o := .cells #[.slice A0_0 l0_0.length c0_0, .slice A0_1 l0_1.length c0_1] 25 (0, 0)) q6_ hb); have n3_ := Aside0.mk (below_step q3_ hb); clear BK327; clear HB; have HO331 := n0_; have HO334 := n1_; have BK327 := n2_; have HB := n3_; clear n0_ n1_ n2_ n3_; (try clear hb); (try clear hb2); (try clear hk); (try clear hi); (try clear ho0); (try clear ho1); obtain ⟨Ao93, co93, eo93⟩ := Kd.S_slice HO331.out; subst eo93; obtain ⟨Ao94, co94, eo94⟩ := Kd.S_slice HO334.out; subst eo94) | ((with_reducible refine gate_callee (f := 30) rfl ?_); refine goesL_ (some 21) rfl rfl Try.func30 (by kernel_rfl) rfl #[.agg #[.slice Ao93 t329.length co93, .slice Ao94 t332.length co94], .int .i64 a1] rfl q0_ ?_; (with_reducible refine (spec_LivesIn.calls k _ _ t329 _ _ t332 a1 t335 _ ?side1 ?side2 ?side3 ?side4 A9.out).mono ?_); (case side1 => exact (by repeat (first | exact (Kd.S_reads' HO331.out).2.2 | (with_reducible refine Kd.C_alloc ?_ _) | (with_reducible refine Kd.C_drewN ?_ _) | (with_reducible refine Kd.C_drew ?_)))); (case side2 => exact (Kd.S_reads' HO331.out).2.1); (case side3 => exact (by repeat (first | exact (Kd.S_reads' HO334.out).2.2 | (with_reducible refine Kd.C_alloc ?_ _) | (with_reducible refine Kd.C_drewN ?_ _) | (with_reducible refine Kd.C_drew ?_)))); (case side4 => exact (Kd.S_reads' HO334.out).2.1); rintro e w95 ⟨v336, rfl, ho0, hb⟩; refine ⟨_, rfl, ?_⟩; have n0_ := Aside0.mk (Kd.S_elder' q18_ (Kd.R_base ho0) hb); have n1_ := Aside0.mk (Kd.S_elder' q19_ (Kd.R_base ho0) hb); have n2_ := Aside0.mk (Kd.R_lower ho0 (below_size q3_)); have n3_ := Aside0.mk (blk_below (g := gb327) (o := .cells #[.slice A0_0 l0_0.length c0_0, .slice A0_1 l0_1.length c0_1] 25 (0, 0)) q6_ hb); have n4_ := Aside0.mk (below_step q3_ hb); clear HO331; clear HO334; clear BK327; clear HB; have HO331 := n0_; have HO334 := n1_; have HO337 := n2_; have BK327 := n3_; have HB := n4_; clear n0_ n1_ n2_ n3_ n4_; (try clear hb); (try clear hb2); (try clear hk); (try clear hi); (try clear ho0); have hcz96_0 : w95.cell? ⟨gb327, 0, none⟩ = some (.slice A0_0 l0_0.length c0_0) := (blk_cell BK327.out 0).trans rfl; have hcz96_1 : w95.cell? ⟨gb327, 1, none⟩ = some (.slice A0_1 l0_1.length c0_1) := (blk_cell BK327.out 1).trans rfl; have hfz96_0 := blk_frozen BK327.out 0; have hfz96_1 := blk_frozen BK327.out 1) | ((with_reducible refine gate_callee (f := 16) rfl ?_); refine goesL_ (some 23) rfl rfl Try.func16 (by kernel_rfl) rfl #[.agg #[.slice A0_0 l0_0.length c0_0, .slice A0_1 l0_1.length c0_1]] rfl q0_ ?_; (with_reducible refine (laws_toWeave.calls k _ _ l0_0 _ _ l0_1 t338 t341 _ ?side1 ?side2 ?side3 ?side4 A10.out).mono ?_); (case side1 => exact q4_); (case side2 => exact HC0_0.out); (case side3 => exact q7_); (case side4 => exact HC0_1.out); rintro e w97 ⟨v339, v342, rfl, ho0, ho1, hb⟩; refine ⟨_, rfl, ?_⟩; have n0_ := Aside0.mk (Kd.S_elder' q18_ (Kd.S_base ho0) hb); have n1_ := Aside0.mk (Kd.S_elder' q19_ (Kd.S_base ho1) hb); have n2_ := Aside0.mk (Kd.R_below q12_ hb); have n3_ := Aside0.mk (Kd.S_lower (Kd.S_new' (Kd.S_new' ho0 (Kd.S_lt q18_)) (Kd.R_lt q12_)) (below_size q3_)); have n4_ := Aside0.mk (Kd.S_lower (Kd.S_new' (Kd.S_new' ho1 (Kd.S_lt q19_)) (Kd.R_lt q12_)) (below_size q3_)); have n5_ := Aside0.mk (blk_below (g := gb327) (o := .cells #[.slice A0_0 l0_0.length c0_0, .slice A0_1 l0_1.length c0_1] 25 (0, 0)) q6_ hb); have n6_ := Aside0.mk (below_step q3_ hb); clear HO331; clear HO334; clear HO337; clear BK327; clear HB; have HO331 := n0_; have HO334 := n1_; have HO337 := n2_; have HO340 := n3_; have HO343 := n4_; have BK327 := n5_; have HB := n6_; clear n0_ n1_ n2_ n3_ n4_ n5_ n6_; (try clear hb); (try clear hb2); (try clear hk); (try clear hi); (try clear ho0); (try clear ho1)) | ((with_reducible refine gate_dst (N := 7) rfl ?_); refine box_event ?hg (N := 7) ?hd (cs := #[.slice none 0 0, .slice none 0 0]) (t := 30) ?hr ?_; (case hd => rfl); (case hg => rfl); (case hr => first | (go_simp; done) | (go_simp; rfl)); intro gb344 hg w98 hbox hb; have n0_ := Aside0.mk (Kd.S_below q18_ hb); have n1_ := Aside0.mk (Kd.S_below q19_ hb); have n2_ := Aside0.mk (Kd.R_below q12_ hb); have n3_ := Aside0.mk (Kd.S_below q41_ hb); have n4_ := Aside0.mk (Kd.S_below q42_ hb); have n5_ := Aside0.mk (blk_below (g := gb327) (o := .cells #[.slice A0_0 l0_0.length c0_0, .slice A0_1 l0_1.length c0_1] 25 (0, 0)) q6_ hb); have n6_ := Aside0.mk (below_step q3_ hb); have n7_ := Aside0.mk (hbox); have n8_ := Aside0.mk ((by rw [hg]; exact (below_size q3_) : w.heap.size ≤ gb344)); have n9_ := Aside0.mk ((by rw [hg]; exact (below_size q3_) : w.heap.size ≤ gb344)); have n10_ := Aside0.mk ((by rw [hg]; exact Nat.ne_of_lt (blk_lt (g := gb327) (o := .cells #[.slice A0_0 l0_0.length c0_0, .slice A0_1 l0_1.length c0_1] 25 (0, 0)) q6_) : gb327 ≠ gb344)); have n11_ := Aside0.mk ((by rw [hg]; exact Nat.ne_of_gt (blk_lt (g := gb327) (o := .cells #[.slice A0_0 l0_0.length c0_0, .slice A0_1 l0_1.length c0_1] 25 (0, 0)) q6_) : gb344 ≠ gb327)); clear HO331; clear HO334; clear HO337; clear HO340; clear HO343; clear BK327; clear HB; have HO331 := n0_; have HO334 := n1_; have HO337 := n2_; have HO340 := n3_; have HO343 := n4_; have BK327 := n5_; have HB := n6_; have BK344 := n7_; have GW344 := n8_; have GE344 := n9_; have NB327_344 := n10_; have NB344_327 := n11_; clear n0_ n1_ n2_ n3_ n4_ n5_ n6_ n7_ n8_ n9_ n10_ n11_; clear hb hbox hg; obtain ⟨Ao99, co99, eo99⟩ := Kd.S_slice HO340.out; subst eo99; have hnb100 := NB344_327.out; have hnc100 := NB327_344.out; have hcz101_0 : w98.cell? ⟨gb344, 0, none⟩ = some (.slice none 0 0) := (blk_cell BK344.out 0).trans rfl; have hcz101_1 : w98.cell? ⟨gb344, 1, none⟩ = some (.slice none 0 0) := (blk_cell BK344.out 1).trans rfl; have hfz101_0 := blk_frozen BK344.out 0; have hfz101_1 := blk_frozen BK344.out 1; obtain ⟨Ao102, co102, eo102⟩ := Kd.S_slice HO343.out; subst eo102) | ((with_reducible refine gate_callee (f := 31) rfl ?_); refine goesL_ (some 26) rfl rfl Try.func31 (by kernel_rfl) rfl #[.agg #[.slice Ao99 t338.length co99, .slice Ao102 t341.length co102], .int .i64 a1] rfl q0_ ?_; (with_reducible refine (impl_LivesIn.calls k _ _ t338 _ _ t341 a1 t345 _ ?side1 ?side2 ?side3 ?side4 A11.out).mono ?_); (case side1 => refine (Kd.S_reads' (e := 36) (base := w.heap.size) (ok := fun k_ => ((True ∧ some k_ ≠ (.slice Ao93 t329.length co93 : Value).ownBlock) ∧ some k_ ≠ (v336 : Value).ownBlock)) (n := t338.length) (c := co99) ?_).2.2; exact (by (with_reducible repeat (first | apply Kd.S_alloc | apply Kd.S_drewN | apply Kd.S_drew)); exact (Kd.S_mono (Kd.S_far (p := ⟨gb344, 1, none⟩) (Kd.S_far (p := ⟨gb344, 0, none⟩) (Kd.S_types HO340.out BK344.out (by decide)) (fun _ hk => hk.2) (.slice Ao99 t338.length co99)) (fun _ hk => hk.2) (.slice Ao102 t341.length co102)) (fun _ h_ => h_.1)))); (case side2 => exact (Kd.S_reads' HO340.out).2.1); (case side3 => refine (Kd.S_reads' (e := 68) (base := w.heap.size) (ok := fun k_ => ((True ∧ some k_ ≠ (.slice Ao94 t332.length co94 : Value).ownBlock) ∧ some k_ ≠ (v336 : Value).ownBlock)) (n := t341.length) (c := co102) ?_).2.2; exact (by (with_reducible repeat (first | apply Kd.S_alloc | apply Kd.S_drewN | apply Kd.S_drew)); exact (Kd.S_mono (Kd.S_far (p := ⟨gb344, 1, none⟩) (Kd.S_far (p := ⟨gb344, 0, none⟩) (Kd.S_types HO343.out BK344.out (by decide)) (fun _ hk => hk.2) (.slice Ao99 t338.length co99)) (fun _ hk => hk.2) (.slice Ao102 t341.length co102)) (fun _ h_ => h_.1)))); (case side4 => exact (Kd.S_reads' HO343.out).2.1); rintro e w103 ⟨v346, rfl, ho0, hb⟩; refine ⟨_, rfl, ?_⟩; have n0_ := Aside0.mk (Kd.S_elder' (by (with_reducible repeat (first | apply Kd.S_alloc | apply Kd.S_drewN | apply Kd.S_drew)); exact (Kd.S_mono (Kd.S_far (p := ⟨gb344, 1, none⟩) (Kd.S_far (p := ⟨gb344, 0, none⟩) (Kd.S_types HO331.out BK344.out (by decide)) (fun _ hk => hk.2) (.slice Ao99 t338.length co99)) (fun _ hk => hk.2) (.slice Ao102 t341.length co102)) (fun _ h_ => h_.1))) (Kd.R_base ho0) hb); have n1_ := Aside0.mk (Kd.S_elder' (by (with_reducible repeat (first | apply Kd.S_alloc | apply Kd.S_drewN | apply Kd.S_drew)); exact (Kd.S_mono (Kd.S_far (p := ⟨gb344, 1, none⟩) (Kd.S_far (p := ⟨gb344, 0, none⟩) (Kd.S_types HO334.out BK344.out (by decide)) (fun _ hk => hk.2) (.slice Ao99 t338.length co99)) (fun _ hk => hk.2) (.slice Ao102 t341.length co102)) (fun _ h_ => h_.1))) (Kd.R_base ho0) hb); have n2_ := Aside0.mk (Kd.R_elder' (by (with_reducible repeat (first | apply Kd.R_alloc | apply Kd.R_drewN | apply Kd.R_drew)); exact (Kd.R_mono (Kd.R_far (p := ⟨gb344, 1, none⟩) (Kd.R_far (p := ⟨gb344, 0, none⟩) (Kd.R_types HO337.out BK344.out (by decide)) (fun _ hk => hk.2) (.slice Ao99 t338.length co99)) (fun _ hk => hk.2) (.slice Ao102 t341.length co102)) (fun _ h_ => h_.1))) (Kd.R_base ho0) hb); have n3_ := Aside0.mk (Kd.S_elder' (by (with_reducible repeat (first | apply Kd.S_alloc | apply Kd.S_drewN | apply Kd.S_drew)); exact (Kd.S_mono (Kd.S_far (p := ⟨gb344, 1, none⟩) (Kd.S_far (p := ⟨gb344, 0, none⟩) (Kd.S_types HO340.out BK344.out (by decide)) (fun _ hk => hk.2) (.slice Ao99 t338.length co99)) (fun _ hk => hk.2) (.slice Ao102 t341.length co102)) (fun _ h_ => h_.1))) (Kd.R_base ho0) hb); have n4_ := Aside0.mk (Kd.S_elder' (by (with_reducible repeat (first | apply Kd.S_alloc | apply Kd.S_drewN | apply Kd.S_drew)); exact (Kd.S_mono (Kd.S_far (p := ⟨gb344, 1, none⟩) (Kd.S_far (p := ⟨gb344, 0, none⟩) (Kd.S_types HO343.out BK344.out (by decide)) (fun _ hk => hk.2) (.slice Ao99 t338.length co99)) (fun _ hk => hk.2) (.slice Ao102 t341.length co102)) (fun _ h_ => h_.1))) (Kd.R_base ho0) hb); have n5_ := Aside0.mk (Kd.R_lower (Kd.R_new' ho0 (Kd.R_lt (by (with_reducible repeat (first | apply Kd.R_alloc | apply Kd.R_drewN | apply Kd.R_drew)); exact (Kd.R_mono (Kd.R_far (p := ⟨gb344, 1, none⟩) (Kd.R_far (p := ⟨gb344, 0, none⟩) (Kd.R_types HO337.out BK344.out (by decide)) (fun _ hk => hk.2) (.slice Ao99 t338.length co99)) (fun _ hk => hk.2) (.slice Ao102 t341.length co102)) (fun _ h_ => h_.1))))) (below_size q8_)); have n6_ := Aside0.mk (blk_below (g := gb327) (o := .cells #[.slice A0_0 l0_0.length c0_0, .slice A0_1 l0_1.length c0_1] 25 (0, 0)) q34_ hb); have n7_ := Aside0.mk (blk_below (g := gb344) (o := .cells #[.slice Ao99 t338.length co99, .slice Ao102 t341.length co102] 30 (0, 0)) (by (with_reducible repeat (first | refine blk_drewN ?_ _ | refine blk_drew ?_ | refine blk_alloc ?_ _)); refine blk_put (cs := #[.slice Ao99 t338.length co99, .slice none 0 0]) ?_ 1 _ rfl; (with_reducible repeat (first | refine blk_drewN ?_ _ | refine blk_drew ?_ | refine blk_alloc ?_ _)); refine blk_put (cs := #[.slice none 0 0, .slice none 0 0]) ?_ 0 _ rfl; (with_reducible repeat (first | refine blk_drewN ?_ _ | refine blk_drew ?_ | refine blk_alloc ?_ _)); exact BK344.out) hb); have n8_ := Aside0.mk (below_step q8_ hb); clear HO331; clear HO334; clear HO337; clear HO340; clear HO343; clear BK327; clear BK344; clear HB; have HO331 := n0_; have HO334 := n1_; have HO337 := n2_; have HO340 := n3_; have HO343 := n4_; have HO347 := n5_; have BK327 := n6_; have BK344 := n7_; have HB := n8_; clear n0_ n1_ n2_ n3_ n4_ n5_ n6_ n7_ n8_; (try clear hb); (try clear hb2); (try clear hk); (try clear hi); (try clear ho0); obtain ⟨Ao104, co104, eo104⟩ := Kd.R_slice HO347.out; subst eo104; obtain ⟨Ao105, co105, eo105⟩ := Kd.R_slice HO337.out; subst eo105) | ((with_reducible refine gate_callee (f := 24) rfl ?_); refine goesL_ (some 29) rfl rfl Try.func24 (by kernel_rfl) rfl #[.slice Ao104 t345.length co104, .slice Ao105 t335.length co105] rfl q0_ ?_; (with_reducible refine (laws_eqIntS.calls k _ _ t345 _ _ t335 true _ ?side1 ?side2 ?side3 ?side4 A12.out).mono ?_); (case side1 => exact q53_); (case side2 => exact (Kd.R_reads' HO347.out).2.1); (case side3 => exact q54_); (case side4 => exact (Kd.R_reads' HO337.out).2.1); rintro e w' ⟨rfl, ⟨nd, rfl⟩⟩; refine ⟨_, rfl, ?_⟩))
      (try (rw [drewN_self w103]; generalize hq_ : World.drewN w103 _ = w103; have n0_ : Aside0 (Kd.S (Kd.slice 3 (Kd.int .i64)) 36 w103 w.heap.size (fun k_ => some k_ ≠ (.slice Ao105 t335.length co105 : Value).ownBlock ∧ some k_ ≠ (.slice Ao99 t338.length co99 : Value).ownBlock ∧ some k_ ≠ (.slice Ao104 t345.length co104 : Value).ownBlock) (.slice Ao93 t329.length co93) t329) := ⟨by rw [← hq_]; exact (by (with_reducible repeat (first | apply Kd.S_alloc | apply Kd.S_drewN | apply Kd.S_drew)); exact Kd.S_mono HO331.out (fun _ hk => ⟨hk.1.1.2, ⟨hk.1.2, hk.2⟩⟩))⟩; have n1_ : Aside0 (Kd.S k68 68 w103 w.heap.size (fun k_ => some k_ ≠ (.slice Ao105 t335.length co105 : Value).ownBlock ∧ some k_ ≠ (.slice Ao102 t341.length co102 : Value).ownBlock ∧ some k_ ≠ (.slice Ao104 t345.length co104 : Value).ownBlock) (.slice Ao94 t332.length co94) t332) := ⟨by rw [← hq_]; exact (by (with_reducible repeat (first | apply Kd.S_alloc | apply Kd.S_drewN | apply Kd.S_drew)); exact Kd.S_mono HO334.out (fun _ hk => ⟨hk.1.1.2, ⟨hk.1.2, hk.2⟩⟩))⟩; have n2_ : Aside0 (Kd.R (Kd.int .i64) 3 w103 w.heap.size (fun k_ => some k_ ≠ (.slice Ao104 t345.length co104 : Value).ownBlock) (.slice Ao105 t335.length co105) t335) := ⟨by rw [← hq_]; exact (by (with_reducible repeat (first | apply Kd.R_alloc | apply Kd.R_drewN | apply Kd.R_drew)); exact Kd.R_mono HO337.out (fun _ hk => hk.2))⟩; have n3_ : Aside0 (Kd.S (Kd.slice 3 (Kd.int .i64)) 36 w103 w.heap.size (fun k_ => some k_ ≠ (.slice Ao93 t329.length co93 : Value).ownBlock ∧ some k_ ≠ (.slice Ao105 t335.length co105 : Value).ownBlock ∧ some k_ ≠ (.slice Ao104 t345.length co104 : Value).ownBlock) (.slice Ao99 t338.length co99) t338) := ⟨by rw [← hq_]; exact (by (with_reducible repeat (first | apply Kd.S_alloc | apply Kd.S_drewN | apply Kd.S_drew)); exact Kd.S_mono HO340.out (fun _ hk => ⟨hk.1.1.2, ⟨hk.1.2, hk.2⟩⟩))⟩; have n4_ : Aside0 (Kd.S k68 68 w103 w.heap.size (fun k_ => some k_ ≠ (.slice Ao94 t332.length co94 : Value).ownBlock ∧ some k_ ≠ (.slice Ao105 t335.length co105 : Value).ownBlock ∧ some k_ ≠ (.slice Ao104 t345.length co104 : Value).ownBlock) (.slice Ao102 t341.length co102) t341) := ⟨by rw [← hq_]; exact (by (with_reducible repeat (first | apply Kd.S_alloc | apply Kd.S_drewN | apply Kd.S_drew)); exact Kd.S_mono HO343.out (fun _ hk => ⟨hk.1.1.2, ⟨hk.1.2, hk.2⟩⟩))⟩; have n5_ : Aside0 (Kd.R (Kd.int .i64) 3 w103 w.heap.size (fun k_ => some k_ ≠ (.slice Ao105 t335.length co105 : Value).ownBlock) (.slice Ao104 t345.length co104) t345) := ⟨by rw [← hq_]; exact (by (with_reducible repeat (first | apply Kd.R_alloc | apply Kd.R_drewN | apply Kd.R_drew)); exact Kd.R_mono HO347.out (fun _ hk => hk.2))⟩; have n6_ : Aside0 (w103.heap[gb327]? = some (.cells #[.slice A0_0 l0_0.length c0_0, .slice A0_1 l0_1.length c0_1] 25 (0, 0))) := ⟨by rw [← hq_]; exact q6_⟩; have n7_ : Aside0 (w103.heap[gb344]? = some (.cells #[.slice Ao99 t338.length co99, .slice Ao102 t341.length co102] 30 (0, 0))) := ⟨by rw [← hq_]; exact q48_⟩; have n8_ : Aside0 (Below w.heap.size w w103) := ⟨by rw [← hq_]; exact q8_⟩; clear HO331 HO334 HO337 HO340 HO343 HO347 BK327 BK344 HB hq_; have HO331 := n0_; have HO334 := n1_; have HO337 := n2_; have HO340 := n3_; have HO343 := n4_; have HO347 := n5_; have BK327 := n6_; have BK344 := n7_; have HB := n8_; clear n0_ n1_ n2_ n3_ n4_ n5_ n6_ n7_ n8_))
      have n0_ := Aside0.mk (Kd.S_drew HO331.out)
      have n1_ := Aside0.mk (Kd.S_drew HO334.out)
      have n2_ := Aside0.mk (Kd.R_drew HO337.out)
      have n3_ := Aside0.mk (Kd.S_drew HO340.out)
      have n4_ := Aside0.mk (Kd.S_drew HO343.out)
      have n5_ := Aside0.mk (Kd.R_drew HO347.out)
      have n6_ := Aside0.mk (blk_drew BK327.out)
      have n7_ := Aside0.mk (blk_drew BK344.out)
      have n8_ := Aside0.mk (below_drew1 HB.out)
      clear HO331
      clear HO334
      clear HO337
      clear HO340
      clear HO343
      clear HO347
      clear BK327
      clear BK344
      clear HB
      have HO331 := n0_
      have HO334 := n1_
      have HO337 := n2_
      have HO340 := n3_
      have HO343 := n4_
      have HO347 := n5_
      have BK327 := n6_
      have BK344 := n7_
      have HB := n8_
      clear n0_ n1_ n2_ n3_ n4_ n5_ n6_ n7_ n8_
      refine start_ (n := 5) (S := fun w' => w'.cell? ⟨gb344, 0, none⟩ = some (.slice Ao99 t338.length co99) ∧ w'.cell? ⟨gb344, 1, none⟩ = some (.slice Ao102 t341.length co102) ∧ w'.cell? ⟨gb327, 0, none⟩ = some (.slice A0_0 l0_0.length c0_0) ∧ w'.cell? ⟨gb327, 1, none⟩ = some (.slice A0_1 l0_1.length c0_1)) (ds := []) #[false, false, false, false, false] (by kernel_rfl) rfl rfl ⟨(blk_cell BK344.out 0).trans rfl, (blk_cell BK344.out 1).trans rfl, (blk_cell BK327.out 0).trans rfl, (blk_cell BK327.out 1).trans rfl⟩ (fun hHeld => ?_)
      generalize w103.drew = w106 at HO331 HO334 HO337 HO340 HO343 HO347 BK327 BK344 HB hHeld ⊢
      refine take_ (i := 0) (N := some 31) (v := ?_) (a' := ?_) #[true, false, false, false, false] rfl rfl (by kernel_rfl) (fun _ _ _ h => h) (Or.inl ⟨by rfl, ?_⟩) hHeld ?_ ?_
      rotate_left; exact pw4_; rotate_left; exact pz_
      refine take_ (i := 1) (N := some 32) (v := ?_) (a' := ?_) #[true, true, false, false, false] rfl rfl (by kernel_rfl) (fun _ _ _ h => h) (Or.inl ⟨by rfl, ?_⟩) hHeld ?_ ?_
      rotate_left; exact pw4_; rotate_left; exact pz_
      refine one_ (i := 2) (N := some 33) #[true, true, true, false, false] rfl rfl (by kernel_rfl) (by decide) (fun K hK => ?_)
      refine goes_ Try.func16 (by kernel_rfl) rfl #[.agg #[.slice A0_0 l0_0.length c0_0, .slice A0_1 l0_1.length c0_1]] (by rfl) rfl rfl q0_ ?_
      with_reducible refine (laws_toWeave.calls k _ _ l0_0 _ _ l0_1 t349 t352 _ ?side1 ?side2 ?side3 ?side4 A14.out).mono ?_
      (case side1 => exact q4_)
      (case side2 => exact HC0_0.out)
      (case side3 => exact q7_)
      (case side4 => exact HC0_1.out)
      rintro e w107 ⟨v350, v353, rfl, ho0, ho1, hb⟩
      refine ⟨_, rfl, ?_⟩
      have n0_ := Aside0.mk (Kd.S_elder' q18_ (Kd.S_base ho0) hb)
      have n1_ := Aside0.mk (Kd.S_elder' q19_ (Kd.S_base ho1) hb)
      have n2_ := Aside0.mk (Kd.R_below q12_ hb)
      have n3_ := Aside0.mk (Kd.S_elder' q41_ (Kd.S_base ho0) hb)
      have n4_ := Aside0.mk (Kd.S_elder' q42_ (Kd.S_base ho1) hb)
      have n5_ := Aside0.mk (Kd.R_below q46_ hb)
      have n6_ := Aside0.mk (Kd.S_lower (Kd.S_new' (Kd.S_new' (Kd.S_new' (Kd.S_new' ho0 (Kd.S_lt q18_)) (Kd.R_lt q12_)) (Kd.S_lt q41_)) (Kd.R_lt q46_)) (below_size q8_))
      have n7_ := Aside0.mk (Kd.S_lower (Kd.S_new' (Kd.S_new' (Kd.S_new' (Kd.S_new' ho1 (Kd.S_lt q19_)) (Kd.R_lt q12_)) (Kd.S_lt q42_)) (Kd.R_lt q46_)) (below_size q8_))
      have n8_ := Aside0.mk (blk_below (g := gb327) (o := .cells #[.slice A0_0 l0_0.length c0_0, .slice A0_1 l0_1.length c0_1] 25 (0, 0)) q6_ hb)
      have n9_ := Aside0.mk (blk_below (g := gb344) (o := .cells #[.slice Ao99 t338.length co99, .slice Ao102 t341.length co102] 30 (0, 0)) q48_ hb)
      have n10_ := Aside0.mk (below_step q8_ hb)
      clear HO331
      clear HO334
      clear HO337
      clear HO340
      clear HO343
      clear HO347
      clear BK327
      clear BK344
      clear HB
      have HO331 := n0_
      have HO334 := n1_
      have HO337 := n2_
      have HO340 := n3_
      have HO343 := n4_
      have HO347 := n5_
      have HO351 := n6_
      have HO354 := n7_
      have BK327 := n8_
      have BK344 := n9_
      have HB := n10_
      clear n0_ n1_ n2_ n3_ n4_ n5_ n6_ n7_ n8_ n9_ n10_
      (try clear hb)
      (try clear hb2)
      (try clear hk)
      (try clear hi)
      (try clear ho0)
      (try clear ho1)
      obtain ⟨Ao108, co108, eo108⟩ := Kd.S_slice HO351.out
      (first | subst eo108 | (injection eo108 with f1_ f2_ f3_; have f4_ := f1_.symm; have f5_ := f3_.symm; clear f1_ f2_ f3_; subst f4_; subst f5_))
      obtain ⟨Ao109, co109, eo109⟩ := Kd.S_slice HO354.out
      (first | subst eo109 | (injection eo109 with f1_ f2_ f3_; have f4_ := f1_.symm; have f5_ := f3_.symm; clear f1_ f2_ f3_; subst f4_; subst f5_))
      refine hK.out _ _ ⟨(blk_cell BK344.out 0).trans rfl, (blk_cell BK344.out 1).trans rfl, (blk_cell BK327.out 0).trans rfl, (blk_cell BK327.out 1).trans rfl⟩ (fun hHeld => ?_)
      clear hK K
      refine norm_ (a' := ?_) ?_ ?_
      rotate_left
      ·show Act.put _ (some 33) _ = _
       simp only [Act.put, List.setIfInBounds_toArray, List.set_cons_zero, List.set_cons_succ, i64_w, i32_w]
       rfl
      refine one_ (i := 3) (N := some 34) #[true, true, true, true, false] rfl rfl (by kernel_rfl) (by decide) (fun K hK => ?_)
      refine goes_ Try.func18 (by kernel_rfl) rfl #[.agg #[.slice Ao99 t338.length co99, .slice Ao102 t341.length co102], .agg #[.slice Ao108 t349.length co108, .slice Ao109 t352.length co109]] (by rfl) rfl rfl q0_ ?_
      with_reducible refine (laws_eqWeave.calls k _ _ t338 _ _ t341 _ _ t349 _ _ t352 false _ ?side1 ?side2 ?side3 ?side4 ?side5 ?side6 ?side7 ?side8 A15.out).mono ?_
      (case side1 => exact (by repeat (first | exact (Kd.S_reads' HO340.out).2.2 | (with_reducible refine Kd.C_alloc ?_ _) | (with_reducible refine Kd.C_drewN ?_ _) | (with_reducible refine Kd.C_drew ?_))))
      (case side2 => exact (Kd.S_reads' HO340.out).2.1)
      (case side3 => exact (by repeat (first | exact (Kd.S_reads' HO343.out).2.2 | (with_reducible refine Kd.C_alloc ?_ _) | (with_reducible refine Kd.C_drewN ?_ _) | (with_reducible refine Kd.C_drew ?_))))
      (case side4 => exact (Kd.S_reads' HO343.out).2.1)
      (case side5 => exact (by repeat (first | exact (Kd.S_reads' HO351.out).2.2 | (with_reducible refine Kd.C_alloc ?_ _) | (with_reducible refine Kd.C_drewN ?_ _) | (with_reducible refine Kd.C_drew ?_))))
      (case side6 => exact (Kd.S_reads' HO351.out).2.1)
      (case side7 => exact (by repeat (first | exact (Kd.S_reads' HO354.out).2.2 | (with_reducible refine Kd.C_alloc ?_ _) | (with_reducible refine Kd.C_drewN ?_ _) | (with_reducible refine Kd.C_drew ?_))))
      (case side8 => exact (Kd.S_reads' HO354.out).2.1)
      rintro e w110 ⟨rfl, hb⟩
      refine ⟨_, rfl, ?_⟩
      have n0_ := Aside0.mk (Kd.S_below q18_ hb)
      have n1_ := Aside0.mk (Kd.S_below q19_ hb)
      have n2_ := Aside0.mk (Kd.R_below q12_ hb)
      have n3_ := Aside0.mk (Kd.S_below q41_ hb)
      have n4_ := Aside0.mk (Kd.S_below q42_ hb)
      have n5_ := Aside0.mk (Kd.R_below q46_ hb)
      have n6_ := Aside0.mk (Kd.S_below (by (with_reducible repeat (first | apply Kd.S_alloc | apply Kd.S_drewN | apply Kd.S_drew)); exact HO351.out) hb)
      have n7_ := Aside0.mk (Kd.S_below (by (with_reducible repeat (first | apply Kd.S_alloc | apply Kd.S_drewN | apply Kd.S_drew)); exact HO354.out) hb)
      have n8_ := Aside0.mk (blk_below (g := gb327) (o := .cells #[.slice A0_0 l0_0.length c0_0, .slice A0_1 l0_1.length c0_1] 25 (0, 0)) q6_ hb)
      have n9_ := Aside0.mk (blk_below (g := gb344) (o := .cells #[.slice Ao99 t338.length co99, .slice Ao102 t341.length co102] 30 (0, 0)) q48_ hb)
      have n10_ := Aside0.mk (below_step q8_ hb)
      clear HO331
      clear HO334
      clear HO337
      clear HO340
      clear HO343
      clear HO347
      clear HO351
      clear HO354
      clear BK327
      clear BK344
      clear HB
      have HO331 := n0_
      have HO334 := n1_
      have HO337 := n2_
      have HO340 := n3_
      have HO343 := n4_
      have HO347 := n5_
      have HO351 := n6_
      have HO354 := n7_
      have BK327 := n8_
      have BK344 := n9_
      have HB := n10_
      clear n0_ n1_ n2_ n3_ n4_ n5_ n6_ n7_ n8_ n9_ n10_
      (try clear hb)
      (try clear hb2)
      (try clear hk)
      (try clear hi)
      refine hK.out _ _ ⟨(blk_cell BK344.out 0).trans rfl, (blk_cell BK344.out 1).trans rfl, (blk_cell BK327.out 0).trans rfl, (blk_cell BK327.out 1).trans rfl⟩ (fun hHeld => ?_)
      clear hK K
      refine norm_ (a' := ?_) ?_ ?_
      rotate_left
      ·show Act.put _ (some 34) _ = _
       simp only [Act.put, List.setIfInBounds_toArray, List.set_cons_zero, List.set_cons_succ, i64_w, i32_w]
       rfl
      refine pure_ (i := 4) (N := some 35) (v := ?_) (a' := ?_) #[true, true, true, true, true] rfl rfl (by kernel_rfl) (fun _ _ _ h => h) (Or.inl ⟨by rfl, ?_⟩) ?_ ?_
      rotate_left; exact pw_; rotate_left; exact pz_
      refine done_ (by kernel_rfl) ?_
      try go_wp2
      go_ret
      exact ⟨by first | rfl | (simp [errW_none, errW_some] <;> rfl) | (simp [*, errW_none, errW_some] <;> rfl), by repeat (first | (with_reducible first | exact HB.out | apply below_alloc | apply pw_below_drewN | apply below_drew1 | refine below_set ?_ GE327.out | refine below_set ?_ GE344.out) | exact HB.out)⟩
    ·replace c13 := Bool.eq_false_iff.mpr c13
     subst c13
     have H1 : (some false) = some r := by rw [if_neg (show ¬ (false = true) by decide)] at H; exact H
     clear H
     have H := H1
     clear H1
     obtain rfl := Option.some.inj H
     go_enter Try.func7, Try.ntmps7
     go_wp2_with (first | ((with_reducible refine gate_dst (N := 2) rfl ?_); refine box_event ?hg (N := 2) ?hd (cs := #[.slice A0_0 l0_0.length c0_0, .slice A0_1 l0_1.length c0_1]) (t := 25) ?hr ?_; (case hd => rfl); (case hg => rfl); (case hr => first | (go_simp; done) | (go_simp; rfl)); intro gb327 hg w111 hbox hb; have n0_ := Aside0.mk (below_step q1_ hb); have n1_ := Aside0.mk (hbox); have n2_ := Aside0.mk ((by rw [hg]; exact (below_size q1_) : w.heap.size ≤ gb327)); have n3_ := Aside0.mk ((by rw [hg]; exact (below_size q1_) : w.heap.size ≤ gb327)); clear HB; have HB := n0_; have BK327 := n1_; have GW327 := n2_; have GE327 := n3_; clear n0_ n1_ n2_ n3_; clear hb hbox hg; have hcz112_0 : w111.cell? ⟨gb327, 0, none⟩ = some (.slice A0_0 l0_0.length c0_0) := (blk_cell BK327.out 0).trans rfl; have hcz112_1 : w111.cell? ⟨gb327, 1, none⟩ = some (.slice A0_1 l0_1.length c0_1) := (blk_cell BK327.out 1).trans rfl; have hfz112_0 := blk_frozen BK327.out 0; have hfz112_1 := blk_frozen BK327.out 1) | ((with_reducible refine gate_callee (f := 14) rfl ?_); refine goesL_ (some 15) rfl rfl Try.func14 (by kernel_rfl) rfl #[.agg #[.slice A0_0 l0_0.length c0_0, .slice A0_1 l0_1.length c0_1], .int .i64 1048576] rfl q0_ ?_; (with_reducible refine (laws_szWeave.calls k _ _ l0_0 _ _ l0_1 1048576 t328 _ ?side1 ?side2 ?side3 ?side4 A3.out).mono ?_); (case side1 => exact q4_); (case side2 => exact HC0_0.out); (case side3 => exact q7_); (case side4 => exact HC0_1.out); rintro e w113 ⟨rfl, hb⟩; refine ⟨_, rfl, ?_⟩; have n0_ := Aside0.mk (blk_below (g := gb327) (o := .cells #[.slice A0_0 l0_0.length c0_0, .slice A0_1 l0_1.length c0_1] 25 (0, 0)) q6_ hb); have n1_ := Aside0.mk (below_step q3_ hb); clear BK327; clear HB; have BK327 := n0_; have HB := n1_; clear n0_ n1_; (try clear hb); (try clear hb2); (try clear hk); (try clear hi); have hcz114_0 : w113.cell? ⟨gb327, 0, none⟩ = some (.slice A0_0 l0_0.length c0_0) := (blk_cell BK327.out 0).trans rfl; have hcz114_1 : w113.cell? ⟨gb327, 1, none⟩ = some (.slice A0_1 l0_1.length c0_1) := (blk_cell BK327.out 1).trans rfl; have hfz114_0 := blk_frozen BK327.out 0; have hfz114_1 := blk_frozen BK327.out 1) | ((with_reducible refine gate_callee (f := 16) rfl ?_); refine goesL_ (some 19) rfl rfl Try.func16 (by kernel_rfl) rfl #[.agg #[.slice A0_0 l0_0.length c0_0, .slice A0_1 l0_1.length c0_1]] rfl q0_ ?_; (with_reducible refine (laws_toWeave.calls k _ _ l0_0 _ _ l0_1 t329 t332 _ ?side1 ?side2 ?side3 ?side4 A8.out).mono ?_); (case side1 => exact q4_); (case side2 => exact HC0_0.out); (case side3 => exact q7_); (case side4 => exact HC0_1.out); rintro e w115 ⟨v330, v333, rfl, ho0, ho1, hb⟩; refine ⟨_, rfl, ?_⟩; have n0_ := Aside0.mk (Kd.S_lower ho0 (below_size q3_)); have n1_ := Aside0.mk (Kd.S_lower ho1 (below_size q3_)); have n2_ := Aside0.mk (blk_below (g := gb327) (o := .cells #[.slice A0_0 l0_0.length c0_0, .slice A0_1 l0_1.length c0_1] 25 (0, 0)) q6_ hb); have n3_ := Aside0.mk (below_step q3_ hb); clear BK327; clear HB; have HO331 := n0_; have HO334 := n1_; have BK327 := n2_; have HB := n3_; clear n0_ n1_ n2_ n3_; (try clear hb); (try clear hb2); (try clear hk); (try clear hi); (try clear ho0); (try clear ho1); obtain ⟨Ao116, co116, eo116⟩ := Kd.S_slice HO331.out; subst eo116; obtain ⟨Ao117, co117, eo117⟩ := Kd.S_slice HO334.out; subst eo117) | ((with_reducible refine gate_callee (f := 30) rfl ?_); refine goesL_ (some 21) rfl rfl Try.func30 (by kernel_rfl) rfl #[.agg #[.slice Ao116 t329.length co116, .slice Ao117 t332.length co117], .int .i64 a1] rfl q0_ ?_; (with_reducible refine (spec_LivesIn.calls k _ _ t329 _ _ t332 a1 t335 _ ?side1 ?side2 ?side3 ?side4 A9.out).mono ?_); (case side1 => exact (by repeat (first | exact (Kd.S_reads' HO331.out).2.2 | (with_reducible refine Kd.C_alloc ?_ _) | (with_reducible refine Kd.C_drewN ?_ _) | (with_reducible refine Kd.C_drew ?_)))); (case side2 => exact (Kd.S_reads' HO331.out).2.1); (case side3 => exact (by repeat (first | exact (Kd.S_reads' HO334.out).2.2 | (with_reducible refine Kd.C_alloc ?_ _) | (with_reducible refine Kd.C_drewN ?_ _) | (with_reducible refine Kd.C_drew ?_)))); (case side4 => exact (Kd.S_reads' HO334.out).2.1); rintro e w118 ⟨v336, rfl, ho0, hb⟩; refine ⟨_, rfl, ?_⟩; have n0_ := Aside0.mk (Kd.S_elder' q18_ (Kd.R_base ho0) hb); have n1_ := Aside0.mk (Kd.S_elder' q19_ (Kd.R_base ho0) hb); have n2_ := Aside0.mk (Kd.R_lower ho0 (below_size q3_)); have n3_ := Aside0.mk (blk_below (g := gb327) (o := .cells #[.slice A0_0 l0_0.length c0_0, .slice A0_1 l0_1.length c0_1] 25 (0, 0)) q6_ hb); have n4_ := Aside0.mk (below_step q3_ hb); clear HO331; clear HO334; clear BK327; clear HB; have HO331 := n0_; have HO334 := n1_; have HO337 := n2_; have BK327 := n3_; have HB := n4_; clear n0_ n1_ n2_ n3_ n4_; (try clear hb); (try clear hb2); (try clear hk); (try clear hi); (try clear ho0); have hcz119_0 : w118.cell? ⟨gb327, 0, none⟩ = some (.slice A0_0 l0_0.length c0_0) := (blk_cell BK327.out 0).trans rfl; have hcz119_1 : w118.cell? ⟨gb327, 1, none⟩ = some (.slice A0_1 l0_1.length c0_1) := (blk_cell BK327.out 1).trans rfl; have hfz119_0 := blk_frozen BK327.out 0; have hfz119_1 := blk_frozen BK327.out 1) | ((with_reducible refine gate_callee (f := 16) rfl ?_); refine goesL_ (some 23) rfl rfl Try.func16 (by kernel_rfl) rfl #[.agg #[.slice A0_0 l0_0.length c0_0, .slice A0_1 l0_1.length c0_1]] rfl q0_ ?_; (with_reducible refine (laws_toWeave.calls k _ _ l0_0 _ _ l0_1 t338 t341 _ ?side1 ?side2 ?side3 ?side4 A10.out).mono ?_); (case side1 => exact q4_); (case side2 => exact HC0_0.out); (case side3 => exact q7_); (case side4 => exact HC0_1.out); rintro e w120 ⟨v339, v342, rfl, ho0, ho1, hb⟩; refine ⟨_, rfl, ?_⟩; have n0_ := Aside0.mk (Kd.S_elder' q18_ (Kd.S_base ho0) hb); have n1_ := Aside0.mk (Kd.S_elder' q19_ (Kd.S_base ho1) hb); have n2_ := Aside0.mk (Kd.R_below q12_ hb); have n3_ := Aside0.mk (Kd.S_lower (Kd.S_new' (Kd.S_new' ho0 (Kd.S_lt q18_)) (Kd.R_lt q12_)) (below_size q3_)); have n4_ := Aside0.mk (Kd.S_lower (Kd.S_new' (Kd.S_new' ho1 (Kd.S_lt q19_)) (Kd.R_lt q12_)) (below_size q3_)); have n5_ := Aside0.mk (blk_below (g := gb327) (o := .cells #[.slice A0_0 l0_0.length c0_0, .slice A0_1 l0_1.length c0_1] 25 (0, 0)) q6_ hb); have n6_ := Aside0.mk (below_step q3_ hb); clear HO331; clear HO334; clear HO337; clear BK327; clear HB; have HO331 := n0_; have HO334 := n1_; have HO337 := n2_; have HO340 := n3_; have HO343 := n4_; have BK327 := n5_; have HB := n6_; clear n0_ n1_ n2_ n3_ n4_ n5_ n6_; (try clear hb); (try clear hb2); (try clear hk); (try clear hi); (try clear ho0); (try clear ho1)) | ((with_reducible refine gate_dst (N := 7) rfl ?_); refine box_event ?hg (N := 7) ?hd (cs := #[.slice none 0 0, .slice none 0 0]) (t := 30) ?hr ?_; (case hd => rfl); (case hg => rfl); (case hr => first | (go_simp; done) | (go_simp; rfl)); intro gb344 hg w121 hbox hb; have n0_ := Aside0.mk (Kd.S_below q18_ hb); have n1_ := Aside0.mk (Kd.S_below q19_ hb); have n2_ := Aside0.mk (Kd.R_below q12_ hb); have n3_ := Aside0.mk (Kd.S_below q41_ hb); have n4_ := Aside0.mk (Kd.S_below q42_ hb); have n5_ := Aside0.mk (blk_below (g := gb327) (o := .cells #[.slice A0_0 l0_0.length c0_0, .slice A0_1 l0_1.length c0_1] 25 (0, 0)) q6_ hb); have n6_ := Aside0.mk (below_step q3_ hb); have n7_ := Aside0.mk (hbox); have n8_ := Aside0.mk ((by rw [hg]; exact (below_size q3_) : w.heap.size ≤ gb344)); have n9_ := Aside0.mk ((by rw [hg]; exact (below_size q3_) : w.heap.size ≤ gb344)); have n10_ := Aside0.mk ((by rw [hg]; exact Nat.ne_of_lt (blk_lt (g := gb327) (o := .cells #[.slice A0_0 l0_0.length c0_0, .slice A0_1 l0_1.length c0_1] 25 (0, 0)) q6_) : gb327 ≠ gb344)); have n11_ := Aside0.mk ((by rw [hg]; exact Nat.ne_of_gt (blk_lt (g := gb327) (o := .cells #[.slice A0_0 l0_0.length c0_0, .slice A0_1 l0_1.length c0_1] 25 (0, 0)) q6_) : gb344 ≠ gb327)); clear HO331; clear HO334; clear HO337; clear HO340; clear HO343; clear BK327; clear HB; have HO331 := n0_; have HO334 := n1_; have HO337 := n2_; have HO340 := n3_; have HO343 := n4_; have BK327 := n5_; have HB := n6_; have BK344 := n7_; have GW344 := n8_; have GE344 := n9_; have NB327_344 := n10_; have NB344_327 := n11_; clear n0_ n1_ n2_ n3_ n4_ n5_ n6_ n7_ n8_ n9_ n10_ n11_; clear hb hbox hg; obtain ⟨Ao122, co122, eo122⟩ := Kd.S_slice HO340.out; subst eo122; have hnb123 := NB344_327.out; have hnc123 := NB327_344.out; have hcz124_0 : w121.cell? ⟨gb344, 0, none⟩ = some (.slice none 0 0) := (blk_cell BK344.out 0).trans rfl; have hcz124_1 : w121.cell? ⟨gb344, 1, none⟩ = some (.slice none 0 0) := (blk_cell BK344.out 1).trans rfl; have hfz124_0 := blk_frozen BK344.out 0; have hfz124_1 := blk_frozen BK344.out 1; obtain ⟨Ao125, co125, eo125⟩ := Kd.S_slice HO343.out; subst eo125) | ((with_reducible refine gate_callee (f := 31) rfl ?_); refine goesL_ (some 26) rfl rfl Try.func31 (by kernel_rfl) rfl #[.agg #[.slice Ao122 t338.length co122, .slice Ao125 t341.length co125], .int .i64 a1] rfl q0_ ?_; (with_reducible refine (impl_LivesIn.calls k _ _ t338 _ _ t341 a1 t345 _ ?side1 ?side2 ?side3 ?side4 A11.out).mono ?_); (case side1 => refine (Kd.S_reads' (e := 36) (base := w.heap.size) (ok := fun k_ => ((True ∧ some k_ ≠ (.slice Ao116 t329.length co116 : Value).ownBlock) ∧ some k_ ≠ (v336 : Value).ownBlock)) (n := t338.length) (c := co122) ?_).2.2; exact (by (with_reducible repeat (first | apply Kd.S_alloc | apply Kd.S_drewN | apply Kd.S_drew)); exact (Kd.S_mono (Kd.S_far (p := ⟨gb344, 1, none⟩) (Kd.S_far (p := ⟨gb344, 0, none⟩) (Kd.S_types HO340.out BK344.out (by decide)) (fun _ hk => hk.2) (.slice Ao122 t338.length co122)) (fun _ hk => hk.2) (.slice Ao125 t341.length co125)) (fun _ h_ => h_.1)))); (case side2 => exact (Kd.S_reads' HO340.out).2.1); (case side3 => refine (Kd.S_reads' (e := 68) (base := w.heap.size) (ok := fun k_ => ((True ∧ some k_ ≠ (.slice Ao117 t332.length co117 : Value).ownBlock) ∧ some k_ ≠ (v336 : Value).ownBlock)) (n := t341.length) (c := co125) ?_).2.2; exact (by (with_reducible repeat (first | apply Kd.S_alloc | apply Kd.S_drewN | apply Kd.S_drew)); exact (Kd.S_mono (Kd.S_far (p := ⟨gb344, 1, none⟩) (Kd.S_far (p := ⟨gb344, 0, none⟩) (Kd.S_types HO343.out BK344.out (by decide)) (fun _ hk => hk.2) (.slice Ao122 t338.length co122)) (fun _ hk => hk.2) (.slice Ao125 t341.length co125)) (fun _ h_ => h_.1)))); (case side4 => exact (Kd.S_reads' HO343.out).2.1); rintro e w126 ⟨v346, rfl, ho0, hb⟩; refine ⟨_, rfl, ?_⟩; have n0_ := Aside0.mk (Kd.S_elder' (by (with_reducible repeat (first | apply Kd.S_alloc | apply Kd.S_drewN | apply Kd.S_drew)); exact (Kd.S_mono (Kd.S_far (p := ⟨gb344, 1, none⟩) (Kd.S_far (p := ⟨gb344, 0, none⟩) (Kd.S_types HO331.out BK344.out (by decide)) (fun _ hk => hk.2) (.slice Ao122 t338.length co122)) (fun _ hk => hk.2) (.slice Ao125 t341.length co125)) (fun _ h_ => h_.1))) (Kd.R_base ho0) hb); have n1_ := Aside0.mk (Kd.S_elder' (by (with_reducible repeat (first | apply Kd.S_alloc | apply Kd.S_drewN | apply Kd.S_drew)); exact (Kd.S_mono (Kd.S_far (p := ⟨gb344, 1, none⟩) (Kd.S_far (p := ⟨gb344, 0, none⟩) (Kd.S_types HO334.out BK344.out (by decide)) (fun _ hk => hk.2) (.slice Ao122 t338.length co122)) (fun _ hk => hk.2) (.slice Ao125 t341.length co125)) (fun _ h_ => h_.1))) (Kd.R_base ho0) hb); have n2_ := Aside0.mk (Kd.R_elder' (by (with_reducible repeat (first | apply Kd.R_alloc | apply Kd.R_drewN | apply Kd.R_drew)); exact (Kd.R_mono (Kd.R_far (p := ⟨gb344, 1, none⟩) (Kd.R_far (p := ⟨gb344, 0, none⟩) (Kd.R_types HO337.out BK344.out (by decide)) (fun _ hk => hk.2) (.slice Ao122 t338.length co122)) (fun _ hk => hk.2) (.slice Ao125 t341.length co125)) (fun _ h_ => h_.1))) (Kd.R_base ho0) hb); have n3_ := Aside0.mk (Kd.S_elder' (by (with_reducible repeat (first | apply Kd.S_alloc | apply Kd.S_drewN | apply Kd.S_drew)); exact (Kd.S_mono (Kd.S_far (p := ⟨gb344, 1, none⟩) (Kd.S_far (p := ⟨gb344, 0, none⟩) (Kd.S_types HO340.out BK344.out (by decide)) (fun _ hk => hk.2) (.slice Ao122 t338.length co122)) (fun _ hk => hk.2) (.slice Ao125 t341.length co125)) (fun _ h_ => h_.1))) (Kd.R_base ho0) hb); have n4_ := Aside0.mk (Kd.S_elder' (by (with_reducible repeat (first | apply Kd.S_alloc | apply Kd.S_drewN | apply Kd.S_drew)); exact (Kd.S_mono (Kd.S_far (p := ⟨gb344, 1, none⟩) (Kd.S_far (p := ⟨gb344, 0, none⟩) (Kd.S_types HO343.out BK344.out (by decide)) (fun _ hk => hk.2) (.slice Ao122 t338.length co122)) (fun _ hk => hk.2) (.slice Ao125 t341.length co125)) (fun _ h_ => h_.1))) (Kd.R_base ho0) hb); have n5_ := Aside0.mk (Kd.R_lower (Kd.R_new' ho0 (Kd.R_lt (by (with_reducible repeat (first | apply Kd.R_alloc | apply Kd.R_drewN | apply Kd.R_drew)); exact (Kd.R_mono (Kd.R_far (p := ⟨gb344, 1, none⟩) (Kd.R_far (p := ⟨gb344, 0, none⟩) (Kd.R_types HO337.out BK344.out (by decide)) (fun _ hk => hk.2) (.slice Ao122 t338.length co122)) (fun _ hk => hk.2) (.slice Ao125 t341.length co125)) (fun _ h_ => h_.1))))) (below_size q8_)); have n6_ := Aside0.mk (blk_below (g := gb327) (o := .cells #[.slice A0_0 l0_0.length c0_0, .slice A0_1 l0_1.length c0_1] 25 (0, 0)) q34_ hb); have n7_ := Aside0.mk (blk_below (g := gb344) (o := .cells #[.slice Ao122 t338.length co122, .slice Ao125 t341.length co125] 30 (0, 0)) (by (with_reducible repeat (first | refine blk_drewN ?_ _ | refine blk_drew ?_ | refine blk_alloc ?_ _)); refine blk_put (cs := #[.slice Ao122 t338.length co122, .slice none 0 0]) ?_ 1 _ rfl; (with_reducible repeat (first | refine blk_drewN ?_ _ | refine blk_drew ?_ | refine blk_alloc ?_ _)); refine blk_put (cs := #[.slice none 0 0, .slice none 0 0]) ?_ 0 _ rfl; (with_reducible repeat (first | refine blk_drewN ?_ _ | refine blk_drew ?_ | refine blk_alloc ?_ _)); exact BK344.out) hb); have n8_ := Aside0.mk (below_step q8_ hb); clear HO331; clear HO334; clear HO337; clear HO340; clear HO343; clear BK327; clear BK344; clear HB; have HO331 := n0_; have HO334 := n1_; have HO337 := n2_; have HO340 := n3_; have HO343 := n4_; have HO347 := n5_; have BK327 := n6_; have BK344 := n7_; have HB := n8_; clear n0_ n1_ n2_ n3_ n4_ n5_ n6_ n7_ n8_; (try clear hb); (try clear hb2); (try clear hk); (try clear hi); (try clear ho0); obtain ⟨Ao127, co127, eo127⟩ := Kd.R_slice HO347.out; subst eo127; obtain ⟨Ao128, co128, eo128⟩ := Kd.R_slice HO337.out; subst eo128) | ((with_reducible refine gate_callee (f := 24) rfl ?_); refine goesL_ (some 29) rfl rfl Try.func24 (by kernel_rfl) rfl #[.slice Ao127 t345.length co127, .slice Ao128 t335.length co128] rfl q0_ ?_; (with_reducible refine (laws_eqIntS.calls k _ _ t345 _ _ t335 false _ ?side1 ?side2 ?side3 ?side4 A12.out).mono ?_); (case side1 => exact q53_); (case side2 => exact (Kd.R_reads' HO347.out).2.1); (case side3 => exact q54_); (case side4 => exact (Kd.R_reads' HO337.out).2.1); rintro e w' ⟨rfl, ⟨nd, rfl⟩⟩; refine ⟨_, rfl, ?_⟩))
     go_ret
     exact ⟨by first | rfl | (simp [errW_none, errW_some] <;> rfl) | (simp [*, errW_none, errW_some] <;> rfl), by repeat (first | (with_reducible first | exact HB.out | apply below_alloc | apply pw_below_drewN | apply below_drew1 | refine below_set ?_ GE327.out | refine below_set ?_ GE344.out) | exact HB.out)⟩
/-- What is left of laws_FnExactLivesIn. -/
def laws_FnExactLivesIn.Pure : Prop := ∀ (l0_0 : List (List Int)) (l0_1 : List (S109)), ∀ (a1 : Int), (l0_0.length * 24 ≤ 140737488351232 ∧ ∀ x0 ∈ l0_0, x0.length * 8 ≤ 140737488351232 ∧ ∀ x1 ∈ x0, (Lit.int .i64 x1).wf = true) → (l0_1.length * 56 ≤ 140737488351232 ∧ ∀ x0 ∈ l0_1, (x0.f0.size ≤ 140737488351232) ∧ ((Lit.int .i64 x0.f1).wf = true) ∧ ((Lit.int .i64 x0.f2).wf = true) ∧ (x0.f3.length * 8 ≤ 140737488351232 ∧ ∀ x1 ∈ x0.f3, (Lit.int .i64 x1).wf = true)) → ((Lit.int .i64 a1).wf = true) → ∃ k, laws_FnExactLivesIn.f k l0_0 l0_1 a1 = some true

end Go.Proofs.Ytcgelllmdcnmfaa.PFnExactLivesIn
-- (flat)
-- (thin)
