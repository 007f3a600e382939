-- Made by a program (the kit's print with additions of this session: wip/tools/patch_print.py, ext.py).
-- (turned)
import Derived.Test.YtjdjcbjeklliaaaPFnLeastx0
import Derived.Test.YtjdjcbjeklliaaaPFnLeastx2
import Derived.Test.YtjdjcbjeklliaaaPFnLeastx6
import Derived.Test.YtjdjcbjeklliaaaPFnLeastx7
import Derived.Test.YtjdjcbjeklliaaaPFnLeastx8
import Derived.Test.YtjdjcbjeklliaaaPFnLeastx10
namespace Go.Proofs.Ytjdjcbjeklliaaa.PFnLeast
open Go.RowKit Go.Proofs.YtjdjcbjeklliaaaW.PrintWords Go.Proofs.YtjdjcbjeklliaaaW.PrintLast Go.Proofs.YtjdjcbjeklliaaaW.PrintMore
attribute [local go_sem] max2_int min2_int max_two min_two max_three min_three max_four min_four   -- for this text's walks alone
set_option linter.unusedVariables false
set_option linter.unusedSimpArgs false

/-! ### laws_FnLeast: function 3 -/
mutual
def laws_FnLeast.j0 : Nat → List ByteArray → List (S31) → List ByteArray → Option (Bool)
  | 0, _, _, _ => none
  | k + 1, x3, x4, x5 => laws_FnLeast.l0 k x3 x4 x5 0 0
def laws_FnLeast.l0 : Nat → List ByteArray → List (S31) → List ByteArray → Int → Int → Option (Bool)
  | 0, _, _, _, _, _ => none
  | k + 1, x3, x4, x5, x7, x8 => if x8 < (x4.length : Int) then (if 0 ≤ x8 then (if ((rd_T31 x4 x8).f0) = 1 then (laws_FnLeast.l0 k x3 x4 x5 x7 (wrap64 (x8 + 1))) else (laws_FnLeast.l0 k x3 x4 x5 (wrap64 (x7 + 1)) (wrap64 (x8 + 1)))) else (none)) else ((impl_Apply.f k x3 x4).bind fun bt464 => ((impl_Distance.f k x3 x5).bind fun t468 => (if bt464.2 = true then ((laws_sameTexts.f k bt464.1 x5).bind fun t469 => (if t469 = true then (if t468 ≥ 0 then (if t468 ≤ x7 then ((impl_Back.f k x4).bind fun t470 => ((impl_Back.f k t470).bind fun t473 => ((laws_sameEdits.f k t473 x4).bind fun t476 => (some t476)))) else (some false)) else (some false)) else (some false))) else (some false))))
end
def laws_FnLeast.f (k : Nat) (l0 : List Int) : Option (Bool) := (laws_big.f l0).bind fun t443 => (if t443 = true then (some true) else ((spec_DrawApply.f k l0).bind fun bt444 => ((spec_Apply.f k bt444.1 bt444.2).bind fun bt450 => (if bt450.2 = true then (laws_FnLeast.j0 k bt444.1 bt444.2 bt450.1) else (laws_FnLeast.j0 k (([(⟨#[97]⟩ : ByteArray)] : List ByteArray)) (([(⟨2, (⟨#[97]⟩ : ByteArray)⟩ : S31), (⟨3, (⟨#[97]⟩ : ByteArray)⟩ : S31)] : List (S31))) (([(⟨#[97]⟩ : ByteArray)] : List ByteArray)))))))
theorem laws_FnLeast.mono_l : ∀ k, (∀ y0 y1 y2, LeO (laws_FnLeast.j0 k y0 y1 y2) (laws_FnLeast.j0 (k + 1) y0 y1 y2)) ∧ (∀ y0 y1 y2 y3 y4, LeO (laws_FnLeast.l0 k y0 y1 y2 y3 y4) (laws_FnLeast.l0 (k + 1) y0 y1 y2 y3 y4))
  | 0 => ⟨fun _ _ _ r h => by simp [laws_FnLeast.j0] at h, fun _ _ _ _ _ r h => by simp [laws_FnLeast.l0] at h⟩
  | k + 1 => by
    obtain ⟨ih0, ih1⟩ := laws_FnLeast.mono_l k
    refine ⟨?_, ?_⟩
    ·intro y0 y1 y2
     unfold laws_FnLeast.j0
     repeat' first
     | (with_reducible exact ih0 _ _ _)
     | (with_reducible exact ih1 _ _ _ _ _)
     | (with_reducible exact impl_Apply.mono _ _ _)
     | (with_reducible exact impl_Back.mono _ _)
     | (with_reducible exact impl_Distance.mono _ _ _)
     | (with_reducible exact laws_sameEdits.mono _ _ _)
     | (with_reducible exact laws_sameTexts.mono _ _ _)
     | (with_reducible exact spec_Apply.mono _ _ _)
     | (with_reducible exact spec_DrawApply.mono _ _)
     | (with_reducible exact LeO.refl _)
     | (with_reducible exact LeO.none _)
     | (with_reducible refine LeO.ite ?_ ?_)
     | (with_reducible refine LeO.bind ?_ (fun _ => ?_))
     | exact ih0 _ _ _
     | exact ih1 _ _ _ _ _
     | exact impl_Apply.mono _ _ _
     | exact impl_Back.mono _ _
     | exact impl_Distance.mono _ _ _
     | exact laws_sameEdits.mono _ _ _
     | exact laws_sameTexts.mono _ _ _
     | exact spec_Apply.mono _ _ _
     | exact spec_DrawApply.mono _ _
     | exact LeO.none _
     | refine LeO.ite ?_ ?_
     | refine LeO.bind ?_ (fun _ => ?_)
    ·intro y0 y1 y2 y3 y4
     unfold laws_FnLeast.l0
     repeat' first
     | (with_reducible exact ih0 _ _ _)
     | (with_reducible exact ih1 _ _ _ _ _)
     | (with_reducible exact impl_Apply.mono _ _ _)
     | (with_reducible exact impl_Back.mono _ _)
     | (with_reducible exact impl_Distance.mono _ _ _)
     | (with_reducible exact laws_sameEdits.mono _ _ _)
     | (with_reducible exact laws_sameTexts.mono _ _ _)
     | (with_reducible exact spec_Apply.mono _ _ _)
     | (with_reducible exact spec_DrawApply.mono _ _)
     | (with_reducible exact LeO.refl _)
     | (with_reducible exact LeO.none _)
     | (with_reducible refine LeO.ite ?_ ?_)
     | (with_reducible refine LeO.bind ?_ (fun _ => ?_))
     | exact ih0 _ _ _
     | exact ih1 _ _ _ _ _
     | exact impl_Apply.mono _ _ _
     | exact impl_Back.mono _ _
     | exact impl_Distance.mono _ _ _
     | exact laws_sameEdits.mono _ _ _
     | exact laws_sameTexts.mono _ _ _
     | exact spec_Apply.mono _ _ _
     | exact spec_DrawApply.mono _ _
     | exact LeO.none _
     | refine LeO.ite ?_ ?_
     | refine LeO.bind ?_ (fun _ => ?_)
theorem laws_FnLeast.mono : ∀ a0 k, LeO (laws_FnLeast.f k a0) (laws_FnLeast.f (k + 1) a0) := by
  intro a0 k
  obtain ⟨ih0, ih1⟩ := laws_FnLeast.mono_l k
  unfold laws_FnLeast.f
  repeat' first
     | (with_reducible exact ih0 _ _ _)
     | (with_reducible exact ih1 _ _ _ _ _)
     | (with_reducible exact impl_Apply.mono _ _ _)
     | (with_reducible exact impl_Back.mono _ _)
     | (with_reducible exact impl_Distance.mono _ _ _)
     | (with_reducible exact laws_sameEdits.mono _ _ _)
     | (with_reducible exact laws_sameTexts.mono _ _ _)
     | (with_reducible exact spec_Apply.mono _ _ _)
     | (with_reducible exact spec_DrawApply.mono _ _)
     | (with_reducible exact LeO.refl _)
     | (with_reducible exact LeO.none _)
     | (with_reducible refine LeO.ite ?_ ?_)
     | (with_reducible refine LeO.bind ?_ (fun _ => ?_))
     | exact ih0 _ _ _
     | exact ih1 _ _ _ _ _
     | exact impl_Apply.mono _ _ _
     | exact impl_Back.mono _ _
     | exact impl_Distance.mono _ _ _
     | exact laws_sameEdits.mono _ _ _
     | exact laws_sameTexts.mono _ _ _
     | exact spec_Apply.mono _ _ _
     | exact spec_DrawApply.mono _ _
     | exact LeO.none _
     | refine LeO.ite ?_ ?_
     | refine LeO.bind ?_ (fun _ => ?_)
set_option maxHeartbeats 8000000 in
set_option maxRecDepth 100000 in
theorem laws_FnLeast.calls (k : Nat) (A0 : Option Addr) (c0 : Nat) (l0 : List Int) (r : Bool) (w : World) (hr0 : Kd.C (Kd.int .u8) w A0 l0.length l0) (hc0 : l0.length ≤ c0) (h : laws_FnLeast.f k l0 = some r) :
    Calls Try.prog 3 #[.slice A0 l0.length c0] w fun e w' => e = .returned (.bool r) ∧ Below w.heap.size w w' := by
  have hu31 := Try.underlying31
  have HR0 := Aside0.mk hr0
  have HC0 := Aside0.mk hc0
  clear hr0 hc0
  have HB := Aside0.mk (Below.refl w.heap.size w)
  have H : ((laws_big.f l0).bind fun t443 => (if t443 = true then (some true) else ((spec_DrawApply.f k l0).bind fun bt444 => ((spec_Apply.f k bt444.1 bt444.2).bind fun bt450 => (if bt450.2 = true then (laws_FnLeast.j0 k bt444.1 bt444.2 bt450.1) else (laws_FnLeast.j0 k (([(⟨#[97]⟩ : ByteArray)] : List ByteArray)) (([(⟨2, (⟨#[97]⟩ : ByteArray)⟩ : S31), (⟨3, (⟨#[97]⟩ : ByteArray)⟩ : S31)] : List (S31))) (([(⟨#[97]⟩ : ByteArray)] : List ByteArray)))))))) = some r := h
  clear h
  replace H := Option.bind_eq_some_iff.mp H
  obtain ⟨t443, A20, H⟩ := H
  replace H : (if t443 = true then (some true) else ((spec_DrawApply.f k l0).bind fun bt444 => ((spec_Apply.f k bt444.1 bt444.2).bind fun bt450 => (if bt450.2 = true then (laws_FnLeast.j0 k bt444.1 bt444.2 bt450.1) else (laws_FnLeast.j0 k (([(⟨#[97]⟩ : ByteArray)] : List ByteArray)) (([(⟨2, (⟨#[97]⟩ : ByteArray)⟩ : S31), (⟨3, (⟨#[97]⟩ : ByteArray)⟩ : S31)] : List (S31))) (([(⟨#[97]⟩ : ByteArray)] : List ByteArray))))))) = some r := H
  have A2 := Aside0.mk A20
  clear A20
  by_cases c3 : t443 = true
  · subst c3
    have H1 : (some true) = some r := by rw [if_pos rfl] at H; exact H
    clear H
    have H := H1
    clear H1
    obtain rfl := Option.some.inj H
    go_enter Try.func3, Try.ntmps3
    go_wp2_with (first | ((with_reducible refine gate_callee (f := 14) rfl ?_); refine goesL_ (some 13) rfl rfl Try.func14 (by kernel_rfl) rfl #[.slice A0 l0.length c0] rfl q5_ ?_; (with_reducible refine (laws_big.calls _ _ l0 true _ ?side1 ?side2 A2.out).mono ?_); (case side1 => exact q15_); (case side2 => exact HC0.out); rintro e w' ⟨rfl, ⟨nd, rfl⟩⟩; refine ⟨_, rfl, ?_⟩))
    go_ret
    exact ⟨by first | rfl | (simp [errW_none, errW_some] <;> rfl) | (simp [*, errW_none, errW_some] <;> rfl), by repeat (first | (with_reducible first | exact HB.out | apply below_alloc | apply pw_below_drewN | apply below_drew1) | exact HB.out)⟩
  · replace c3 := Bool.eq_false_iff.mpr c3
    subst c3
    have H1 : ((spec_DrawApply.f k l0).bind fun bt444 => ((spec_Apply.f k bt444.1 bt444.2).bind fun bt450 => (if bt450.2 = true then (laws_FnLeast.j0 k bt444.1 bt444.2 bt450.1) else (laws_FnLeast.j0 k (([(⟨#[97]⟩ : ByteArray)] : List ByteArray)) (([(⟨2, (⟨#[97]⟩ : ByteArray)⟩ : S31), (⟨3, (⟨#[97]⟩ : ByteArray)⟩ : S31)] : List (S31))) (([(⟨#[97]⟩ : ByteArray)] : List ByteArray)))))) = some r := by rw [if_neg (show ¬ (false = true) by decide)] at H; exact H
    clear H
    have H := H1
    clear H1
    replace H := Option.bind_eq_some_iff.mp H
    obtain ⟨⟨t444, t445⟩, A40, H⟩ := H
    replace H : ((spec_Apply.f k t444 t445).bind fun bt450 => (if bt450.2 = true then (laws_FnLeast.j0 k t444 t445 bt450.1) else (laws_FnLeast.j0 k (([(⟨#[97]⟩ : ByteArray)] : List ByteArray)) (([(⟨2, (⟨#[97]⟩ : ByteArray)⟩ : S31), (⟨3, (⟨#[97]⟩ : ByteArray)⟩ : S31)] : List (S31))) (([(⟨#[97]⟩ : ByteArray)] : List ByteArray))))) = some r := H
    have A4 := Aside0.mk A40
    clear A40
    replace H := Option.bind_eq_some_iff.mp H
    obtain ⟨⟨t450, t451⟩, A50, H⟩ := H
    replace H : (if t451 = true then (laws_FnLeast.j0 k t444 t445 t450) else (laws_FnLeast.j0 k (([(⟨#[97]⟩ : ByteArray)] : List ByteArray)) (([(⟨2, (⟨#[97]⟩ : ByteArray)⟩ : S31), (⟨3, (⟨#[97]⟩ : ByteArray)⟩ : S31)] : List (S31))) (([(⟨#[97]⟩ : ByteArray)] : List ByteArray)))) = some r := H
    have A5 := Aside0.mk A50
    clear A50
    have HC6 := Aside0.mk H
    clear H
    go_enter Try.func3, Try.ntmps3
    go_upto_if 26 with (first | ((with_reducible refine gate_callee (f := 14) rfl ?_); refine goesL_ (some 13) rfl rfl Try.func14 (by kernel_rfl) rfl #[.slice A0 l0.length c0] rfl q5_ ?_; (with_reducible refine (laws_big.calls _ _ l0 false _ ?side1 ?side2 A2.out).mono ?_); (case side1 => exact q15_); (case side2 => exact HC0.out); rintro e w' ⟨rfl, ⟨nd, rfl⟩⟩; refine ⟨_, rfl, ?_⟩) | ((with_reducible refine gate_callee (f := 15) rfl ?_); refine goesL_ (some 16) rfl rfl Try.func15 (by kernel_rfl) rfl #[.slice A0 l0.length c0] rfl q5_ ?_; (with_reducible refine (spec_DrawApply.calls k _ _ l0 t444 t445 _ ?side1 ?side2 A4.out).mono ?_); (case side1 => exact q15_); (case side2 => exact HC0.out); rintro e w7 ⟨v446, v448, rfl, ho0, ho1, hb⟩; refine ⟨_, rfl, ?_⟩; have n0_ := Aside0.mk (Kd.R_lower ho0 (below_size q2_)); have n1_ := Aside0.mk (Kd.Q_lower ho1 (below_size q2_)); have n2_ := Aside0.mk (below_step q2_ hb); clear HB; have HO447 := n0_; have HO449 := n1_; have HB := n2_; clear n0_ n1_ n2_; (try clear hb); (try clear hb2); (try clear hk); (try clear hi); (try clear ho0); (try clear ho1); obtain ⟨Ao8, co8, eo8⟩ := Kd.R_slice HO447.out; subst eo8; obtain ⟨Ao9, co9, eo9, _⟩ := Kd.Q_slice HO449.out; subst eo9) | ((with_reducible refine gate_callee (f := 16) rfl ?_); refine goesL_ (some 22) rfl rfl Try.func16 (by kernel_rfl) rfl #[.slice Ao8 t444.length co8, .slice Ao9 t445.length co9] rfl q5_ ?_; (with_reducible refine (spec_Apply.calls k _ _ t444 _ _ t445 t450 t451 _ ?side1 ?side2 ?side3 ?side4 A5.out).mono ?_); (case side1 => exact (by repeat (first | exact (Kd.R_reads' HO447.out).2.2 | (with_reducible refine Kd.C_alloc ?_ _) | (with_reducible refine Kd.C_drewN ?_ _) | (with_reducible refine Kd.C_drew ?_)))); (case side2 => exact (Kd.R_reads' HO447.out).2.1); (case side3 => exact (by repeat (first | exact (Kd.Q_reads' HO449.out).2.2 | (with_reducible refine Kd.C_alloc ?_ _) | (with_reducible refine Kd.C_drewN ?_ _) | (with_reducible refine Kd.C_drew ?_)))); (case side4 => exact (Kd.Q_reads' HO449.out).2.1); rintro e w10 ⟨v452, rfl, ho0, hb⟩; refine ⟨_, rfl, ?_⟩; have n0_ := Aside0.mk (Kd.R_elder' q32_ (Kd.R_base ho0) hb); have n1_ := Aside0.mk (Kd.Q_below q38_ hb); have n2_ := Aside0.mk (Kd.R_lower (Kd.R_new' ho0 (Kd.R_lt q32_)) (below_size q2_)); have n3_ := Aside0.mk (below_step q2_ hb); clear HO447; clear HO449; clear HB; have HO447 := n0_; have HO449 := n1_; have HO453 := n2_; have HB := n3_; clear n0_ n1_ n2_ n3_; (try clear hb); (try clear hb2); (try clear hk); (try clear hi); (try clear ho0)))
    (try simp only [Act.put, List.setIfInBounds_toArray, List.set_cons_zero, List.set_cons_succ])
    go_cut [3, 4, 5] (fun v3 v4 v5 wc => ∃ (kq : Nat) (x3_5 : List ByteArray) (x4_5 : List (S31)) (x5_5 : List ByteArray), Aside0 (laws_FnLeast.j0 kq x3_5 x4_5 x5_5 = some r) ∧ Aside0 (kq ≤ k) ∧ Aside0 (Kd.R Kd.string 9 wc w.heap.size (fun k_ => some k_ ≠ (v5 : Value).ownBlock) v3 x3_5) ∧ Aside0 (Kd.Q k31 31 wc w.heap.size (fun _ => True) v4 x4_5) ∧ Aside0 (Kd.R Kd.string 9 wc w.heap.size (fun k_ => some k_ ≠ (v3 : Value).ownBlock) v5 x5_5) ∧ Aside0 (Below w.heap.size w wc))
    case first =>
     have H := HC6.out
     clear HC6
     by_cases c11 : t451 = true
     ·subst c11
      have H1 : (laws_FnLeast.j0 k t444 t445 t450) = some r := by rw [if_pos rfl] at H; exact H
      clear H
      have H := H1
      clear H1
      have H' := Aside0.mk H
      clear H
      go_wp2
      go_meet
      case rel => exact ⟨_, (t444), (t445), (t450), H', ⟨by first | omega | exact Nat.le_refl _⟩, ⟨by (with_reducible repeat (first | apply Kd.R_alloc | apply Kd.R_drewN | apply Kd.R_drew)); exact Kd.R_mono HO447.out (fun _ hk => hk.2)⟩, ⟨by (with_reducible repeat (first | apply Kd.Q_alloc | apply Kd.Q_drewN | apply Kd.Q_drew)); exact HO449.out⟩, ⟨by (with_reducible repeat (first | apply Kd.R_alloc | apply Kd.R_drewN | apply Kd.R_drew)); exact Kd.R_mono HO453.out (fun _ hk => hk.2)⟩, ⟨by repeat (first | (with_reducible first | exact HB.out | apply below_alloc | apply pw_below_drewN | apply below_drew1) | exact HB.out)⟩⟩
     ·replace c11 := Bool.eq_false_iff.mpr c11
      subst c11
      have H1 : (laws_FnLeast.j0 k (([(⟨#[97]⟩ : ByteArray)] : List ByteArray)) (([(⟨2, (⟨#[97]⟩ : ByteArray)⟩ : S31), (⟨3, (⟨#[97]⟩ : ByteArray)⟩ : S31)] : List (S31))) (([(⟨#[97]⟩ : ByteArray)] : List ByteArray))) = some r := by rw [if_neg (show ¬ (false = true) by decide)] at H; exact H
      clear H
      have H := H1
      clear H1
      obtain ⟨y454, hy454⟩ : ∃ y_ : List ByteArray, y_ = (([(⟨#[97]⟩ : ByteArray)] : List ByteArray)) := ⟨_, rfl⟩
      replace H : (laws_FnLeast.j0 k y454 (([(⟨2, (⟨#[97]⟩ : ByteArray)⟩ : S31), (⟨3, (⟨#[97]⟩ : ByteArray)⟩ : S31)] : List (S31))) (([(⟨#[97]⟩ : ByteArray)] : List ByteArray))) = some r := by first | (rw [hy454]; with_reducible exact H) | (have H2_ := (Option.bind_some _ _).symm.trans H; rw [hy454]; with_reducible exact H2_) | (have H2_ := (Option.bind_some _ _).symm.trans H; with_reducible exact H2_) | with_reducible exact H | (rw [hy454]; exact H) | exact H
      have Ny454 := Aside0.mk hy454
      clear hy454
      obtain ⟨y457, hy457⟩ : ∃ y_ : List (S31), y_ = (([(⟨2, (⟨#[97]⟩ : ByteArray)⟩ : S31), (⟨3, (⟨#[97]⟩ : ByteArray)⟩ : S31)] : List (S31))) := ⟨_, rfl⟩
      replace H : (laws_FnLeast.j0 k y454 y457 (([(⟨#[97]⟩ : ByteArray)] : List ByteArray))) = some r := by first | (rw [hy457]; with_reducible exact H) | (have H2_ := (Option.bind_some _ _).symm.trans H; rw [hy457]; with_reducible exact H2_) | (have H2_ := (Option.bind_some _ _).symm.trans H; with_reducible exact H2_) | with_reducible exact H | (rw [hy457]; exact H) | exact H
      have Ny457 := Aside0.mk hy457
      clear hy457
      obtain ⟨y460, hy460⟩ : ∃ y_ : List ByteArray, y_ = (([(⟨#[97]⟩ : ByteArray)] : List ByteArray)) := ⟨_, rfl⟩
      replace H : (laws_FnLeast.j0 k y454 y457 y460) = some r := by first | (rw [hy460]; with_reducible exact H) | (have H2_ := (Option.bind_some _ _).symm.trans H; rw [hy460]; with_reducible exact H2_) | (have H2_ := (Option.bind_some _ _).symm.trans H; with_reducible exact H2_) | with_reducible exact H | (rw [hy460]; exact H) | exact H
      have Ny460 := Aside0.mk hy460
      clear hy460
      have H' := Aside0.mk H
      clear H
      go_wp2_with (first | ((with_reducible refine gate_dst (N := 27) rfl ?_); refine Kd.R_lit Kd.string _ 9 ?hg (N := 27) ?hd (xs := ([(⟨#[97]⟩ : ByteArray)] : List ByteArray)) (inner := [.string (⟨#[97]⟩ : ByteArray)]) (ok := fun _ => True) (okp := fun _ => True) ?hr ?hp (fun _ hk => hk) trivial (Below.refl _ _) (Nat.le_refl _) (by simp) ?_; (case hd => rfl); (case hg => rfl); (case hr => first | (go_simp; done) | (go_simp; rfl)); (case hp => exact (Reps.one (show Kd.M Kd.string _ _ _ (⟨#[97]⟩ : ByteArray) [.string (⟨#[97]⟩ : ByteArray)] from rfl) (Reps.none _ _))); intro v455 w12 ho13 hb hg_ hnew_; clear hg_ hnew_; (first | rw [← Ny454.out] at ho13 | (simp only [Int.reduceToNat] at ho13; rw [← Ny454.out] at ho13)); have n0_ := Aside0.mk (Kd.R_elder' q32_ (Kd.R_base ho13) hb); have n1_ := Aside0.mk (Kd.Q_below q38_ hb); have n2_ := Aside0.mk (Kd.R_elder' q39_ (Kd.R_base ho13) hb); have n3_ := Aside0.mk (Kd.R_lower (Kd.R_new' (Kd.R_new' ho13 (Kd.R_lt q32_)) (Kd.R_lt q39_)) (below_size q2_)); have n4_ := Aside0.mk (below_step q2_ hb); clear HO447; clear HO449; clear HO453; clear HB; have HO447 := n0_; have HO449 := n1_; have HO453 := n2_; have HO456 := n3_; have HB := n4_; clear n0_ n1_ n2_ n3_ n4_; clear hb ho13) | ((with_reducible refine gate_dst (N := 30) rfl ?_); refine Kd.R_lit k31 _ 31 ?hg (N := 30) ?hd (xs := ([(⟨2, (⟨#[97]⟩ : ByteArray)⟩ : S31), (⟨3, (⟨#[97]⟩ : ByteArray)⟩ : S31)] : List (S31))) (inner := [.int .i64 2, .string (⟨#[97]⟩ : ByteArray), .int .i64 3, .string (⟨#[97]⟩ : ByteArray)]) (ok := fun _ => True) (okp := fun _ => True) ?hr ?hp (fun _ hk => hk) trivial (Below.refl _ _) (Nat.le_refl _) (by simp) ?_; (case hd => rfl); (case hg => rfl); (case hr => first | (go_simp; done) | (go_simp; rfl)); (case hp => exact (Reps.c2 (show Kd.M k31 _ _ _ (⟨2, (⟨#[97]⟩ : ByteArray)⟩ : S31) [.int .i64 2, .string (⟨#[97]⟩ : ByteArray)] from (k31_mkM _ _ _ (⟨2, (⟨#[97]⟩ : ByteArray)⟩ : S31) )) (Reps.c2 (show Kd.M k31 _ _ _ (⟨3, (⟨#[97]⟩ : ByteArray)⟩ : S31) [.int .i64 3, .string (⟨#[97]⟩ : ByteArray)] from (k31_mkM _ _ _ (⟨3, (⟨#[97]⟩ : ByteArray)⟩ : S31) )) (Reps.none _ _)))); intro v458 w14 ho15 hb hg_ hnew_; clear hg_ hnew_; (first | rw [← Ny457.out] at ho15 | (simp only [Int.reduceToNat] at ho15; rw [← Ny457.out] at ho15)); have n0_ := Aside0.mk (Kd.R_below q32_ hb); have n1_ := Aside0.mk (Kd.Q_elder' q38_ (Kd.R_base ho15) hb); have n2_ := Aside0.mk (Kd.R_below q39_ hb); have n3_ := Aside0.mk (Kd.R_below (by (with_reducible repeat (first | apply Kd.R_alloc | apply Kd.R_drewN | apply Kd.R_drew)); exact HO456.out) hb); have n4_ := Aside0.mk (Kd.R_lower (Kd.R_new' ho15 (Kd.Q_lt q38_)) (below_size q2_)); have n5_ := Aside0.mk (below_step q2_ hb); clear HO447; clear HO449; clear HO453; clear HO456; clear HB; have HO447 := n0_; have HO449 := n1_; have HO453 := n2_; have HO456 := n3_; have HO459 := n4_; have HB := n5_; clear n0_ n1_ n2_ n3_ n4_ n5_; clear hb ho15) | ((with_reducible refine gate_dst (N := 31) rfl ?_); refine Kd.R_lit Kd.string _ 9 ?hg (N := 31) ?hd (xs := ([(⟨#[97]⟩ : ByteArray)] : List ByteArray)) (inner := [.string (⟨#[97]⟩ : ByteArray)]) (ok := fun _ => True) (okp := fun _ => True) ?hr ?hp (fun _ hk => hk) trivial (Below.refl _ _) (Nat.le_refl _) (by simp) ?_; (case hd => rfl); (case hg => rfl); (case hr => first | (go_simp; done) | (go_simp; rfl)); (case hp => exact (Reps.one (show Kd.M Kd.string _ _ _ (⟨#[97]⟩ : ByteArray) [.string (⟨#[97]⟩ : ByteArray)] from rfl) (Reps.none _ _))); intro v461 w16 ho17 hb hg_ hnew_; clear hg_ hnew_; (first | rw [← Ny460.out] at ho17 | (simp only [Int.reduceToNat] at ho17; rw [← Ny460.out] at ho17)); have n0_ := Aside0.mk (Kd.R_elder' q32_ (Kd.R_base ho17) hb); have n1_ := Aside0.mk (Kd.Q_below q38_ hb); have n2_ := Aside0.mk (Kd.R_elder' q39_ (Kd.R_base ho17) hb); have n3_ := Aside0.mk (Kd.R_elder' (by (with_reducible repeat (first | apply Kd.R_alloc | apply Kd.R_drewN | apply Kd.R_drew)); exact HO456.out) (Kd.R_base ho17) hb); have n4_ := Aside0.mk (Kd.R_below (by (with_reducible repeat (first | apply Kd.R_alloc | apply Kd.R_drewN | apply Kd.R_drew)); exact HO459.out) hb); have n5_ := Aside0.mk (Kd.R_lower (Kd.R_new' (Kd.R_new' (Kd.R_new' ho17 (Kd.R_lt q32_)) (Kd.R_lt q39_)) (Kd.R_lt (by (with_reducible repeat (first | apply Kd.R_alloc | apply Kd.R_drewN | apply Kd.R_drew)); exact HO456.out))) (below_size q2_)); have n6_ := Aside0.mk (below_step q2_ hb); clear HO447; clear HO449; clear HO453; clear HO456; clear HO459; clear HB; have HO447 := n0_; have HO449 := n1_; have HO453 := n2_; have HO456 := n3_; have HO459 := n4_; have HO462 := n5_; have HB := n6_; clear n0_ n1_ n2_ n3_ n4_ n5_ n6_; clear hb ho17))
      go_meet
      case rel => exact ⟨_, (y454), (y457), (y460), H', ⟨by first | omega | exact Nat.le_refl _⟩, ⟨by (with_reducible repeat (first | apply Kd.R_alloc | apply Kd.R_drewN | apply Kd.R_drew)); exact Kd.R_mono HO456.out (fun _ hk => hk.2)⟩, ⟨Kd.Q_of_R (by (with_reducible repeat (first | apply Kd.R_alloc | apply Kd.R_drewN | apply Kd.R_drew)); exact Kd.R_mono HO459.out (fun _ hk => trivial))⟩, ⟨by (with_reducible repeat (first | apply Kd.R_alloc | apply Kd.R_drewN | apply Kd.R_drew)); exact Kd.R_mono HO462.out (fun _ hk => hk.2)⟩, ⟨by repeat (first | (with_reducible first | exact HB.out | apply below_alloc | apply pw_below_drewN | apply below_drew1) | exact HB.out)⟩⟩
    case rest =>
     clear HC6
     try clear c1
     try clear c2
     try clear p2
     try clear c3
     try clear c11
     try clear c14
     try clear c15
     try clear c16
     obtain ⟨kq, x3_5, x4_5, x5_5, HA, HJ5, HO_3, HO_4, HO_5, HB⟩ := hcut
     cases kq with
     | zero => exact absurd HA.out (by simp [laws_FnLeast.j0])
     | succ kj5 =>
      have H := HA.out
      clear HA
      simp only [laws_FnLeast.j0] at H
      have H' := Aside0.mk H
      clear H
      go_wp2
      go_loopg [7, 8] kj5 (fun kq v7 v8 w' => ∃ (x7_2 : Int) (x8_2 : Int), v7 = .int .i64 x7_2 ∧ v8 = .int .i64 x8_2 ∧ Aside0 (laws_FnLeast.l0 kq x3_5 x4_5 x5_5 x7_2 x8_2 = some r) ∧ Aside0 (kq ≤ kj5) ∧ Aside0 (Kd.R Kd.string 9 w' w.heap.size (fun k_ => some k_ ≠ (u5 : Value).ownBlock) u3 x3_5) ∧ Aside0 (Kd.Q k31 31 w' w.heap.size (fun _ => True) u4 x4_5) ∧ Aside0 (Kd.R Kd.string 9 w' w.heap.size (fun k_ => some k_ ≠ (u3 : Value).ownBlock) u5 x5_5) ∧ Aside0 (Below w.heap.size w w'))
      case atStart => exact ⟨(0), (0), q7_, q7_, H', ⟨Nat.le_refl _⟩, ⟨by (with_reducible repeat (first | apply Kd.R_alloc | apply Kd.R_drewN | apply Kd.R_drew)); exact HO_3.out⟩, ⟨by (with_reducible repeat (first | apply Kd.Q_alloc | apply Kd.Q_drewN | apply Kd.Q_drew)); exact HO_4.out⟩, ⟨by (with_reducible repeat (first | apply Kd.R_alloc | apply Kd.R_drewN | apply Kd.R_drew)); exact HO_5.out⟩, ⟨by repeat (first | (with_reducible first | exact HB.out | apply below_alloc | apply pw_below_drewN | apply below_drew1) | exact HB.out)⟩⟩
      case round =>
       clear H'
       try clear c1
       try clear c2
       try clear p2
       try clear c3
       try clear c11
       try clear c14
       try clear c15
       try clear c16
       try clear p2
       obtain ⟨x7_2, x8_2, rfl, rfl, HA, HK2, HO_3, HO_4, HO_5, HB⟩ := hrel
       cases gk with
       | zero => exact absurd HA.out (by simp [laws_FnLeast.l0])
       | succ k2 =>
        have H := HA.out
        clear HA
        simp only [laws_FnLeast.l0] at H
        by_cases c18 : x8_2 < (x4_5.length : Int)
        ·rw [if_pos c18] at H
         have c18b0 : decide (x8_2 < (x4_5.length : Int)) = true := decide_eq_true c18
         clear c18
         by_cases c19 : 0 ≤ x8_2
         case neg =>
          rw [if_neg c19] at H
          exact absurd H (by simp)
         rw [if_pos c19] at H
         have c19b0 : decide (0 ≤ x8_2) = true := decide_eq_true c19
         clear c19
         by_cases c20 : ((rd_T31 x4_5 x8_2).f0) = 1
         ·rw [if_pos c20] at H
          have c20b0 : (((rd_T31 x4_5 x8_2).f0) == 1) = true := beq_iff_eq.mpr c20
          have c20b1 : (((rd_T31 x4_5 x8_2).f0) != 1) = false := bne_eq_false_iff_eq.mpr c20
          clear c20
          have H' := Aside0.mk H
          clear H
          obtain ⟨Ao21, co21, eo21, _⟩ := Kd.Q_slice HO_4.out
          subst eo21
          have p463 : 0 ≤ (x8_2 : Int) := of_decide_eq_true q0_
          have q463 : x8_2 < (x4_5.length : Int) := of_decide_eq_true q0_
          obtain ⟨ad463, e463, hx463_0, hx463_1⟩ := at_T31 (Kd.Q_reads' HO_4.out).2.2 x8_2 p463 q463
          cases e463
          replace p463 := eq_true p463
          replace q463 := eq_true q463
          go_wp2
          go_roundg k2
          case measure => have := HJ5.out; have := HK2.out; omega
          case rel => exact ⟨(x7_2), (wrap64 (x8_2 + 1)), q7_, q7_, H', ⟨by have := HJ5.out; have := HK2.out; omega⟩, ⟨by (with_reducible repeat (first | apply Kd.R_alloc | apply Kd.R_drewN | apply Kd.R_drew)); exact HO_3.out⟩, ⟨by (with_reducible repeat (first | apply Kd.Q_alloc | apply Kd.Q_drewN | apply Kd.Q_drew)); exact HO_4.out⟩, ⟨by (with_reducible repeat (first | apply Kd.R_alloc | apply Kd.R_drewN | apply Kd.R_drew)); exact HO_5.out⟩, ⟨by repeat (first | (with_reducible first | exact HB.out | apply below_alloc | apply pw_below_drewN | apply below_drew1) | exact HB.out)⟩⟩
         ·rw [if_neg c20] at H
          have c20b0 : (((rd_T31 x4_5 x8_2).f0) == 1) = false := beq_eq_false_iff_ne.mpr c20
          have c20b1 : (((rd_T31 x4_5 x8_2).f0) != 1) = true := bne_iff_ne.mpr c20
          have H' := Aside0.mk H
          clear H
          obtain ⟨Ao22, co22, eo22, _⟩ := Kd.Q_slice HO_4.out
          subst eo22
          have p463 : 0 ≤ (x8_2 : Int) := of_decide_eq_true q0_
          have q463 : x8_2 < (x4_5.length : Int) := of_decide_eq_true q0_
          obtain ⟨ad463, e463, hx463_0, hx463_1⟩ := at_T31 (Kd.Q_reads' HO_4.out).2.2 x8_2 p463 q463
          cases e463
          replace p463 := eq_true p463
          replace q463 := eq_true q463
          go_wp2
          go_roundg k2
          case measure => have := HJ5.out; have := HK2.out; omega
          case rel => exact ⟨(wrap64 (x7_2 + 1)), (wrap64 (x8_2 + 1)), q7_, q7_, H', ⟨by have := HJ5.out; have := HK2.out; omega⟩, ⟨by (with_reducible repeat (first | apply Kd.R_alloc | apply Kd.R_drewN | apply Kd.R_drew)); exact HO_3.out⟩, ⟨by (with_reducible repeat (first | apply Kd.Q_alloc | apply Kd.Q_drewN | apply Kd.Q_drew)); exact HO_4.out⟩, ⟨by (with_reducible repeat (first | apply Kd.R_alloc | apply Kd.R_drewN | apply Kd.R_drew)); exact HO_5.out⟩, ⟨by repeat (first | (with_reducible first | exact HB.out | apply below_alloc | apply pw_below_drewN | apply below_drew1) | exact HB.out)⟩⟩
        ·rw [if_neg c18] at H
         have c18b0 : decide (x8_2 < (x4_5.length : Int)) = false := decide_eq_false c18
         clear c18
         replace H := Option.bind_eq_some_iff.mp H
         obtain ⟨⟨t464, t465⟩, A230, H⟩ := H
         replace H : ((impl_Distance.f k2 x3_5 x5_5).bind fun t468 => (if t465 = true then ((laws_sameTexts.f k2 t464 x5_5).bind fun t469 => (if t469 = true then (if t468 ≥ 0 then (if t468 ≤ x7_2 then ((impl_Back.f k2 x4_5).bind fun t470 => ((impl_Back.f k2 t470).bind fun t473 => ((laws_sameEdits.f k2 t473 x4_5).bind fun t476 => (some t476)))) else (some false)) else (some false)) else (some false))) else (some false))) = some r := H
         have A23 := Aside0.mk A230
         clear A230
         replace H := Option.bind_eq_some_iff.mp H
         obtain ⟨t468, A240, H⟩ := H
         replace H : (if t465 = true then ((laws_sameTexts.f k2 t464 x5_5).bind fun t469 => (if t469 = true then (if t468 ≥ 0 then (if t468 ≤ x7_2 then ((impl_Back.f k2 x4_5).bind fun t470 => ((impl_Back.f k2 t470).bind fun t473 => ((laws_sameEdits.f k2 t473 x4_5).bind fun t476 => (some t476)))) else (some false)) else (some false)) else (some false))) else (some false)) = some r := H
         have A24 := Aside0.mk A240
         clear A240
         by_cases c25 : t465 = true
         ·subst c25
          have H1 : ((laws_sameTexts.f k2 t464 x5_5).bind fun t469 => (if t469 = true then (if t468 ≥ 0 then (if t468 ≤ x7_2 then ((impl_Back.f k2 x4_5).bind fun t470 => ((impl_Back.f k2 t470).bind fun t473 => ((laws_sameEdits.f k2 t473 x4_5).bind fun t476 => (some t476)))) else (some false)) else (some false)) else (some false))) = some r := by rw [if_pos rfl] at H; exact H
          clear H
          have H := H1
          clear H1
          replace H := Option.bind_eq_some_iff.mp H
          obtain ⟨t469, A260, H⟩ := H
          replace H : (if t469 = true then (if t468 ≥ 0 then (if t468 ≤ x7_2 then ((impl_Back.f k2 x4_5).bind fun t470 => ((impl_Back.f k2 t470).bind fun t473 => ((laws_sameEdits.f k2 t473 x4_5).bind fun t476 => (some t476)))) else (some false)) else (some false)) else (some false)) = some r := H
          have A26 := Aside0.mk A260
          clear A260
          by_cases c27 : t469 = true
          ·subst c27
           have H1 : (if t468 ≥ 0 then (if t468 ≤ x7_2 then ((impl_Back.f k2 x4_5).bind fun t470 => ((impl_Back.f k2 t470).bind fun t473 => ((laws_sameEdits.f k2 t473 x4_5).bind fun t476 => (some t476)))) else (some false)) else (some false)) = some r := by rw [if_pos rfl] at H; exact H
           clear H
           have H := H1
           clear H1
           by_cases c28 : t468 ≥ 0
           ·rw [if_pos c28] at H
            have c28b0 : decide (0 ≤ t468) = true := decide_eq_true c28
            clear c28
            by_cases c29 : t468 ≤ x7_2
            ·rw [if_pos c29] at H
             have c29b0 : decide (t468 ≤ x7_2) = true := decide_eq_true c29
             clear c29
             replace H := Option.bind_eq_some_iff.mp H
             obtain ⟨t470, A300, H⟩ := H
             replace H : ((impl_Back.f k2 t470).bind fun t473 => ((laws_sameEdits.f k2 t473 x4_5).bind fun t476 => (some t476))) = some r := H
             have A30 := Aside0.mk A300
             clear A300
             replace H := Option.bind_eq_some_iff.mp H
             obtain ⟨t473, A310, H⟩ := H
             replace H : ((laws_sameEdits.f k2 t473 x4_5).bind fun t476 => (some t476)) = some r := H
             have A31 := Aside0.mk A310
             clear A310
             replace H := Option.bind_eq_some_iff.mp H
             obtain ⟨t476, A320, H⟩ := H
             replace H : (some t476) = some r := H
             have A32 := Aside0.mk A320
             clear A320
             obtain rfl := Option.some.inj H
             obtain ⟨Ao33, co33, eo33, _⟩ := Kd.Q_slice HO_4.out
             subst eo33
             obtain ⟨Ao34, co34, eo34⟩ := Kd.R_slice HO_3.out
             subst eo34
             go_wp2_with (first | ((with_reducible refine gate_callee (f := 17) rfl ?_); refine goesL_ (some 49) rfl rfl Try.func17 (by kernel_rfl) rfl #[.slice Ao34 x3_5.length co34, .slice Ao33 x4_5.length co33] rfl q5_ ?_; (with_reducible refine (impl_Apply.calls k2 _ _ x3_5 _ _ x4_5 t464 true _ ?side1 ?side2 ?side3 ?side4 A23.out).mono ?_); (case side1 => exact q14_); (case side2 => exact (Kd.R_reads' HO_3.out).2.1); (case side3 => exact q23_); (case side4 => exact (Kd.Q_reads' HO_4.out).2.1); rintro e w35 ⟨v466, rfl, ho0, hb⟩; refine ⟨_, rfl, ?_⟩; have n0_ := Aside0.mk (Kd.R_elder' q10_ (Kd.R_base ho0) hb); have n1_ := Aside0.mk (Kd.Q_below q18_ hb); have n2_ := Aside0.mk (Kd.R_elder' q6_ (Kd.R_base ho0) hb); have n3_ := Aside0.mk (Kd.R_lower (Kd.R_new' (Kd.R_new' ho0 (Kd.R_lt q10_)) (Kd.R_lt q6_)) (below_size q2_)); have n4_ := Aside0.mk (below_step q2_ hb); clear HO_3; clear HO_4; clear HO_5; clear HB; have HO_3 := n0_; have HO_4 := n1_; have HO_5 := n2_; have HO467 := n3_; have HB := n4_; clear n0_ n1_ n2_ n3_ n4_; (try clear hb); (try clear hb2); (try clear hk); (try clear hi); (try clear ho0); obtain ⟨Ao36, co36, eo36⟩ := Kd.R_slice HO_5.out; subst eo36) | ((with_reducible refine gate_callee (f := 18) rfl ?_); refine goesL_ (some 54) rfl rfl Try.func18 (by kernel_rfl) rfl #[.slice Ao34 x3_5.length co34, .slice Ao36 x5_5.length co36] rfl q5_ ?_; (with_reducible refine (impl_Distance.calls k2 _ _ x3_5 _ _ x5_5 t468 _ ?side1 ?side2 ?side3 ?side4 A24.out).mono ?_); (case side1 => exact q14_); (case side2 => exact (Kd.R_reads' HO_3.out).2.1); (case side3 => exact q17_); (case side4 => exact (Kd.R_reads' HO_5.out).2.1); rintro e w37 ⟨rfl, hb⟩; refine ⟨_, rfl, ?_⟩; have n0_ := Aside0.mk (Kd.R_below q10_ hb); have n1_ := Aside0.mk (Kd.Q_below q18_ hb); have n2_ := Aside0.mk (Kd.R_below q6_ hb); have n3_ := Aside0.mk (Kd.R_below q33_ hb); have n4_ := Aside0.mk (below_step q2_ hb); clear HO_3; clear HO_4; clear HO_5; clear HO467; clear HB; have HO_3 := n0_; have HO_4 := n1_; have HO_5 := n2_; have HO467 := n3_; have HB := n4_; clear n0_ n1_ n2_ n3_ n4_; (try clear hb); (try clear hb2); (try clear hk); (try clear hi); obtain ⟨Ao38, co38, eo38⟩ := Kd.R_slice HO467.out; subst eo38) | (go_at_call 19; (try simp only [i64_w]); (with_reducible refine (laws_sameTexts.calls k2 _ _ t464 _ _ x5_5 true _ ?side1 ?side2 ?side3 ?side4 A26.out).mono ?_); (case side1 => exact q34_); (case side2 => exact (Kd.R_reads' HO467.out).2.1); (case side3 => exact q17_); (case side4 => exact (Kd.R_reads' HO_5.out).2.1); rintro e w' ⟨rfl, ⟨nd, rfl⟩⟩) | (go_at_call 21; (try simp only [i64_w]); (with_reducible refine (impl_Back.calls k2 _ _ x4_5 t470 _ ?side1 ?side2 A30.out).mono ?_); (case side1 => exact q23_); (case side2 => exact (Kd.Q_reads' HO_4.out).2.1); rintro e w39 ⟨v471, rfl, ho0, hb⟩; have n0_ := Aside0.mk (Kd.R_below q10_ hb); have n1_ := Aside0.mk (Kd.Q_elder' q18_ (Kd.R_base ho0) hb); have n2_ := Aside0.mk (Kd.R_below q6_ hb); have n3_ := Aside0.mk (Kd.R_below q33_ hb); have n4_ := Aside0.mk (Kd.R_lower (Kd.R_new' ho0 (Kd.Q_lt q18_)) (below_size q2_)); have n5_ := Aside0.mk (below_step q2_ hb); clear HO_3; clear HO_4; clear HO_5; clear HO467; clear HB; have HO_3 := n0_; have HO_4 := n1_; have HO_5 := n2_; have HO467 := n3_; have HO472 := n4_; have HB := n5_; clear n0_ n1_ n2_ n3_ n4_ n5_; (try clear hb); (try clear hb2); (try clear hk); (try clear hi); (try clear ho0); obtain ⟨Ao40, co40, eo40⟩ := Kd.R_slice HO472.out; subst eo40) | (go_at_call 21; (try simp only [i64_w]); (with_reducible refine (impl_Back.calls k2 _ _ t470 t473 _ ?side1 ?side2 A31.out).mono ?_); (case side1 => exact (by repeat (first | exact (Kd.R_reads' HO472.out).2.2 | (with_reducible refine Kd.C_alloc ?_ _) | (with_reducible refine Kd.C_drewN ?_ _) | (with_reducible refine Kd.C_drew ?_)))); (case side2 => exact (Kd.R_reads' HO472.out).2.1); rintro e w41 ⟨v474, rfl, ho0, hb⟩; have n0_ := Aside0.mk (Kd.R_below q10_ hb); have n1_ := Aside0.mk (Kd.Q_elder' q18_ (Kd.R_base ho0) hb); have n2_ := Aside0.mk (Kd.R_below q6_ hb); have n3_ := Aside0.mk (Kd.R_below q33_ hb); have n4_ := Aside0.mk (Kd.R_elder' (by (with_reducible repeat (first | apply Kd.R_alloc | apply Kd.R_drewN | apply Kd.R_drew)); exact HO472.out) (Kd.R_base ho0) hb); have n5_ := Aside0.mk (Kd.R_lower (Kd.R_new' (Kd.R_new' ho0 (Kd.Q_lt q18_)) (Kd.R_lt (by (with_reducible repeat (first | apply Kd.R_alloc | apply Kd.R_drewN | apply Kd.R_drew)); exact HO472.out))) (below_size q2_)); have n6_ := Aside0.mk (below_step q2_ hb); clear HO_3; clear HO_4; clear HO_5; clear HO467; clear HO472; clear HB; have HO_3 := n0_; have HO_4 := n1_; have HO_5 := n2_; have HO467 := n3_; have HO472 := n4_; have HO475 := n5_; have HB := n6_; clear n0_ n1_ n2_ n3_ n4_ n5_ n6_; (try clear hb); (try clear hb2); (try clear hk); (try clear hi); (try clear ho0); obtain ⟨Ao42, co42, eo42⟩ := Kd.R_slice HO475.out; subst eo42) | (go_at_call 20; (try simp only [i64_w]); (with_reducible refine (laws_sameEdits.calls k2 _ _ t473 _ _ x4_5 t476 _ ?side1 ?side2 ?side3 ?side4 A32.out).mono ?_); (case side1 => exact (by repeat (first | exact (Kd.R_reads' HO475.out).2.2 | (with_reducible refine Kd.C_alloc ?_ _) | (with_reducible refine Kd.C_drewN ?_ _) | (with_reducible refine Kd.C_drew ?_)))); (case side2 => exact (Kd.R_reads' HO475.out).2.1); (case side3 => exact q23_); (case side4 => exact (Kd.Q_reads' HO_4.out).2.1); rintro e w' ⟨rfl, ⟨nd, rfl⟩⟩))
             go_ret
             exact ⟨by first | rfl | (simp [errW_none, errW_some] <;> rfl) | (simp [*, errW_none, errW_some] <;> rfl), by repeat (first | (with_reducible first | exact HB.out | apply below_alloc | apply pw_below_drewN | apply below_drew1) | exact HB.out)⟩
            ·rw [if_neg c29] at H
             have c29b0 : decide (t468 ≤ x7_2) = false := decide_eq_false c29
             clear c29
             obtain rfl := Option.some.inj H
             obtain ⟨Ao43, co43, eo43, _⟩ := Kd.Q_slice HO_4.out
             subst eo43
             obtain ⟨Ao44, co44, eo44⟩ := Kd.R_slice HO_3.out
             subst eo44
             go_wp2_with (first | ((with_reducible refine gate_callee (f := 17) rfl ?_); refine goesL_ (some 49) rfl rfl Try.func17 (by kernel_rfl) rfl #[.slice Ao44 x3_5.length co44, .slice Ao43 x4_5.length co43] rfl q5_ ?_; (with_reducible refine (impl_Apply.calls k2 _ _ x3_5 _ _ x4_5 t464 true _ ?side1 ?side2 ?side3 ?side4 A23.out).mono ?_); (case side1 => exact q14_); (case side2 => exact (Kd.R_reads' HO_3.out).2.1); (case side3 => exact q23_); (case side4 => exact (Kd.Q_reads' HO_4.out).2.1); rintro e w45 ⟨v466, rfl, ho0, hb⟩; refine ⟨_, rfl, ?_⟩; have n0_ := Aside0.mk (Kd.R_elder' q10_ (Kd.R_base ho0) hb); have n1_ := Aside0.mk (Kd.Q_below q18_ hb); have n2_ := Aside0.mk (Kd.R_elder' q6_ (Kd.R_base ho0) hb); have n3_ := Aside0.mk (Kd.R_lower (Kd.R_new' (Kd.R_new' ho0 (Kd.R_lt q10_)) (Kd.R_lt q6_)) (below_size q2_)); have n4_ := Aside0.mk (below_step q2_ hb); clear HO_3; clear HO_4; clear HO_5; clear HB; have HO_3 := n0_; have HO_4 := n1_; have HO_5 := n2_; have HO467 := n3_; have HB := n4_; clear n0_ n1_ n2_ n3_ n4_; (try clear hb); (try clear hb2); (try clear hk); (try clear hi); (try clear ho0); obtain ⟨Ao46, co46, eo46⟩ := Kd.R_slice HO_5.out; subst eo46) | ((with_reducible refine gate_callee (f := 18) rfl ?_); refine goesL_ (some 54) rfl rfl Try.func18 (by kernel_rfl) rfl #[.slice Ao44 x3_5.length co44, .slice Ao46 x5_5.length co46] rfl q5_ ?_; (with_reducible refine (impl_Distance.calls k2 _ _ x3_5 _ _ x5_5 t468 _ ?side1 ?side2 ?side3 ?side4 A24.out).mono ?_); (case side1 => exact q14_); (case side2 => exact (Kd.R_reads' HO_3.out).2.1); (case side3 => exact q17_); (case side4 => exact (Kd.R_reads' HO_5.out).2.1); rintro e w47 ⟨rfl, hb⟩; refine ⟨_, rfl, ?_⟩; have n0_ := Aside0.mk (Kd.R_below q10_ hb); have n1_ := Aside0.mk (Kd.Q_below q18_ hb); have n2_ := Aside0.mk (Kd.R_below q6_ hb); have n3_ := Aside0.mk (Kd.R_below q33_ hb); have n4_ := Aside0.mk (below_step q2_ hb); clear HO_3; clear HO_4; clear HO_5; clear HO467; clear HB; have HO_3 := n0_; have HO_4 := n1_; have HO_5 := n2_; have HO467 := n3_; have HB := n4_; clear n0_ n1_ n2_ n3_ n4_; (try clear hb); (try clear hb2); (try clear hk); (try clear hi); obtain ⟨Ao48, co48, eo48⟩ := Kd.R_slice HO467.out; subst eo48) | (go_at_call 19; (try simp only [i64_w]); (with_reducible refine (laws_sameTexts.calls k2 _ _ t464 _ _ x5_5 true _ ?side1 ?side2 ?side3 ?side4 A26.out).mono ?_); (case side1 => exact q34_); (case side2 => exact (Kd.R_reads' HO467.out).2.1); (case side3 => exact q17_); (case side4 => exact (Kd.R_reads' HO_5.out).2.1); rintro e w' ⟨rfl, ⟨nd, rfl⟩⟩))
             go_ret
             exact ⟨by first | rfl | (simp [errW_none, errW_some] <;> rfl) | (simp [*, errW_none, errW_some] <;> rfl), by repeat (first | (with_reducible first | exact HB.out | apply below_alloc | apply pw_below_drewN | apply below_drew1) | exact HB.out)⟩
           ·rw [if_neg c28] at H
            have c28b0 : decide (0 ≤ t468) = false := decide_eq_false c28
            clear c28
            obtain rfl := Option.some.inj H
            obtain ⟨Ao49, co49, eo49, _⟩ := Kd.Q_slice HO_4.out
            subst eo49
            obtain ⟨Ao50, co50, eo50⟩ := Kd.R_slice HO_3.out
            subst eo50
            go_wp2_with (first | ((with_reducible refine gate_callee (f := 17) rfl ?_); refine goesL_ (some 49) rfl rfl Try.func17 (by kernel_rfl) rfl #[.slice Ao50 x3_5.length co50, .slice Ao49 x4_5.length co49] rfl q5_ ?_; (with_reducible refine (impl_Apply.calls k2 _ _ x3_5 _ _ x4_5 t464 true _ ?side1 ?side2 ?side3 ?side4 A23.out).mono ?_); (case side1 => exact q14_); (case side2 => exact (Kd.R_reads' HO_3.out).2.1); (case side3 => exact q23_); (case side4 => exact (Kd.Q_reads' HO_4.out).2.1); rintro e w51 ⟨v466, rfl, ho0, hb⟩; refine ⟨_, rfl, ?_⟩; have n0_ := Aside0.mk (Kd.R_elder' q10_ (Kd.R_base ho0) hb); have n1_ := Aside0.mk (Kd.Q_below q18_ hb); have n2_ := Aside0.mk (Kd.R_elder' q6_ (Kd.R_base ho0) hb); have n3_ := Aside0.mk (Kd.R_lower (Kd.R_new' (Kd.R_new' ho0 (Kd.R_lt q10_)) (Kd.R_lt q6_)) (below_size q2_)); have n4_ := Aside0.mk (below_step q2_ hb); clear HO_3; clear HO_4; clear HO_5; clear HB; have HO_3 := n0_; have HO_4 := n1_; have HO_5 := n2_; have HO467 := n3_; have HB := n4_; clear n0_ n1_ n2_ n3_ n4_; (try clear hb); (try clear hb2); (try clear hk); (try clear hi); (try clear ho0); obtain ⟨Ao52, co52, eo52⟩ := Kd.R_slice HO_5.out; subst eo52) | ((with_reducible refine gate_callee (f := 18) rfl ?_); refine goesL_ (some 54) rfl rfl Try.func18 (by kernel_rfl) rfl #[.slice Ao50 x3_5.length co50, .slice Ao52 x5_5.length co52] rfl q5_ ?_; (with_reducible refine (impl_Distance.calls k2 _ _ x3_5 _ _ x5_5 t468 _ ?side1 ?side2 ?side3 ?side4 A24.out).mono ?_); (case side1 => exact q14_); (case side2 => exact (Kd.R_reads' HO_3.out).2.1); (case side3 => exact q17_); (case side4 => exact (Kd.R_reads' HO_5.out).2.1); rintro e w53 ⟨rfl, hb⟩; refine ⟨_, rfl, ?_⟩; have n0_ := Aside0.mk (Kd.R_below q10_ hb); have n1_ := Aside0.mk (Kd.Q_below q18_ hb); have n2_ := Aside0.mk (Kd.R_below q6_ hb); have n3_ := Aside0.mk (Kd.R_below q33_ hb); have n4_ := Aside0.mk (below_step q2_ hb); clear HO_3; clear HO_4; clear HO_5; clear HO467; clear HB; have HO_3 := n0_; have HO_4 := n1_; have HO_5 := n2_; have HO467 := n3_; have HB := n4_; clear n0_ n1_ n2_ n3_ n4_; (try clear hb); (try clear hb2); (try clear hk); (try clear hi); obtain ⟨Ao54, co54, eo54⟩ := Kd.R_slice HO467.out; subst eo54) | (go_at_call 19; (try simp only [i64_w]); (with_reducible refine (laws_sameTexts.calls k2 _ _ t464 _ _ x5_5 true _ ?side1 ?side2 ?side3 ?side4 A26.out).mono ?_); (case side1 => exact q34_); (case side2 => exact (Kd.R_reads' HO467.out).2.1); (case side3 => exact q17_); (case side4 => exact (Kd.R_reads' HO_5.out).2.1); rintro e w' ⟨rfl, ⟨nd, rfl⟩⟩))
            go_ret
            exact ⟨by first | rfl | (simp [errW_none, errW_some] <;> rfl) | (simp [*, errW_none, errW_some] <;> rfl), by repeat (first | (with_reducible first | exact HB.out | apply below_alloc | apply pw_below_drewN | apply below_drew1) | exact HB.out)⟩
          ·replace c27 := Bool.eq_false_iff.mpr c27
           subst c27
           have H1 : (some false) = some r := by rw [if_neg (show ¬ (false = true) by decide)] at H; exact H
           clear H
           have H := H1
           clear H1
           obtain rfl := Option.some.inj H
           obtain ⟨Ao55, co55, eo55, _⟩ := Kd.Q_slice HO_4.out
           subst eo55
           obtain ⟨Ao56, co56, eo56⟩ := Kd.R_slice HO_3.out
           subst eo56
           go_wp2_with (first | ((with_reducible refine gate_callee (f := 17) rfl ?_); refine goesL_ (some 49) rfl rfl Try.func17 (by kernel_rfl) rfl #[.slice Ao56 x3_5.length co56, .slice Ao55 x4_5.length co55] rfl q5_ ?_; (with_reducible refine (impl_Apply.calls k2 _ _ x3_5 _ _ x4_5 t464 true _ ?side1 ?side2 ?side3 ?side4 A23.out).mono ?_); (case side1 => exact q14_); (case side2 => exact (Kd.R_reads' HO_3.out).2.1); (case side3 => exact q23_); (case side4 => exact (Kd.Q_reads' HO_4.out).2.1); rintro e w57 ⟨v466, rfl, ho0, hb⟩; refine ⟨_, rfl, ?_⟩; have n0_ := Aside0.mk (Kd.R_elder' q10_ (Kd.R_base ho0) hb); have n1_ := Aside0.mk (Kd.Q_below q18_ hb); have n2_ := Aside0.mk (Kd.R_elder' q6_ (Kd.R_base ho0) hb); have n3_ := Aside0.mk (Kd.R_lower (Kd.R_new' (Kd.R_new' ho0 (Kd.R_lt q10_)) (Kd.R_lt q6_)) (below_size q2_)); have n4_ := Aside0.mk (below_step q2_ hb); clear HO_3; clear HO_4; clear HO_5; clear HB; have HO_3 := n0_; have HO_4 := n1_; have HO_5 := n2_; have HO467 := n3_; have HB := n4_; clear n0_ n1_ n2_ n3_ n4_; (try clear hb); (try clear hb2); (try clear hk); (try clear hi); (try clear ho0); obtain ⟨Ao58, co58, eo58⟩ := Kd.R_slice HO_5.out; subst eo58) | ((with_reducible refine gate_callee (f := 18) rfl ?_); refine goesL_ (some 54) rfl rfl Try.func18 (by kernel_rfl) rfl #[.slice Ao56 x3_5.length co56, .slice Ao58 x5_5.length co58] rfl q5_ ?_; (with_reducible refine (impl_Distance.calls k2 _ _ x3_5 _ _ x5_5 t468 _ ?side1 ?side2 ?side3 ?side4 A24.out).mono ?_); (case side1 => exact q14_); (case side2 => exact (Kd.R_reads' HO_3.out).2.1); (case side3 => exact q17_); (case side4 => exact (Kd.R_reads' HO_5.out).2.1); rintro e w59 ⟨rfl, hb⟩; refine ⟨_, rfl, ?_⟩; have n0_ := Aside0.mk (Kd.R_below q10_ hb); have n1_ := Aside0.mk (Kd.Q_below q18_ hb); have n2_ := Aside0.mk (Kd.R_below q6_ hb); have n3_ := Aside0.mk (Kd.R_below q33_ hb); have n4_ := Aside0.mk (below_step q2_ hb); clear HO_3; clear HO_4; clear HO_5; clear HO467; clear HB; have HO_3 := n0_; have HO_4 := n1_; have HO_5 := n2_; have HO467 := n3_; have HB := n4_; clear n0_ n1_ n2_ n3_ n4_; (try clear hb); (try clear hb2); (try clear hk); (try clear hi); obtain ⟨Ao60, co60, eo60⟩ := Kd.R_slice HO467.out; subst eo60) | (go_at_call 19; (try simp only [i64_w]); (with_reducible refine (laws_sameTexts.calls k2 _ _ t464 _ _ x5_5 false _ ?side1 ?side2 ?side3 ?side4 A26.out).mono ?_); (case side1 => exact q34_); (case side2 => exact (Kd.R_reads' HO467.out).2.1); (case side3 => exact q17_); (case side4 => exact (Kd.R_reads' HO_5.out).2.1); rintro e w' ⟨rfl, ⟨nd, rfl⟩⟩))
           go_ret
           exact ⟨by first | rfl | (simp [errW_none, errW_some] <;> rfl) | (simp [*, errW_none, errW_some] <;> rfl), by repeat (first | (with_reducible first | exact HB.out | apply below_alloc | apply pw_below_drewN | apply below_drew1) | exact HB.out)⟩
         ·replace c25 := Bool.eq_false_iff.mpr c25
          subst c25
          have H1 : (some false) = some r := by rw [if_neg (show ¬ (false = true) by decide)] at H; exact H
          clear H
          have H := H1
          clear H1
          obtain rfl := Option.some.inj H
          obtain ⟨Ao61, co61, eo61, _⟩ := Kd.Q_slice HO_4.out
          subst eo61
          obtain ⟨Ao62, co62, eo62⟩ := Kd.R_slice HO_3.out
          subst eo62
          go_wp2_with (first | ((with_reducible refine gate_callee (f := 17) rfl ?_); refine goesL_ (some 49) rfl rfl Try.func17 (by kernel_rfl) rfl #[.slice Ao62 x3_5.length co62, .slice Ao61 x4_5.length co61] rfl q5_ ?_; (with_reducible refine (impl_Apply.calls k2 _ _ x3_5 _ _ x4_5 t464 false _ ?side1 ?side2 ?side3 ?side4 A23.out).mono ?_); (case side1 => exact q14_); (case side2 => exact (Kd.R_reads' HO_3.out).2.1); (case side3 => exact q23_); (case side4 => exact (Kd.Q_reads' HO_4.out).2.1); rintro e w63 ⟨v466, rfl, ho0, hb⟩; refine ⟨_, rfl, ?_⟩; have n0_ := Aside0.mk (Kd.R_elder' q10_ (Kd.R_base ho0) hb); have n1_ := Aside0.mk (Kd.Q_below q18_ hb); have n2_ := Aside0.mk (Kd.R_elder' q6_ (Kd.R_base ho0) hb); have n3_ := Aside0.mk (Kd.R_lower (Kd.R_new' (Kd.R_new' ho0 (Kd.R_lt q10_)) (Kd.R_lt q6_)) (below_size q2_)); have n4_ := Aside0.mk (below_step q2_ hb); clear HO_3; clear HO_4; clear HO_5; clear HB; have HO_3 := n0_; have HO_4 := n1_; have HO_5 := n2_; have HO467 := n3_; have HB := n4_; clear n0_ n1_ n2_ n3_ n4_; (try clear hb); (try clear hb2); (try clear hk); (try clear hi); (try clear ho0); obtain ⟨Ao64, co64, eo64⟩ := Kd.R_slice HO_5.out; subst eo64) | ((with_reducible refine gate_callee (f := 18) rfl ?_); refine goesL_ (some 54) rfl rfl Try.func18 (by kernel_rfl) rfl #[.slice Ao62 x3_5.length co62, .slice Ao64 x5_5.length co64] rfl q5_ ?_; (with_reducible refine (impl_Distance.calls k2 _ _ x3_5 _ _ x5_5 t468 _ ?side1 ?side2 ?side3 ?side4 A24.out).mono ?_); (case side1 => exact q14_); (case side2 => exact (Kd.R_reads' HO_3.out).2.1); (case side3 => exact q17_); (case side4 => exact (Kd.R_reads' HO_5.out).2.1); rintro e w65 ⟨rfl, hb⟩; refine ⟨_, rfl, ?_⟩; have n0_ := Aside0.mk (Kd.R_below q10_ hb); have n1_ := Aside0.mk (Kd.Q_below q18_ hb); have n2_ := Aside0.mk (Kd.R_below q6_ hb); have n3_ := Aside0.mk (Kd.R_below q33_ hb); have n4_ := Aside0.mk (below_step q2_ hb); clear HO_3; clear HO_4; clear HO_5; clear HO467; clear HB; have HO_3 := n0_; have HO_4 := n1_; have HO_5 := n2_; have HO467 := n3_; have HB := n4_; clear n0_ n1_ n2_ n3_ n4_; (try clear hb); (try clear hb2); (try clear hk); (try clear hi)))
          go_ret
          exact ⟨by first | rfl | (simp [errW_none, errW_some] <;> rfl) | (simp [*, errW_none, errW_some] <;> rfl), by repeat (first | (with_reducible first | exact HB.out | apply below_alloc | apply pw_below_drewN | apply below_drew1) | exact HB.out)⟩
/-- What is left of laws_FnLeast. -/
def laws_FnLeast.Pure : Prop := ∀ (l0 : List Int), (l0.length * 1 ≤ 140737488351232 ∧ ∀ x0 ∈ l0, (Lit.int .u8 x0).wf = true) → ∃ k, laws_FnLeast.f k l0 = some true

end Go.Proofs.Ytjdjcbjeklliaaa.PFnLeast
-- (flat)
-- (thin)
