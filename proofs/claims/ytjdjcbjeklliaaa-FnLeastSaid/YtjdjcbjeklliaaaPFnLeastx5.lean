-- Made by a program (the kit's print with additions of this session: wip/tools/patch_print.py, ext.py).
-- (turned)
import Derived.Test.YtjdjcbjeklliaaaPFnLeastx0
import Derived.Test.YtjdjcbjeklliaaaPFnLeastx3
import Derived.Test.YtjdjcbjeklliaaaPFnLeastx4
namespace Go.Proofs.Ytjdjcbjeklliaaa.PFnLeast
open Go.RowKit Go.Proofs.YtjdjcbjeklliaaaW.PrintWords Go.Proofs.YtjdjcbjeklliaaaW.PrintLast Go.Proofs.YtjdjcbjeklliaaaW.PrintMore
attribute [local go_sem] max2_int min2_int max_two min_two max_three min_three max_four min_four   -- for this text's walks alone
set_option linter.unusedVariables false
set_option linter.unusedSimpArgs false

/-! ### spec_EditsOf: function 102 -/
mutual
def spec_EditsOf.j0 : Nat → List ByteArray → List ByteArray → List (S31) → Bool → Option ((List (S31)))
  | 0, _, _, _, _ => none
  | k + 1, x0, x1, x5, x17 => if x17 = true then (some x5) else ((spec_l04Table.f k x0 x1).bind fun t267 => (spec_EditsOf.l0 k x0 x1 x5 t267 0 0))
def spec_EditsOf.l0 : Nat → List ByteArray → List ByteArray → List (S31) → List (List Int) → Int → Int → Option ((List (S31)))
  | 0, _, _, _, _, _, _ => none
  | k + 1, x0, x1, x5, x6, x7, x8 => if x7 < (x0.length : Int) then (spec_EditsOf.j2 k x0 x1 x5 x6 x7 x8 true) else (spec_EditsOf.j2 k x0 x1 x5 x6 x7 x8 (decide (x8 < (x1.length : Int))))
def spec_EditsOf.j2 : Nat → List ByteArray → List ByteArray → List (S31) → List (List Int) → Int → Int → Bool → Option ((List (S31)))
  | 0, _, _, _, _, _, _, _ => none
  | k + 1, x0, x1, x5, x6, x7, x8, x31 => if x31 = true then (if x7 < (x0.length : Int) then (if x8 < (x1.length : Int) then (if 0 ≤ x7 then (if 0 ≤ x8 then (spec_EditsOf.j3 k x0 x1 x5 x6 x7 x8 ((rdOf ByteArray.empty x0 x7).toList == (rdOf ByteArray.empty x1 x8).toList)) else (none)) else (none)) else (spec_EditsOf.j3 k x0 x1 x5 x6 x7 x8 false)) else (spec_EditsOf.j3 k x0 x1 x5 x6 x7 x8 false)) else (some x5)
def spec_EditsOf.j3 : Nat → List ByteArray → List ByteArray → List (S31) → List (List Int) → Int → Int → Bool → Option ((List (S31)))
  | 0, _, _, _, _, _, _, _ => none
  | k + 1, x0, x1, x5, x6, x7, x8, x52 => if x52 = true then (if 0 ≤ x7 then (if x7 < (x0.length : Int) then (if x5.length < 5864062014805 then (spec_EditsOf.l0 k x0 x1 (x5 ++ [(⟨1, rdOf ByteArray.empty x0 x7⟩ : S31)]) x6 (wrap64 (x7 + 1)) (wrap64 (x8 + 1))) else (none)) else (none)) else (none)) else (if x8 = (x1.length : Int) then (if 0 ≤ x7 then (if x7 < (x0.length : Int) then (if x5.length < 5864062014805 then (spec_EditsOf.l0 k x0 x1 (x5 ++ [(⟨2, rdOf ByteArray.empty x0 x7⟩ : S31)]) x6 (wrap64 (x7 + 1)) x8) else (none)) else (none)) else (none)) else (if x7 < (x0.length : Int) then (if 0 ≤ (wrap64 (x7 + 1)) then (if (wrap64 (x7 + 1)) < (x6.length : Int) then (if 0 ≤ x8 then (if x8 < ((rd_L3 x6 (wrap64 (x7 + 1))).length : Int) then (if 0 ≤ x7 then (if x7 < (x6.length : Int) then (if 0 ≤ (wrap64 (x8 + 1)) then (if (wrap64 (x8 + 1)) < ((rd_L3 x6 x7).length : Int) then (if (rd (rd_L3 x6 (wrap64 (x7 + 1))) x8) ≥ (rd (rd_L3 x6 x7) (wrap64 (x8 + 1))) then (if x5.length < 5864062014805 then (spec_EditsOf.l0 k x0 x1 (x5 ++ [(⟨2, rdOf ByteArray.empty x0 x7⟩ : S31)]) x6 (wrap64 (x7 + 1)) x8) else (none)) else (if x8 < (x1.length : Int) then (if x5.length < 5864062014805 then (spec_EditsOf.l0 k x0 x1 (x5 ++ [(⟨3, rdOf ByteArray.empty x1 x8⟩ : S31)]) x6 x7 (wrap64 (x8 + 1))) else (none)) else (none))) else (none)) else (none)) else (none)) else (none)) else (none)) else (none)) else (none)) else (none)) else (if 0 ≤ x8 then (if x8 < (x1.length : Int) then (if x5.length < 5864062014805 then (spec_EditsOf.l0 k x0 x1 (x5 ++ [(⟨3, rdOf ByteArray.empty x1 x8⟩ : S31)]) x6 x7 (wrap64 (x8 + 1))) else (none)) else (none)) else (none))))
end
def spec_EditsOf.f (k : Nat) (l0 : List ByteArray) (l1 : List ByteArray) : Option ((List (S31))) := (some (([] : List (S31)) : List (S31))).bind fun y262 => ((spec_l04Ok.f k l0).bind fun t265 => (if t265 = true then ((spec_l04Ok.f k l1).bind fun t266 => (spec_EditsOf.j0 k l0 l1 y262 (!t266))) else (spec_EditsOf.j0 k l0 l1 y262 true)))
theorem spec_EditsOf.mono_l : ∀ k, (∀ y0 y1 y2 y3, LeO (spec_EditsOf.j0 k y0 y1 y2 y3) (spec_EditsOf.j0 (k + 1) y0 y1 y2 y3)) ∧ (∀ y0 y1 y2 y3 y4 y5, LeO (spec_EditsOf.l0 k y0 y1 y2 y3 y4 y5) (spec_EditsOf.l0 (k + 1) y0 y1 y2 y3 y4 y5)) ∧ (∀ y0 y1 y2 y3 y4 y5 y6, LeO (spec_EditsOf.j2 k y0 y1 y2 y3 y4 y5 y6) (spec_EditsOf.j2 (k + 1) y0 y1 y2 y3 y4 y5 y6)) ∧ (∀ y0 y1 y2 y3 y4 y5 y6, LeO (spec_EditsOf.j3 k y0 y1 y2 y3 y4 y5 y6) (spec_EditsOf.j3 (k + 1) y0 y1 y2 y3 y4 y5 y6))
  | 0 => ⟨fun _ _ _ _ r h => by simp [spec_EditsOf.j0] at h, fun _ _ _ _ _ _ r h => by simp [spec_EditsOf.l0] at h, fun _ _ _ _ _ _ _ r h => by simp [spec_EditsOf.j2] at h, fun _ _ _ _ _ _ _ r h => by simp [spec_EditsOf.j3] at h⟩
  | k + 1 => by
    obtain ⟨ih0, ih1, ih2, ih3⟩ := spec_EditsOf.mono_l k
    refine ⟨?_, ?_, ?_, ?_⟩
    ·intro y0 y1 y2 y3
     unfold spec_EditsOf.j0
     repeat' first
     | (with_reducible exact ih0 _ _ _ _)
     | (with_reducible exact ih1 _ _ _ _ _ _)
     | (with_reducible exact ih2 _ _ _ _ _ _ _)
     | (with_reducible exact ih3 _ _ _ _ _ _ _)
     | (with_reducible exact spec_l04Ok.mono _ _)
     | (with_reducible exact spec_l04Table.mono _ _ _)
     | (with_reducible exact LeO.refl _)
     | (with_reducible exact LeO.none _)
     | (with_reducible refine LeO.ite ?_ ?_)
     | (with_reducible refine LeO.bind ?_ (fun _ => ?_))
     | exact ih0 _ _ _ _
     | exact ih1 _ _ _ _ _ _
     | exact ih2 _ _ _ _ _ _ _
     | exact ih3 _ _ _ _ _ _ _
     | exact spec_l04Ok.mono _ _
     | exact spec_l04Table.mono _ _ _
     | exact LeO.none _
     | refine LeO.ite ?_ ?_
     | refine LeO.bind ?_ (fun _ => ?_)
    ·intro y0 y1 y2 y3 y4 y5
     unfold spec_EditsOf.l0
     repeat' first
     | (with_reducible exact ih0 _ _ _ _)
     | (with_reducible exact ih1 _ _ _ _ _ _)
     | (with_reducible exact ih2 _ _ _ _ _ _ _)
     | (with_reducible exact ih3 _ _ _ _ _ _ _)
     | (with_reducible exact spec_l04Ok.mono _ _)
     | (with_reducible exact spec_l04Table.mono _ _ _)
     | (with_reducible exact LeO.refl _)
     | (with_reducible exact LeO.none _)
     | (with_reducible refine LeO.ite ?_ ?_)
     | (with_reducible refine LeO.bind ?_ (fun _ => ?_))
     | exact ih0 _ _ _ _
     | exact ih1 _ _ _ _ _ _
     | exact ih2 _ _ _ _ _ _ _
     | exact ih3 _ _ _ _ _ _ _
     | exact spec_l04Ok.mono _ _
     | exact spec_l04Table.mono _ _ _
     | exact LeO.none _
     | refine LeO.ite ?_ ?_
     | refine LeO.bind ?_ (fun _ => ?_)
    ·intro y0 y1 y2 y3 y4 y5 y6
     unfold spec_EditsOf.j2
     repeat' first
     | (with_reducible exact ih0 _ _ _ _)
     | (with_reducible exact ih1 _ _ _ _ _ _)
     | (with_reducible exact ih2 _ _ _ _ _ _ _)
     | (with_reducible exact ih3 _ _ _ _ _ _ _)
     | (with_reducible exact spec_l04Ok.mono _ _)
     | (with_reducible exact spec_l04Table.mono _ _ _)
     | (with_reducible exact LeO.refl _)
     | (with_reducible exact LeO.none _)
     | (with_reducible refine LeO.ite ?_ ?_)
     | (with_reducible refine LeO.bind ?_ (fun _ => ?_))
     | exact ih0 _ _ _ _
     | exact ih1 _ _ _ _ _ _
     | exact ih2 _ _ _ _ _ _ _
     | exact ih3 _ _ _ _ _ _ _
     | exact spec_l04Ok.mono _ _
     | exact spec_l04Table.mono _ _ _
     | exact LeO.none _
     | refine LeO.ite ?_ ?_
     | refine LeO.bind ?_ (fun _ => ?_)
    ·intro y0 y1 y2 y3 y4 y5 y6
     unfold spec_EditsOf.j3
     repeat' first
     | (with_reducible exact ih0 _ _ _ _)
     | (with_reducible exact ih1 _ _ _ _ _ _)
     | (with_reducible exact ih2 _ _ _ _ _ _ _)
     | (with_reducible exact ih3 _ _ _ _ _ _ _)
     | (with_reducible exact spec_l04Ok.mono _ _)
     | (with_reducible exact spec_l04Table.mono _ _ _)
     | (with_reducible exact LeO.refl _)
     | (with_reducible exact LeO.none _)
     | (with_reducible refine LeO.ite ?_ ?_)
     | (with_reducible refine LeO.bind ?_ (fun _ => ?_))
     | exact ih0 _ _ _ _
     | exact ih1 _ _ _ _ _ _
     | exact ih2 _ _ _ _ _ _ _
     | exact ih3 _ _ _ _ _ _ _
     | exact spec_l04Ok.mono _ _
     | exact spec_l04Table.mono _ _ _
     | exact LeO.none _
     | refine LeO.ite ?_ ?_
     | refine LeO.bind ?_ (fun _ => ?_)
theorem spec_EditsOf.mono : ∀ a0 a1 k, LeO (spec_EditsOf.f k a0 a1) (spec_EditsOf.f (k + 1) a0 a1) := by
  intro a0 a1 k
  obtain ⟨ih0, ih1, ih2, ih3⟩ := spec_EditsOf.mono_l k
  unfold spec_EditsOf.f
  repeat' first
     | (with_reducible exact ih0 _ _ _ _)
     | (with_reducible exact ih1 _ _ _ _ _ _)
     | (with_reducible exact ih2 _ _ _ _ _ _ _)
     | (with_reducible exact ih3 _ _ _ _ _ _ _)
     | (with_reducible exact spec_l04Ok.mono _ _)
     | (with_reducible exact spec_l04Table.mono _ _ _)
     | (with_reducible exact LeO.refl _)
     | (with_reducible exact LeO.none _)
     | (with_reducible refine LeO.ite ?_ ?_)
     | (with_reducible refine LeO.bind ?_ (fun _ => ?_))
     | exact ih0 _ _ _ _
     | exact ih1 _ _ _ _ _ _
     | exact ih2 _ _ _ _ _ _ _
     | exact ih3 _ _ _ _ _ _ _
     | exact spec_l04Ok.mono _ _
     | exact spec_l04Table.mono _ _ _
     | exact LeO.none _
     | refine LeO.ite ?_ ?_
     | refine LeO.bind ?_ (fun _ => ?_)
set_option maxHeartbeats 8000000 in
set_option maxRecDepth 100000 in
theorem spec_EditsOf.calls (k : Nat) (A0 : Option Addr) (c0 : Nat) (l0 : List ByteArray) (A1 : Option Addr) (c1 : Nat) (l1 : List ByteArray) (r : List (S31)) (w : World) (hr0 : Kd.C Kd.string w A0 l0.length l0) (hc0 : l0.length ≤ c0) (hr1 : Kd.C Kd.string w A1 l1.length l1) (hc1 : l1.length ≤ c1) (h : spec_EditsOf.f k l0 l1 = some r) :
    Calls Try.prog 102 #[.slice A0 l0.length c0, .slice A1 l1.length c1] w fun e w' => ∃ v0_ : Value, e = .returned (v0_) ∧ Kd.R k31 31 w' w.heap.size (fun _ => True) v0_ r ∧ Below w.heap.size w w' := by
  have hu31 := Try.underlying31
  have HR0 := Aside0.mk hr0
  have HC0 := Aside0.mk hc0
  clear hr0 hc0
  have HR1 := Aside0.mk hr1
  have HC1 := Aside0.mk hc1
  clear hr1 hc1
  have HB := Aside0.mk (Below.refl w.heap.size w)
  have H : ((some (([] : List (S31)) : List (S31))).bind fun y262 => ((spec_l04Ok.f k l0).bind fun t265 => (if t265 = true then ((spec_l04Ok.f k l1).bind fun t266 => (spec_EditsOf.j0 k l0 l1 y262 (!t266))) else (spec_EditsOf.j0 k l0 l1 y262 true)))) = some r := h
  clear h
  obtain ⟨y262, hy262⟩ : ∃ y_ : List (S31), y_ = (([] : List (S31))) := ⟨_, rfl⟩
  replace H : ((spec_l04Ok.f k l0).bind fun t265 => (if t265 = true then ((spec_l04Ok.f k l1).bind fun t266 => (spec_EditsOf.j0 k l0 l1 y262 (!t266))) else (spec_EditsOf.j0 k l0 l1 y262 true))) = some r := by first | (rw [hy262]; with_reducible exact H) | (have H2_ := (Option.bind_some _ _).symm.trans H; rw [hy262]; with_reducible exact H2_) | (have H2_ := (Option.bind_some _ _).symm.trans H; with_reducible exact H2_) | with_reducible exact H | (rw [hy262]; exact H) | exact H
  have Ny262 := Aside0.mk hy262
  clear hy262
  have HC3 := Aside0.mk H
  clear H
  go_enter Try.func102, Try.ntmps102
  go_upto_region 2 with (first | ((with_reducible refine gate_dst (N := 9) rfl ?_); (try (refine gate_guard (by rfl) ?_; dsimp only)); refine Kd.R_lit k31 _ 31 ?hg (N := 9) ?hd (xs := ([] : List (S31))) (inner := []) (ok := fun _ => True) (okp := fun _ => True) ?hr ?hp (fun _ hk => hk) trivial (Below.refl _ _) (Nat.le_refl _) (by simp) ?_; (case hd => rfl); (case hg => rfl); (case hr => first | (go_simp; done) | (go_simp; rfl)); (case hp => exact (Reps.none _ _)); intro v263 w4 ho5 hb hg_ hnew_; clear hg_ hnew_; (first | rw [← Ny262.out] at ho5 | (simp only [Int.reduceToNat] at ho5; rw [← Ny262.out] at ho5)); have n0_ := Aside0.mk (Kd.R_lower ho5 (below_size q2_)); have n1_ := Aside0.mk (below_step q2_ hb); clear HB; have HO264 := n0_; have HB := n1_; clear n0_ n1_; clear hb ho5))
  (try simp only [Act.put, List.setIfInBounds_toArray, List.set_cons_zero, List.set_cons_succ])
  go_cut [17] (fun v17 wc => ∃ (kq : Nat) (x17_2 : Bool), v17 = .bool x17_2 ∧ Aside0 (spec_EditsOf.j0 kq l0 l1 y262 x17_2 = some r) ∧ Aside0 (kq ≤ k) ∧ Aside0 (Kd.R k31 31 wc w.heap.size (fun _ => True) v263 y262) ∧ Aside0 (Below w.heap.size w wc))
  case first =>
    have H := HC3.out
    clear HC3
    replace H := Option.bind_eq_some_iff.mp H
    obtain ⟨t265, A60, H⟩ := H
    replace H : (if t265 = true then ((spec_l04Ok.f k l1).bind fun t266 => (spec_EditsOf.j0 k l0 l1 y262 (!t266))) else (spec_EditsOf.j0 k l0 l1 y262 true)) = some r := H
    have A6 := Aside0.mk A60
    clear A60
    by_cases c7 : t265 = true
    ·subst c7
     have H1 : ((spec_l04Ok.f k l1).bind fun t266 => (spec_EditsOf.j0 k l0 l1 y262 (!t266))) = some r := by rw [if_pos rfl] at H; exact H
     clear H
     have H := H1
     clear H1
     replace H := Option.bind_eq_some_iff.mp H
     obtain ⟨t266, A80, H⟩ := H
     replace H : (spec_EditsOf.j0 k l0 l1 y262 (!t266)) = some r := H
     have A8 := Aside0.mk A80
     clear A80
     have H' := Aside0.mk H
     clear H
     go_wp2_with (first | (go_at_call 55; (try simp only [i64_w]); (with_reducible refine (spec_l04Ok.calls k _ _ l0 true _ ?side1 ?side2 A6.out).mono ?_); (case side1 => exact q20_); (case side2 => exact HC0.out); rintro e w' ⟨rfl, ⟨nd, rfl⟩⟩; (try first | exact ⟨rfl, _, World.drewN_drewN _ _ _⟩ | exact ⟨rfl, _, Eq.trans (World.drewN_drewN _ _ _) (congrArg (World.drewN _) (Nat.add_assoc _ _ _))⟩)) | (go_at_call 55; (try simp only [i64_w]); (with_reducible refine (spec_l04Ok.calls k _ _ l1 t266 _ ?side1 ?side2 A8.out).mono ?_); (case side1 => exact (by repeat (first | exact (Kd.C_below HR1.out q2_) | (with_reducible refine Kd.C_alloc ?_ _) | (with_reducible refine Kd.C_drewN ?_ _) | (with_reducible refine Kd.C_drew ?_)))); (case side2 => exact HC1.out); rintro e w' ⟨rfl, ⟨nd, rfl⟩⟩; (try first | exact ⟨rfl, _, World.drewN_drewN _ _ _⟩ | exact ⟨rfl, _, Eq.trans (World.drewN_drewN _ _ _) (congrArg (World.drewN _) (Nat.add_assoc _ _ _))⟩)))
     go_meet
     case rel => exact ⟨_, (!t266), q7_, H', ⟨by first | omega | exact Nat.le_refl _⟩, ⟨by (with_reducible repeat (first | apply Kd.R_alloc | apply Kd.R_drewN | apply Kd.R_drew)); exact HO264.out⟩, ⟨by repeat (first | (with_reducible first | exact HB.out | apply below_alloc | apply pw_below_drewN | apply below_drew1) | exact HB.out)⟩⟩
    ·replace c7 := Bool.eq_false_iff.mpr c7
     subst c7
     have H1 : (spec_EditsOf.j0 k l0 l1 y262 true) = some r := by rw [if_neg (show ¬ (false = true) by decide)] at H; exact H
     clear H
     have H := H1
     clear H1
     have H' := Aside0.mk H
     clear H
     go_wp2_with (first | (go_at_call 55; (try simp only [i64_w]); (with_reducible refine (spec_l04Ok.calls k _ _ l0 false _ ?side1 ?side2 A6.out).mono ?_); (case side1 => exact q20_); (case side2 => exact HC0.out); rintro e w' ⟨rfl, ⟨nd, rfl⟩⟩; (try first | exact ⟨rfl, _, World.drewN_drewN _ _ _⟩ | exact ⟨rfl, _, Eq.trans (World.drewN_drewN _ _ _) (congrArg (World.drewN _) (Nat.add_assoc _ _ _))⟩)))
     go_meet
     case rel => exact ⟨_, (true), q7_, H', ⟨by first | omega | exact Nat.le_refl _⟩, ⟨by (with_reducible repeat (first | apply Kd.R_alloc | apply Kd.R_drewN | apply Kd.R_drew)); exact HO264.out⟩, ⟨by repeat (first | (with_reducible first | exact HB.out | apply below_alloc | apply pw_below_drewN | apply below_drew1) | exact HB.out)⟩⟩
  case rest =>
    clear HC3
    try clear c1
    try clear p2
    try clear c7
    obtain ⟨kq, x17_2, rfl, HA, HJ2, HO_5, HB⟩ := hcut
    cases kq with
    | zero => exact absurd HA.out (by simp [spec_EditsOf.j0])
    | succ kj2 =>
     have H := HA.out
     clear HA
     simp only [spec_EditsOf.j0] at H
     by_cases c9 : x17_2 = true
     ·subst c9
      have H1 : (some y262) = some r := by rw [if_pos rfl] at H; exact H
      clear H
      have H := H1
      clear H1
      obtain rfl := Option.some.inj H
      go_wp2
      repeat (go_quiet (fail); try go_wp2)
      go_ret
      exact ⟨_, by first | rfl | (simp [errW_none, errW_some] <;> rfl) | (simp [*, errW_none, errW_some] <;> rfl), by (with_reducible repeat (first | apply Kd.R_alloc | apply Kd.R_drewN | apply Kd.R_drew)); exact HO_5.out, by repeat (first | (with_reducible first | exact HB.out | apply below_alloc | apply pw_below_drewN | apply below_drew1) | exact HB.out)⟩
     ·replace c9 := Bool.eq_false_iff.mpr c9
      subst c9
      have H1 : ((spec_l04Table.f kj2 l0 l1).bind fun t267 => (spec_EditsOf.l0 kj2 l0 l1 y262 t267 0 0)) = some r := by rw [if_neg (show ¬ (false = true) by decide)] at H; exact H
      clear H
      have H := H1
      clear H1
      replace H := Option.bind_eq_some_iff.mp H
      obtain ⟨t267, A100, H⟩ := H
      replace H : (spec_EditsOf.l0 kj2 l0 l1 y262 t267 0 0) = some r := H
      have A10 := Aside0.mk A100
      clear A100
      have H' := Aside0.mk H
      clear H
      go_wp2_with (first | (go_at_call 122; (try simp only [i64_w]); (with_reducible refine (spec_l04Table.calls kj2 _ _ l0 _ _ l1 t267 _ ?side1 ?side2 ?side3 ?side4 A10.out).mono ?_); (case side1 => exact q20_); (case side2 => exact HC0.out); (case side3 => exact (by repeat (first | exact (Kd.C_below HR1.out HB.out) | (with_reducible refine Kd.C_alloc ?_ _) | (with_reducible refine Kd.C_drewN ?_ _) | (with_reducible refine Kd.C_drew ?_)))); (case side4 => exact HC1.out); rintro e w11 ⟨v268, rfl, ho0, hb⟩; have n0_ := Aside0.mk (Kd.R_below q6_ hb); have n1_ := Aside0.mk (Kd.S_lower ho0 (below_size q2_)); have n2_ := Aside0.mk (below_step q2_ hb); clear HO_5; clear HB; have HO_5 := n0_; have HO269 := n1_; have HB := n2_; clear n0_ n1_ n2_; (try clear hb); (try clear hb2); (try clear hk); (try clear hi); (try clear ho0)))
      go_loopg [5, 7, 8] kj2 (fun kq v5 v7 v8 w' => ∃ (x5_2 : List (S31)) (x7_2 : Int) (x8_2 : Int), v7 = .int .i64 x7_2 ∧ v8 = .int .i64 x8_2 ∧ Aside0 (spec_EditsOf.l0 kq l0 l1 x5_2 t267 x7_2 x8_2 = some r) ∧ Aside0 (kq ≤ kj2) ∧ Aside0 (Kd.R k31 31 w' w.heap.size (fun _ => True) v5 x5_2) ∧ Aside0 (Kd.S (Kd.slice 3 (Kd.int .i64)) 50 w' w.heap.size (fun _ => True) v268 t267) ∧ Aside0 (Below w.heap.size w w'))
      case atStart => exact ⟨(y262), (0), (0), q7_, q7_, H', ⟨Nat.le_refl _⟩, ⟨by (with_reducible repeat (first | apply Kd.R_alloc | apply Kd.R_drewN | apply Kd.R_drew)); exact HO_5.out⟩, ⟨by (with_reducible repeat (first | apply Kd.S_alloc | apply Kd.S_drewN | apply Kd.S_drew)); exact HO269.out⟩, ⟨by repeat (first | (with_reducible first | exact HB.out | apply below_alloc | apply pw_below_drewN | apply below_drew1) | exact HB.out)⟩⟩
      case round =>
       clear H'
       try clear c1
       try clear p2
       try clear c7
       try clear c9
       try clear c10
       try clear p2
       obtain ⟨x5_2, x7_2, x8_2, rfl, rfl, HA, HK2, HO_5, HO_6, HB⟩ := hrel
       cases gk with
       | zero => exact absurd HA.out (by simp [spec_EditsOf.l0])
       | succ k2 =>
        have H := HA.out
        clear HA
        simp only [spec_EditsOf.l0] at H
        have HC12 := Aside0.mk H
        clear H
        go_upto_region 7 with (fail)
        repeat (go_quiet (fail); go_upto_region 7 with (fail))
        go_cut [31] (fun v31 wc => ∃ (kq : Nat) (x31_11 : Bool), v31 = .bool x31_11 ∧ Aside0 (spec_EditsOf.j2 kq l0 l1 x5_2 t267 x7_2 x8_2 x31_11 = some r) ∧ Aside0 (kq ≤ k2) ∧ Aside0 (Kd.R k31 31 wc w.heap.size (fun _ => True) u5 x5_2) ∧ Aside0 (Kd.S (Kd.slice 3 (Kd.int .i64)) 50 wc w.heap.size (fun _ => True) v268 t267) ∧ Aside0 (Below w.heap.size w wc))
        case first =>
         have H := HC12.out
         clear HC12
         by_cases c13 : x7_2 < (l0.length : Int)
         ·rw [if_pos c13] at H
          have c13b0 : decide (x7_2 < (l0.length : Int)) = true := decide_eq_true c13
          clear c13
          (first | rw [c13b0] | (simp only [i64_w, i32_w]; rw [c13b0]) | skip)
          have H' := Aside0.mk H
          clear H
          go_wp2
          repeat (go_quiet (fail); try go_wp2)
          go_meet
          case rel => exact ⟨_, (true), q7_, H', ⟨by have := HJ2.out; have := HK2.out; first | omega | exact Nat.le_refl _⟩, ⟨by (with_reducible repeat (first | apply Kd.R_alloc | apply Kd.R_drewN | apply Kd.R_drew)); exact HO_5.out⟩, ⟨by (with_reducible repeat (first | apply Kd.S_alloc | apply Kd.S_drewN | apply Kd.S_drew)); exact HO_6.out⟩, ⟨by repeat (first | (with_reducible first | exact HB.out | apply below_alloc | apply pw_below_drewN | apply below_drew1) | exact HB.out)⟩⟩
         ·rw [if_neg c13] at H
          have c13b0 : decide (x7_2 < (l0.length : Int)) = false := decide_eq_false c13
          clear c13
          (first | rw [c13b0] | (simp only [i64_w, i32_w]; rw [c13b0]) | skip)
          have H' := Aside0.mk H
          clear H
          go_wp2
          repeat (go_quiet (fail); try go_wp2)
          go_meet
          case rel => exact ⟨_, (decide (x8_2 < (l1.length : Int))), q7_, H', ⟨by have := HJ2.out; have := HK2.out; first | omega | exact Nat.le_refl _⟩, ⟨by (with_reducible repeat (first | apply Kd.R_alloc | apply Kd.R_drewN | apply Kd.R_drew)); exact HO_5.out⟩, ⟨by (with_reducible repeat (first | apply Kd.S_alloc | apply Kd.S_drewN | apply Kd.S_drew)); exact HO_6.out⟩, ⟨by repeat (first | (with_reducible first | exact HB.out | apply below_alloc | apply pw_below_drewN | apply below_drew1) | exact HB.out)⟩⟩
        case rest =>
         clear HC12
         try clear c1
         try clear p2
         try clear c7
         try clear c9
         try clear c10
         try clear c13
         try clear c13b0
         try clear p2
         obtain ⟨kq, x31_11, rfl, HA, HJ11, HO_5, HO_6, HB⟩ := hcut
         cases kq with
         | zero => exact absurd HA.out (by simp [spec_EditsOf.j2])
         | succ kj11 =>
          have H := HA.out
          clear HA
          simp only [spec_EditsOf.j2] at H
          by_cases c14 : x31_11 = true
          ·subst c14
           have H1 : (if x7_2 < (l0.length : Int) then (if x8_2 < (l1.length : Int) then (if 0 ≤ x7_2 then (if 0 ≤ x8_2 then (spec_EditsOf.j3 kj11 l0 l1 x5_2 t267 x7_2 x8_2 ((rdOf ByteArray.empty l0 x7_2).toList == (rdOf ByteArray.empty l1 x8_2).toList)) else (none)) else (none)) else (spec_EditsOf.j3 kj11 l0 l1 x5_2 t267 x7_2 x8_2 false)) else (spec_EditsOf.j3 kj11 l0 l1 x5_2 t267 x7_2 x8_2 false)) = some r := by rw [if_pos rfl] at H; exact H
           clear H
           have H := H1
           clear H1
           have HC15 := Aside0.mk H
           clear H
           go_upto_region 8 with (fail)
           repeat (go_quiet (fail); go_upto_region 8 with (fail))
           go_cut [52] (fun v52 wc => ∃ (kq : Nat) (x52_14 : Bool), v52 = .bool x52_14 ∧ Aside0 (spec_EditsOf.j3 kq l0 l1 x5_2 t267 x7_2 x8_2 x52_14 = some r) ∧ Aside0 (kq ≤ kj11) ∧ Aside0 (Kd.R k31 31 wc w.heap.size (fun _ => True) u5 x5_2) ∧ Aside0 (Kd.S (Kd.slice 3 (Kd.int .i64)) 50 wc w.heap.size (fun _ => True) v268 t267) ∧ Aside0 (Below w.heap.size w wc))
           case first =>
            have H := HC15.out
            clear HC15
            by_cases c16 : x7_2 < (l0.length : Int)
            ·rw [if_pos c16] at H
             have c16b0 : decide (x7_2 < (l0.length : Int)) = true := decide_eq_true c16
             clear c16
             (first | rw [c16b0] | (simp only [i64_w, i32_w]; rw [c16b0]) | skip)
             by_cases c17 : x8_2 < (l1.length : Int)
             ·rw [if_pos c17] at H
              have c17b0 : decide (x8_2 < (l1.length : Int)) = true := decide_eq_true c17
              clear c17
              by_cases c18 : 0 ≤ x7_2
              case neg =>
               rw [if_neg c18] at H
               exact absurd H (by simp)
              rw [if_pos c18] at H
              have c18b0 : decide (0 ≤ x7_2) = true := decide_eq_true c18
              clear c18
              by_cases c19 : 0 ≤ x8_2
              case neg =>
               rw [if_neg c19] at H
               exact absurd H (by simp)
              rw [if_pos c19] at H
              have c19b0 : decide (0 ≤ x8_2) = true := decide_eq_true c19
              clear c19
              have H' := Aside0.mk H
              clear H
              have p270 : 0 ≤ (x7_2 : Int) := of_decide_eq_true q0_
              have q270 : x7_2 < (l0.length : Int) := of_decide_eq_true q0_
              obtain ⟨ad270, e270, hx270_0⟩ := Kd.at_string HR0.out x7_2 p270 q270
              cases e270
              replace hx270_0 := (HB.out.cell (World.block_lt_of_cell? w _ hx270_0)).trans hx270_0
              replace p270 := eq_true p270
              replace q270 := eq_true q270
              have p271 : 0 ≤ (x8_2 : Int) := of_decide_eq_true q0_
              have q271 : x8_2 < (l1.length : Int) := of_decide_eq_true q0_
              obtain ⟨ad271, e271, hx271_0⟩ := Kd.at_string HR1.out x8_2 p271 q271
              cases e271
              replace hx271_0 := (HB.out.cell (World.block_lt_of_cell? w _ hx271_0)).trans hx271_0
              replace p271 := eq_true p271
              replace q271 := eq_true q271
              go_wp2
              repeat (go_quiet (fail); try go_wp2)
              go_meet
              case rel => exact ⟨_, (((rdOf ByteArray.empty l0 x7_2).toList == (rdOf ByteArray.empty l1 x8_2).toList)), q7_, H', ⟨by have := HJ2.out; have := HK2.out; have := HJ11.out; first | omega | exact Nat.le_refl _⟩, ⟨by (with_reducible repeat (first | apply Kd.R_alloc | apply Kd.R_drewN | apply Kd.R_drew)); exact HO_5.out⟩, ⟨by (with_reducible repeat (first | apply Kd.S_alloc | apply Kd.S_drewN | apply Kd.S_drew)); exact HO_6.out⟩, ⟨by repeat (first | (with_reducible first | exact HB.out | apply below_alloc | apply pw_below_drewN | apply below_drew1) | exact HB.out)⟩⟩
             ·rw [if_neg c17] at H
              have c17b0 : decide (x8_2 < (l1.length : Int)) = false := decide_eq_false c17
              clear c17
              have H' := Aside0.mk H
              clear H
              go_wp2
              repeat (go_quiet (fail); try go_wp2)
              go_meet
              case rel => exact ⟨_, (false), q7_, H', ⟨by have := HJ2.out; have := HK2.out; have := HJ11.out; first | omega | exact Nat.le_refl _⟩, ⟨by (with_reducible repeat (first | apply Kd.R_alloc | apply Kd.R_drewN | apply Kd.R_drew)); exact HO_5.out⟩, ⟨by (with_reducible repeat (first | apply Kd.S_alloc | apply Kd.S_drewN | apply Kd.S_drew)); exact HO_6.out⟩, ⟨by repeat (first | (with_reducible first | exact HB.out | apply below_alloc | apply pw_below_drewN | apply below_drew1) | exact HB.out)⟩⟩
            ·rw [if_neg c16] at H
             have c16b0 : decide (x7_2 < (l0.length : Int)) = false := decide_eq_false c16
             clear c16
             (first | rw [c16b0] | (simp only [i64_w, i32_w]; rw [c16b0]) | skip)
             have H' := Aside0.mk H
             clear H
             go_wp2
             repeat (go_quiet (fail); try go_wp2)
             go_meet
             case rel => exact ⟨_, (false), q7_, H', ⟨by have := HJ2.out; have := HK2.out; have := HJ11.out; first | omega | exact Nat.le_refl _⟩, ⟨by (with_reducible repeat (first | apply Kd.R_alloc | apply Kd.R_drewN | apply Kd.R_drew)); exact HO_5.out⟩, ⟨by (with_reducible repeat (first | apply Kd.S_alloc | apply Kd.S_drewN | apply Kd.S_drew)); exact HO_6.out⟩, ⟨by repeat (first | (with_reducible first | exact HB.out | apply below_alloc | apply pw_below_drewN | apply below_drew1) | exact HB.out)⟩⟩
           case rest =>
            clear HC15
            try clear c1
            try clear p2
            try clear q2
            try clear hx2
            try clear c7
            try clear c9
            try clear c10
            try clear c13
            try clear c13b0
            try clear c14
            try clear c16
            try clear c16b0
            try clear c17
            try clear c17b0
            try clear c18
            try clear c18b0
            try clear c19
            try clear c19b0
            try clear hx270_0
            try clear hx271_0
            try clear p2
            try clear p270
            try clear p271
            try clear q270
            try clear q271
            obtain ⟨kq, x52_14, rfl, HA, HJ14, HO_5, HO_6, HB⟩ := hcut
            cases kq with
            | zero => exact absurd HA.out (by simp [spec_EditsOf.j3])
            | succ kj14 =>
             have H := HA.out
             clear HA
             simp only [spec_EditsOf.j3] at H
             by_cases c20 : x52_14 = true
             ·subst c20
              have H1 : (if 0 ≤ x7_2 then (if x7_2 < (l0.length : Int) then (if x5_2.length < 5864062014805 then (spec_EditsOf.l0 kj14 l0 l1 (x5_2 ++ [(⟨1, rdOf ByteArray.empty l0 x7_2⟩ : S31)]) t267 (wrap64 (x7_2 + 1)) (wrap64 (x8_2 + 1))) else (none)) else (none)) else (none)) = some r := by rw [if_pos rfl] at H; exact H
              clear H
              have H := H1
              clear H1
              by_cases c21 : 0 ≤ x7_2
              case neg =>
               rw [if_neg c21] at H
               exact absurd H (by simp)
              rw [if_pos c21] at H
              have c21b0 : decide (0 ≤ x7_2) = true := decide_eq_true c21
              clear c21
              by_cases c22 : x7_2 < (l0.length : Int)
              case neg =>
               rw [if_neg c22] at H
               exact absurd H (by simp)
              rw [if_pos c22] at H
              have c22b0 : decide (x7_2 < (l0.length : Int)) = true := decide_eq_true c22
              clear c22
              by_cases c23 : x5_2.length < 5864062014805
              case neg =>
               rw [if_neg c23] at H
               exact absurd H (by simp)
              rw [if_pos c23] at H
              have LMc23 := Aside0.mk c23
              clear c23
              obtain ⟨y273, hy273⟩ : ∃ y_ : List (S31), y_ = (x5_2 ++ [(⟨1, rdOf ByteArray.empty l0 x7_2⟩ : S31)]) := ⟨_, rfl⟩
              replace H : (spec_EditsOf.l0 kj14 l0 l1 y273 t267 (wrap64 (x7_2 + 1)) (wrap64 (x8_2 + 1))) = some r := by first | (rw [hy273]; with_reducible exact H) | (have H2_ := (Option.bind_some _ _).symm.trans H; rw [hy273]; with_reducible exact H2_) | (have H2_ := (Option.bind_some _ _).symm.trans H; with_reducible exact H2_) | with_reducible exact H | (rw [hy273]; exact H) | exact H
              have Ny273 := Aside0.mk hy273
              clear hy273
              have H' := Aside0.mk H
              clear H
              have p272 : 0 ≤ (x7_2 : Int) := of_decide_eq_true q0_
              have q272 : x7_2 < (l0.length : Int) := of_decide_eq_true q0_
              obtain ⟨ad272, e272, hx272_0⟩ := Kd.at_string HR0.out x7_2 p272 q272
              cases e272
              replace hx272_0 := (HB.out.cell (World.block_lt_of_cell? w _ hx272_0)).trans hx272_0
              replace p272 := eq_true p272
              replace q272 := eq_true q272
              go_wp2_with (first | ((with_reducible refine gate_builtin (b := .append) (xs := #[.tmp 53, .tmp 59]) rfl ?_); (try (refine gate_guard (by rfl) ?_; dsimp only)); at_builtin; refine Kd.R_append k31 (w0 := w) w.heap.size rfl (.tmp 53) (.tmp 59) 25 31 (.agg #[(.int .i64 0), (.string ⟨#[]⟩)]) 24 rfl Try.underlying25 info31 rfl (by decide) (by omega) u5 x5_2 (⟨1, rdOf ByteArray.empty l0 x7_2⟩ : S31) [.int .i64 1, .string (rdOf ByteArray.empty l0 x7_2)] (fun _ => True) (fun _ => False) rfl rfl ?aP (fun _ hk => hk.elim) ?aF ?aO ?aB ?aS ?aL ?_; (case aP => exact k31_mkM _ _ _ (⟨1, rdOf ByteArray.empty l0 x7_2⟩ : S31)); (case aB => exact q2_); (case aF => exact (fun _ _ => trivial)); (case aO => exact q6_); (case aS => exact (below_size q2_)); (case aL => have := LMc23.out; omega); intro v274 w24 ho hb hg hat; rw [← Ny273.out] at ho; have n0_ := Aside0.mk (Kd.S_over' q16_ (Kd.R_typed q6_) (by decide) hg); have n1_ := Aside0.mk (hb); have n2_ := Aside0.mk (ho); clear HO_6; clear HB; clear HO_5; have HO_6 := n0_; have HB := n1_; have HO275 := n2_; clear n0_ n1_ n2_; clear ho hb hg hat))
              repeat (go_quiet (first | ((with_reducible refine gate_builtin (b := .append) (xs := #[.tmp 53, .tmp 59]) rfl ?_); (try (refine gate_guard (by rfl) ?_; dsimp only)); at_builtin; refine Kd.R_append k31 (w0 := w) w.heap.size rfl (.tmp 53) (.tmp 59) 25 31 (.agg #[(.int .i64 0), (.string ⟨#[]⟩)]) 24 rfl Try.underlying25 info31 rfl (by decide) (by omega) u5 x5_2 (⟨1, rdOf ByteArray.empty l0 x7_2⟩ : S31) [.int .i64 1, .string (rdOf ByteArray.empty l0 x7_2)] (fun _ => True) (fun _ => False) rfl rfl ?aP (fun _ hk => hk.elim) ?aF ?aO ?aB ?aS ?aL ?_; (case aP => exact k31_mkM _ _ _ (⟨1, rdOf ByteArray.empty l0 x7_2⟩ : S31)); (case aB => exact q2_); (case aF => exact (fun _ _ => trivial)); (case aO => exact q6_); (case aS => exact (below_size q2_)); (case aL => have := LMc23.out; omega); intro v274 w24 ho hb hg hat; rw [← Ny273.out] at ho; have n0_ := Aside0.mk (Kd.S_over' q16_ (Kd.R_typed q6_) (by decide) hg); have n1_ := Aside0.mk (hb); have n2_ := Aside0.mk (ho); clear HO_6; clear HB; clear HO_5; have HO_6 := n0_; have HB := n1_; have HO275 := n2_; clear n0_ n1_ n2_; clear ho hb hg hat)); try go_wp2_with (first | ((with_reducible refine gate_builtin (b := .append) (xs := #[.tmp 53, .tmp 59]) rfl ?_); (try (refine gate_guard (by rfl) ?_; dsimp only)); at_builtin; refine Kd.R_append k31 (w0 := w) w.heap.size rfl (.tmp 53) (.tmp 59) 25 31 (.agg #[(.int .i64 0), (.string ⟨#[]⟩)]) 24 rfl Try.underlying25 info31 rfl (by decide) (by omega) u5 x5_2 (⟨1, rdOf ByteArray.empty l0 x7_2⟩ : S31) [.int .i64 1, .string (rdOf ByteArray.empty l0 x7_2)] (fun _ => True) (fun _ => False) rfl rfl ?aP (fun _ hk => hk.elim) ?aF ?aO ?aB ?aS ?aL ?_; (case aP => exact k31_mkM _ _ _ (⟨1, rdOf ByteArray.empty l0 x7_2⟩ : S31)); (case aB => exact q2_); (case aF => exact (fun _ _ => trivial)); (case aO => exact q6_); (case aS => exact (below_size q2_)); (case aL => have := LMc23.out; omega); intro v274 w24 ho hb hg hat; rw [← Ny273.out] at ho; have n0_ := Aside0.mk (Kd.S_over' q16_ (Kd.R_typed q6_) (by decide) hg); have n1_ := Aside0.mk (hb); have n2_ := Aside0.mk (ho); clear HO_6; clear HB; clear HO_5; have HO_6 := n0_; have HB := n1_; have HO275 := n2_; clear n0_ n1_ n2_; clear ho hb hg hat)))
              go_roundg kj14
              case measure => have := HJ2.out; have := HK2.out; have := HJ11.out; have := HJ14.out; omega
              case rel => exact ⟨(y273), (wrap64 (x7_2 + 1)), (wrap64 (x8_2 + 1)), q7_, q7_, H', ⟨by have := HJ2.out; have := HK2.out; have := HJ11.out; have := HJ14.out; omega⟩, ⟨by (with_reducible repeat (first | apply Kd.R_alloc | apply Kd.R_drewN | apply Kd.R_drew)); exact HO275.out⟩, ⟨by (with_reducible repeat (first | apply Kd.S_alloc | apply Kd.S_drewN | apply Kd.S_drew)); exact HO_6.out⟩, ⟨by repeat (first | (with_reducible first | exact HB.out | apply below_alloc | apply pw_below_drewN | apply below_drew1) | exact HB.out)⟩⟩
             ·replace c20 := Bool.eq_false_iff.mpr c20
              subst c20
              have H1 : (if x8_2 = (l1.length : Int) then (if 0 ≤ x7_2 then (if x7_2 < (l0.length : Int) then (if x5_2.length < 5864062014805 then (spec_EditsOf.l0 kj14 l0 l1 (x5_2 ++ [(⟨2, rdOf ByteArray.empty l0 x7_2⟩ : S31)]) t267 (wrap64 (x7_2 + 1)) x8_2) else (none)) else (none)) else (none)) else (if x7_2 < (l0.length : Int) then (if 0 ≤ (wrap64 (x7_2 + 1)) then (if (wrap64 (x7_2 + 1)) < (t267.length : Int) then (if 0 ≤ x8_2 then (if x8_2 < ((rd_L3 t267 (wrap64 (x7_2 + 1))).length : Int) then (if 0 ≤ x7_2 then (if x7_2 < (t267.length : Int) then (if 0 ≤ (wrap64 (x8_2 + 1)) then (if (wrap64 (x8_2 + 1)) < ((rd_L3 t267 x7_2).length : Int) then (if (rd (rd_L3 t267 (wrap64 (x7_2 + 1))) x8_2) ≥ (rd (rd_L3 t267 x7_2) (wrap64 (x8_2 + 1))) then (if x5_2.length < 5864062014805 then (spec_EditsOf.l0 kj14 l0 l1 (x5_2 ++ [(⟨2, rdOf ByteArray.empty l0 x7_2⟩ : S31)]) t267 (wrap64 (x7_2 + 1)) x8_2) else (none)) else (if x8_2 < (l1.length : Int) then (if x5_2.length < 5864062014805 then (spec_EditsOf.l0 kj14 l0 l1 (x5_2 ++ [(⟨3, rdOf ByteArray.empty l1 x8_2⟩ : S31)]) t267 x7_2 (wrap64 (x8_2 + 1))) else (none)) else (none))) else (none)) else (none)) else (none)) else (none)) else (none)) else (none)) else (none)) else (none)) else (if 0 ≤ x8_2 then (if x8_2 < (l1.length : Int) then (if x5_2.length < 5864062014805 then (spec_EditsOf.l0 kj14 l0 l1 (x5_2 ++ [(⟨3, rdOf ByteArray.empty l1 x8_2⟩ : S31)]) t267 x7_2 (wrap64 (x8_2 + 1))) else (none)) else (none)) else (none)))) = some r := by rw [if_neg (show ¬ (false = true) by decide)] at H; exact H
              clear H
              have H := H1
              clear H1
              by_cases c25 : x8_2 = (l1.length : Int)
              ·rw [if_pos c25] at H
               have c25b0 : (x8_2 == (l1.length : Int)) = true := beq_iff_eq.mpr c25
               have c25b1 : (x8_2 != (l1.length : Int)) = false := bne_eq_false_iff_eq.mpr c25
               clear c25
               by_cases c26 : 0 ≤ x7_2
               case neg =>
                rw [if_neg c26] at H
                exact absurd H (by simp)
               rw [if_pos c26] at H
               have c26b0 : decide (0 ≤ x7_2) = true := decide_eq_true c26
               clear c26
               by_cases c27 : x7_2 < (l0.length : Int)
               case neg =>
                rw [if_neg c27] at H
                exact absurd H (by simp)
               rw [if_pos c27] at H
               have c27b0 : decide (x7_2 < (l0.length : Int)) = true := decide_eq_true c27
               clear c27
               by_cases c28 : x5_2.length < 5864062014805
               case neg =>
                rw [if_neg c28] at H
                exact absurd H (by simp)
               rw [if_pos c28] at H
               have LMc28 := Aside0.mk c28
               clear c28
               obtain ⟨y277, hy277⟩ : ∃ y_ : List (S31), y_ = (x5_2 ++ [(⟨2, rdOf ByteArray.empty l0 x7_2⟩ : S31)]) := ⟨_, rfl⟩
               replace H : (spec_EditsOf.l0 kj14 l0 l1 y277 t267 (wrap64 (x7_2 + 1)) x8_2) = some r := by first | (rw [hy277]; with_reducible exact H) | (have H2_ := (Option.bind_some _ _).symm.trans H; rw [hy277]; with_reducible exact H2_) | (have H2_ := (Option.bind_some _ _).symm.trans H; with_reducible exact H2_) | with_reducible exact H | (rw [hy277]; exact H) | exact H
               have Ny277 := Aside0.mk hy277
               clear hy277
               have H' := Aside0.mk H
               clear H
               have p276 : 0 ≤ (x7_2 : Int) := of_decide_eq_true q0_
               have q276 : x7_2 < (l0.length : Int) := of_decide_eq_true q0_
               obtain ⟨ad276, e276, hx276_0⟩ := Kd.at_string HR0.out x7_2 p276 q276
               cases e276
               replace hx276_0 := (HB.out.cell (World.block_lt_of_cell? w _ hx276_0)).trans hx276_0
               replace p276 := eq_true p276
               replace q276 := eq_true q276
               go_wp2_with (first | ((with_reducible refine gate_builtin (b := .append) (xs := #[.tmp 94, .tmp 100]) rfl ?_); (try (refine gate_guard (by rfl) ?_; dsimp only)); at_builtin; refine Kd.R_append k31 (w0 := w) w.heap.size rfl (.tmp 94) (.tmp 100) 25 31 (.agg #[(.int .i64 0), (.string ⟨#[]⟩)]) 24 rfl Try.underlying25 info31 rfl (by decide) (by omega) u5 x5_2 (⟨2, rdOf ByteArray.empty l0 x7_2⟩ : S31) [.int .i64 2, .string (rdOf ByteArray.empty l0 x7_2)] (fun _ => True) (fun _ => False) rfl rfl ?aP (fun _ hk => hk.elim) ?aF ?aO ?aB ?aS ?aL ?_; (case aP => exact k31_mkM _ _ _ (⟨2, rdOf ByteArray.empty l0 x7_2⟩ : S31)); (case aB => exact q2_); (case aF => exact (fun _ _ => trivial)); (case aO => exact q6_); (case aS => exact (below_size q2_)); (case aL => have := LMc28.out; omega); intro v278 w29 ho hb hg hat; rw [← Ny277.out] at ho; have n0_ := Aside0.mk (Kd.S_over' q16_ (Kd.R_typed q6_) (by decide) hg); have n1_ := Aside0.mk (hb); have n2_ := Aside0.mk (ho); clear HO_6; clear HB; clear HO_5; have HO_6 := n0_; have HB := n1_; have HO279 := n2_; clear n0_ n1_ n2_; clear ho hb hg hat))
               repeat (go_quiet (first | ((with_reducible refine gate_builtin (b := .append) (xs := #[.tmp 94, .tmp 100]) rfl ?_); (try (refine gate_guard (by rfl) ?_; dsimp only)); at_builtin; refine Kd.R_append k31 (w0 := w) w.heap.size rfl (.tmp 94) (.tmp 100) 25 31 (.agg #[(.int .i64 0), (.string ⟨#[]⟩)]) 24 rfl Try.underlying25 info31 rfl (by decide) (by omega) u5 x5_2 (⟨2, rdOf ByteArray.empty l0 x7_2⟩ : S31) [.int .i64 2, .string (rdOf ByteArray.empty l0 x7_2)] (fun _ => True) (fun _ => False) rfl rfl ?aP (fun _ hk => hk.elim) ?aF ?aO ?aB ?aS ?aL ?_; (case aP => exact k31_mkM _ _ _ (⟨2, rdOf ByteArray.empty l0 x7_2⟩ : S31)); (case aB => exact q2_); (case aF => exact (fun _ _ => trivial)); (case aO => exact q6_); (case aS => exact (below_size q2_)); (case aL => have := LMc28.out; omega); intro v278 w29 ho hb hg hat; rw [← Ny277.out] at ho; have n0_ := Aside0.mk (Kd.S_over' q16_ (Kd.R_typed q6_) (by decide) hg); have n1_ := Aside0.mk (hb); have n2_ := Aside0.mk (ho); clear HO_6; clear HB; clear HO_5; have HO_6 := n0_; have HB := n1_; have HO279 := n2_; clear n0_ n1_ n2_; clear ho hb hg hat)); try go_wp2_with (first | ((with_reducible refine gate_builtin (b := .append) (xs := #[.tmp 94, .tmp 100]) rfl ?_); (try (refine gate_guard (by rfl) ?_; dsimp only)); at_builtin; refine Kd.R_append k31 (w0 := w) w.heap.size rfl (.tmp 94) (.tmp 100) 25 31 (.agg #[(.int .i64 0), (.string ⟨#[]⟩)]) 24 rfl Try.underlying25 info31 rfl (by decide) (by omega) u5 x5_2 (⟨2, rdOf ByteArray.empty l0 x7_2⟩ : S31) [.int .i64 2, .string (rdOf ByteArray.empty l0 x7_2)] (fun _ => True) (fun _ => False) rfl rfl ?aP (fun _ hk => hk.elim) ?aF ?aO ?aB ?aS ?aL ?_; (case aP => exact k31_mkM _ _ _ (⟨2, rdOf ByteArray.empty l0 x7_2⟩ : S31)); (case aB => exact q2_); (case aF => exact (fun _ _ => trivial)); (case aO => exact q6_); (case aS => exact (below_size q2_)); (case aL => have := LMc28.out; omega); intro v278 w29 ho hb hg hat; rw [← Ny277.out] at ho; have n0_ := Aside0.mk (Kd.S_over' q16_ (Kd.R_typed q6_) (by decide) hg); have n1_ := Aside0.mk (hb); have n2_ := Aside0.mk (ho); clear HO_6; clear HB; clear HO_5; have HO_6 := n0_; have HB := n1_; have HO279 := n2_; clear n0_ n1_ n2_; clear ho hb hg hat)))
               go_roundg kj14
               case measure => have := HJ2.out; have := HK2.out; have := HJ11.out; have := HJ14.out; omega
               case rel => exact ⟨(y277), (wrap64 (x7_2 + 1)), (x8_2), q7_, q7_, H', ⟨by have := HJ2.out; have := HK2.out; have := HJ11.out; have := HJ14.out; omega⟩, ⟨by (with_reducible repeat (first | apply Kd.R_alloc | apply Kd.R_drewN | apply Kd.R_drew)); exact HO279.out⟩, ⟨by (with_reducible repeat (first | apply Kd.S_alloc | apply Kd.S_drewN | apply Kd.S_drew)); exact HO_6.out⟩, ⟨by repeat (first | (with_reducible first | exact HB.out | apply below_alloc | apply pw_below_drewN | apply below_drew1) | exact HB.out)⟩⟩
              ·rw [if_neg c25] at H
               have c25b0 : (x8_2 == (l1.length : Int)) = false := beq_eq_false_iff_ne.mpr c25
               have c25b1 : (x8_2 != (l1.length : Int)) = true := bne_iff_ne.mpr c25
               by_cases c30 : x7_2 < (l0.length : Int)
               ·rw [if_pos c30] at H
                have c30b0 : decide (x7_2 < (l0.length : Int)) = true := decide_eq_true c30
                clear c30
                obtain ⟨ji31, hji31⟩ : ∃ j_ : Int, (wrap64 (x7_2 + 1)) = j_ := ⟨_, rfl⟩
                replace H : (if 0 ≤ (ji31) then (if (ji31) < (t267.length : Int) then (if 0 ≤ x8_2 then (if x8_2 < ((rd_L3 t267 (ji31)).length : Int) then (if 0 ≤ x7_2 then (if x7_2 < (t267.length : Int) then (if 0 ≤ (wrap64 (x8_2 + 1)) then (if (wrap64 (x8_2 + 1)) < ((rd_L3 t267 x7_2).length : Int) then (if (rd (rd_L3 t267 (ji31)) x8_2) ≥ (rd (rd_L3 t267 x7_2) (wrap64 (x8_2 + 1))) then (if x5_2.length < 5864062014805 then (spec_EditsOf.l0 kj14 l0 l1 (x5_2 ++ [(⟨2, rdOf ByteArray.empty l0 x7_2⟩ : S31)]) t267 ji31 x8_2) else (none)) else (if x8_2 < (l1.length : Int) then (if x5_2.length < 5864062014805 then (spec_EditsOf.l0 kj14 l0 l1 (x5_2 ++ [(⟨3, rdOf ByteArray.empty l1 x8_2⟩ : S31)]) t267 x7_2 (wrap64 (x8_2 + 1))) else (none)) else (none))) else (none)) else (none)) else (none)) else (none)) else (none)) else (none)) else (none)) else (none)) = some r := by first | (rw [hji31] at H; exact H) | (simp only [hji31] at H ⊢; exact H)
                have hji31w : (IntKind.i64.wrap (x7_2 + 1)) = ji31 := (i64_w _).trans hji31
                by_cases c32 : 0 ≤ (ji31)
                case neg =>
                 rw [if_neg c32] at H
                 exact absurd H (by simp)
                rw [if_pos c32] at H
                have c32b0 : decide (0 ≤ (ji31)) = true := decide_eq_true c32
                clear c32
                by_cases c33 : (ji31) < (t267.length : Int)
                case neg =>
                 rw [if_neg c33] at H
                 exact absurd H (by simp)
                rw [if_pos c33] at H
                have c33b0 : decide ((ji31) < (t267.length : Int)) = true := decide_eq_true c33
                clear c33
                by_cases c34 : 0 ≤ x8_2
                case neg =>
                 rw [if_neg c34] at H
                 exact absurd H (by simp)
                rw [if_pos c34] at H
                have c34b0 : decide (0 ≤ x8_2) = true := decide_eq_true c34
                clear c34
                by_cases c35 : x8_2 < ((rd_L3 t267 (ji31)).length : Int)
                case neg =>
                 rw [if_neg c35] at H
                 exact absurd H (by simp)
                rw [if_pos c35] at H
                have c35b0 : decide (x8_2 < ((rd_L3 t267 (ji31)).length : Int)) = true := decide_eq_true c35
                clear c35
                by_cases c36 : 0 ≤ x7_2
                case neg =>
                 rw [if_neg c36] at H
                 exact absurd H (by simp)
                rw [if_pos c36] at H
                have c36b0 : decide (0 ≤ x7_2) = true := decide_eq_true c36
                clear c36
                by_cases c37 : x7_2 < (t267.length : Int)
                case neg =>
                 rw [if_neg c37] at H
                 exact absurd H (by simp)
                rw [if_pos c37] at H
                have c37b0 : decide (x7_2 < (t267.length : Int)) = true := decide_eq_true c37
                clear c37
                obtain ⟨ji38, hji38⟩ : ∃ j_ : Int, (wrap64 (x8_2 + 1)) = j_ := ⟨_, rfl⟩
                replace H : (if 0 ≤ (ji38) then (if (ji38) < ((rd_L3 t267 x7_2).length : Int) then (if (rd (rd_L3 t267 (ji31)) x8_2) ≥ (rd (rd_L3 t267 x7_2) (ji38)) then (if x5_2.length < 5864062014805 then (spec_EditsOf.l0 kj14 l0 l1 (x5_2 ++ [(⟨2, rdOf ByteArray.empty l0 x7_2⟩ : S31)]) t267 ji31 x8_2) else (none)) else (if x8_2 < (l1.length : Int) then (if x5_2.length < 5864062014805 then (spec_EditsOf.l0 kj14 l0 l1 (x5_2 ++ [(⟨3, rdOf ByteArray.empty l1 x8_2⟩ : S31)]) t267 x7_2 ji38) else (none)) else (none))) else (none)) else (none)) = some r := by first | (rw [hji38] at H; exact H) | (simp only [hji38] at H ⊢; exact H)
                have hji38w : (IntKind.i64.wrap (x8_2 + 1)) = ji38 := (i64_w _).trans hji38
                by_cases c39 : 0 ≤ (ji38)
                case neg =>
                 rw [if_neg c39] at H
                 exact absurd H (by simp)
                rw [if_pos c39] at H
                have c39b0 : decide (0 ≤ (ji38)) = true := decide_eq_true c39
                clear c39
                by_cases c40 : (ji38) < ((rd_L3 t267 x7_2).length : Int)
                case neg =>
                 rw [if_neg c40] at H
                 exact absurd H (by simp)
                rw [if_pos c40] at H
                have c40b0 : decide ((ji38) < ((rd_L3 t267 x7_2).length : Int)) = true := decide_eq_true c40
                clear c40
                by_cases c41 : (rd (rd_L3 t267 (ji31)) x8_2) ≥ (rd (rd_L3 t267 x7_2) (ji38))
                ·rw [if_pos c41] at H
                 have c41b0 : decide ((rd (rd_L3 t267 x7_2) (ji38)) ≤ (rd (rd_L3 t267 (ji31)) x8_2)) = true := decide_eq_true c41
                 clear c41
                 by_cases c42 : x5_2.length < 5864062014805
                 case neg =>
                  rw [if_neg c42] at H
                  exact absurd H (by simp)
                 rw [if_pos c42] at H
                 have LMc42 := Aside0.mk c42
                 clear c42
                 obtain ⟨y285, hy285⟩ : ∃ y_ : List (S31), y_ = (x5_2 ++ [(⟨2, rdOf ByteArray.empty l0 x7_2⟩ : S31)]) := ⟨_, rfl⟩
                 replace H : (spec_EditsOf.l0 kj14 l0 l1 y285 t267 ji31 x8_2) = some r := by first | (rw [hy285]; with_reducible exact H) | (have H2_ := (Option.bind_some _ _).symm.trans H; rw [hy285]; with_reducible exact H2_) | (have H2_ := (Option.bind_some _ _).symm.trans H; with_reducible exact H2_) | with_reducible exact H | (rw [hy285]; exact H) | exact H
                 have Ny285 := Aside0.mk hy285
                 clear hy285
                 have H' := Aside0.mk H
                 clear H
                 obtain ⟨Ao43, co43, eo43⟩ := Kd.S_slice HO_6.out
                 subst eo43
                 have p280 : 0 ≤ ((ji31) : Int) := of_decide_eq_true q0_
                 have q280 : (ji31) < (t267.length : Int) := of_decide_eq_true q0_
                 obtain ⟨ad280, A280_0, c280_0, e280, hx280_0, hl280_0, hi280_0⟩ := at_L3 (Kd.S_reads' HO_6.out).2.2 (ji31) p280 q280
                 cases e280
                 obtain ⟨ce280, hce280, hMe280, hcc280⟩ := Kd.S_get HO_6.out [] (ji31) p280 (by first | exact q280 | exact of_decide_eq_true q0_ | (have e_ := (Kd.S_reads' HO_6.out).1; omega))
                 obtain ⟨ve280_0, rfl, ge280_0⟩ := hMe280
                 have hv280_0 := hcc280 0 _ rfl
                 rw [Nat.add_zero, show ((Kd.slice 3 (Kd.int .i64))).sz = 1 from rfl, Nat.mul_one] at hv280_0
                 replace hv280_0 := Option.some.inj (hv280_0.symm.trans hx280_0)
                 rw [hv280_0] at ge280_0
                 have HL280_0 := Aside0.mk (show Kd.R (Kd.int .i64) 3 _ _ _ _ (rd_L3 t267 (ji31)) from ge280_0)
                 clear hv280_0 ge280_0
                 clear hcc280 hce280
                 have HR280_0 := Aside0.mk hi280_0
                 have HC280_0 := Aside0.mk hl280_0
                 clear hi280_0 hl280_0
                 replace p280 := eq_true p280
                 replace q280 := eq_true q280
                 have p281 : 0 ≤ (x8_2 : Int) := of_decide_eq_true q0_
                 have q281 : x8_2 < ((rd_L3 t267 (ji31)).length : Int) := of_decide_eq_true q0_
                 obtain ⟨ad281, e281, hx281_0⟩ := Kd.at_int (by repeat (first | (with_reducible exact HR280_0.out) | (with_reducible refine Kd.C_alloc ?_ _) | (with_reducible refine Kd.C_drewN ?_ _) | (with_reducible refine Kd.C_drew ?_) | exact HR280_0.out)) x8_2 p281 q281
                 cases e281
                 replace p281 := eq_true p281
                 replace q281 := eq_true q281
                 have p282 : 0 ≤ (x7_2 : Int) := of_decide_eq_true q0_
                 have q282 : x7_2 < (t267.length : Int) := of_decide_eq_true q0_
                 obtain ⟨ad282, A282_0, c282_0, e282, hx282_0, hl282_0, hi282_0⟩ := at_L3 (Kd.S_reads' HO_6.out).2.2 x7_2 p282 q282
                 obtain rfl : ad280 = ad282 := (by injection e282)
                 obtain ⟨ce282, hce282, hMe282, hcc282⟩ := Kd.S_get HO_6.out [] x7_2 p282 (by first | exact q282 | exact of_decide_eq_true q0_ | (have e_ := (Kd.S_reads' HO_6.out).1; omega))
                 obtain ⟨ve282_0, rfl, ge282_0⟩ := hMe282
                 have hv282_0 := hcc282 0 _ rfl
                 rw [Nat.add_zero, show ((Kd.slice 3 (Kd.int .i64))).sz = 1 from rfl, Nat.mul_one] at hv282_0
                 replace hv282_0 := Option.some.inj (hv282_0.symm.trans hx282_0)
                 rw [hv282_0] at ge282_0
                 have HL282_0 := Aside0.mk (show Kd.R (Kd.int .i64) 3 _ _ _ _ (rd_L3 t267 x7_2) from ge282_0)
                 clear hv282_0 ge282_0
                 clear hcc282 hce282
                 have HR282_0 := Aside0.mk hi282_0
                 have HC282_0 := Aside0.mk hl282_0
                 clear hi282_0 hl282_0
                 replace p282 := eq_true p282
                 replace q282 := eq_true q282
                 have p283 : 0 ≤ ((ji38) : Int) := of_decide_eq_true q0_
                 have q283 : (ji38) < ((rd_L3 t267 x7_2).length : Int) := of_decide_eq_true q0_
                 obtain ⟨ad283, e283, hx283_0⟩ := Kd.at_int (by repeat (first | (with_reducible exact HR282_0.out) | (with_reducible refine Kd.C_alloc ?_ _) | (with_reducible refine Kd.C_drewN ?_ _) | (with_reducible refine Kd.C_drew ?_) | exact HR282_0.out)) (ji38) p283 q283
                 cases e283
                 replace p283 := eq_true p283
                 replace q283 := eq_true q283
                 have p284 : 0 ≤ (x7_2 : Int) := of_decide_eq_true q0_
                 have q284 : x7_2 < (l0.length : Int) := of_decide_eq_true q0_
                 obtain ⟨ad284, e284, hx284_0⟩ := Kd.at_string HR0.out x7_2 p284 q284
                 cases e284
                 replace hx284_0 := (HB.out.cell (World.block_lt_of_cell? w _ hx284_0)).trans hx284_0
                 replace p284 := eq_true p284
                 replace q284 := eq_true q284
                 go_wp2_with (first | ((with_reducible refine gate_builtin (b := .append) (xs := #[.tmp 94, .tmp 100]) rfl ?_); (try (refine gate_guard (by rfl) ?_; dsimp only)); at_builtin; refine Kd.R_append k31 (w0 := w) w.heap.size rfl (.tmp 94) (.tmp 100) 25 31 (.agg #[(.int .i64 0), (.string ⟨#[]⟩)]) 24 rfl Try.underlying25 info31 rfl (by decide) (by omega) u5 x5_2 (⟨2, rdOf ByteArray.empty l0 x7_2⟩ : S31) [.int .i64 2, .string (rdOf ByteArray.empty l0 x7_2)] (fun _ => True) (fun _ => False) rfl rfl ?aP (fun _ hk => hk.elim) ?aF ?aO ?aB ?aS ?aL ?_; (case aP => exact k31_mkM _ _ _ (⟨2, rdOf ByteArray.empty l0 x7_2⟩ : S31)); (case aB => exact q2_); (case aF => exact (fun _ _ => trivial)); (case aO => exact q6_); (case aS => exact (below_size q2_)); (case aL => have := LMc42.out; omega); intro v286 w44 ho hb hg hat; rw [← Ny285.out] at ho; have n0_ := Aside0.mk (Kd.S_over' q16_ (Kd.R_typed q6_) (by decide) hg); have n1_ := Aside0.mk (Kd.R_over' q36_ (Kd.R_typed q6_) (by decide) hg); have n2_ := Aside0.mk (Kd.R_over' q37_ (Kd.R_typed q6_) (by decide) hg); have n3_ := Aside0.mk (hb); have n4_ := Aside0.mk (ho); clear HO_6; clear HL280_0; clear HL282_0; clear HB; clear HO_5; have HO_6 := n0_; have HL280_0 := n1_; have HL282_0 := n2_; have HB := n3_; have HO287 := n4_; clear n0_ n1_ n2_ n3_ n4_; clear ho hb hg hat))
                 repeat (go_quiet (first | ((with_reducible refine gate_builtin (b := .append) (xs := #[.tmp 94, .tmp 100]) rfl ?_); (try (refine gate_guard (by rfl) ?_; dsimp only)); at_builtin; refine Kd.R_append k31 (w0 := w) w.heap.size rfl (.tmp 94) (.tmp 100) 25 31 (.agg #[(.int .i64 0), (.string ⟨#[]⟩)]) 24 rfl Try.underlying25 info31 rfl (by decide) (by omega) u5 x5_2 (⟨2, rdOf ByteArray.empty l0 x7_2⟩ : S31) [.int .i64 2, .string (rdOf ByteArray.empty l0 x7_2)] (fun _ => True) (fun _ => False) rfl rfl ?aP (fun _ hk => hk.elim) ?aF ?aO ?aB ?aS ?aL ?_; (case aP => exact k31_mkM _ _ _ (⟨2, rdOf ByteArray.empty l0 x7_2⟩ : S31)); (case aB => exact q2_); (case aF => exact (fun _ _ => trivial)); (case aO => exact q6_); (case aS => exact (below_size q2_)); (case aL => have := LMc42.out; omega); intro v286 w44 ho hb hg hat; rw [← Ny285.out] at ho; have n0_ := Aside0.mk (Kd.S_over' q16_ (Kd.R_typed q6_) (by decide) hg); have n1_ := Aside0.mk (Kd.R_over' q36_ (Kd.R_typed q6_) (by decide) hg); have n2_ := Aside0.mk (Kd.R_over' q37_ (Kd.R_typed q6_) (by decide) hg); have n3_ := Aside0.mk (hb); have n4_ := Aside0.mk (ho); clear HO_6; clear HL280_0; clear HL282_0; clear HB; clear HO_5; have HO_6 := n0_; have HL280_0 := n1_; have HL282_0 := n2_; have HB := n3_; have HO287 := n4_; clear n0_ n1_ n2_ n3_ n4_; clear ho hb hg hat)); try go_wp2_with (first | ((with_reducible refine gate_builtin (b := .append) (xs := #[.tmp 94, .tmp 100]) rfl ?_); (try (refine gate_guard (by rfl) ?_; dsimp only)); at_builtin; refine Kd.R_append k31 (w0 := w) w.heap.size rfl (.tmp 94) (.tmp 100) 25 31 (.agg #[(.int .i64 0), (.string ⟨#[]⟩)]) 24 rfl Try.underlying25 info31 rfl (by decide) (by omega) u5 x5_2 (⟨2, rdOf ByteArray.empty l0 x7_2⟩ : S31) [.int .i64 2, .string (rdOf ByteArray.empty l0 x7_2)] (fun _ => True) (fun _ => False) rfl rfl ?aP (fun _ hk => hk.elim) ?aF ?aO ?aB ?aS ?aL ?_; (case aP => exact k31_mkM _ _ _ (⟨2, rdOf ByteArray.empty l0 x7_2⟩ : S31)); (case aB => exact q2_); (case aF => exact (fun _ _ => trivial)); (case aO => exact q6_); (case aS => exact (below_size q2_)); (case aL => have := LMc42.out; omega); intro v286 w44 ho hb hg hat; rw [← Ny285.out] at ho; have n0_ := Aside0.mk (Kd.S_over' q16_ (Kd.R_typed q6_) (by decide) hg); have n1_ := Aside0.mk (Kd.R_over' q36_ (Kd.R_typed q6_) (by decide) hg); have n2_ := Aside0.mk (Kd.R_over' q37_ (Kd.R_typed q6_) (by decide) hg); have n3_ := Aside0.mk (hb); have n4_ := Aside0.mk (ho); clear HO_6; clear HL280_0; clear HL282_0; clear HB; clear HO_5; have HO_6 := n0_; have HL280_0 := n1_; have HL282_0 := n2_; have HB := n3_; have HO287 := n4_; clear n0_ n1_ n2_ n3_ n4_; clear ho hb hg hat)))
                 go_roundg kj14
                 case measure => have := HJ2.out; have := HK2.out; have := HJ11.out; have := HJ14.out; omega
                 case rel => exact ⟨(y285), (ji31), (x8_2), (by first | rfl | (simp; done) | (simp only [← hji31] <;> (first | rfl | simp)) | (simp [*]; done)), q7_, H', ⟨by have := HJ2.out; have := HK2.out; have := HJ11.out; have := HJ14.out; omega⟩, ⟨by (with_reducible repeat (first | apply Kd.R_alloc | apply Kd.R_drewN | apply Kd.R_drew)); exact HO287.out⟩, ⟨by (with_reducible repeat (first | apply Kd.S_alloc | apply Kd.S_drewN | apply Kd.S_drew)); exact HO_6.out⟩, ⟨by repeat (first | (with_reducible first | exact HB.out | apply below_alloc | apply pw_below_drewN | apply below_drew1) | exact HB.out)⟩⟩
                ·rw [if_neg c41] at H
                 have c41b0 : decide ((rd (rd_L3 t267 x7_2) (ji38)) ≤ (rd (rd_L3 t267 (ji31)) x8_2)) = false := decide_eq_false c41
                 clear c41
                 by_cases c45 : x8_2 < (l1.length : Int)
                 case neg =>
                  rw [if_neg c45] at H
                  exact absurd H (by simp)
                 rw [if_pos c45] at H
                 have c45b0 : decide (x8_2 < (l1.length : Int)) = true := decide_eq_true c45
                 clear c45
                 by_cases c46 : x5_2.length < 5864062014805
                 case neg =>
                  rw [if_neg c46] at H
                  exact absurd H (by simp)
                 rw [if_pos c46] at H
                 have LMc46 := Aside0.mk c46
                 clear c46
                 obtain ⟨y289, hy289⟩ : ∃ y_ : List (S31), y_ = (x5_2 ++ [(⟨3, rdOf ByteArray.empty l1 x8_2⟩ : S31)]) := ⟨_, rfl⟩
                 replace H : (spec_EditsOf.l0 kj14 l0 l1 y289 t267 x7_2 ji38) = some r := by first | (rw [hy289]; with_reducible exact H) | (have H2_ := (Option.bind_some _ _).symm.trans H; rw [hy289]; with_reducible exact H2_) | (have H2_ := (Option.bind_some _ _).symm.trans H; with_reducible exact H2_) | with_reducible exact H | (rw [hy289]; exact H) | exact H
                 have Ny289 := Aside0.mk hy289
                 clear hy289
                 have H' := Aside0.mk H
                 clear H
                 obtain ⟨Ao47, co47, eo47⟩ := Kd.S_slice HO_6.out
                 subst eo47
                 have p280 : 0 ≤ ((ji31) : Int) := of_decide_eq_true q0_
                 have q280 : (ji31) < (t267.length : Int) := of_decide_eq_true q0_
                 obtain ⟨ad280, A280_0, c280_0, e280, hx280_0, hl280_0, hi280_0⟩ := at_L3 (Kd.S_reads' HO_6.out).2.2 (ji31) p280 q280
                 cases e280
                 obtain ⟨ce280, hce280, hMe280, hcc280⟩ := Kd.S_get HO_6.out [] (ji31) p280 (by first | exact q280 | exact of_decide_eq_true q0_ | (have e_ := (Kd.S_reads' HO_6.out).1; omega))
                 obtain ⟨ve280_0, rfl, ge280_0⟩ := hMe280
                 have hv280_0 := hcc280 0 _ rfl
                 rw [Nat.add_zero, show ((Kd.slice 3 (Kd.int .i64))).sz = 1 from rfl, Nat.mul_one] at hv280_0
                 replace hv280_0 := Option.some.inj (hv280_0.symm.trans hx280_0)
                 rw [hv280_0] at ge280_0
                 have HL280_0 := Aside0.mk (show Kd.R (Kd.int .i64) 3 _ _ _ _ (rd_L3 t267 (ji31)) from ge280_0)
                 clear hv280_0 ge280_0
                 clear hcc280 hce280
                 have HR280_0 := Aside0.mk hi280_0
                 have HC280_0 := Aside0.mk hl280_0
                 clear hi280_0 hl280_0
                 replace p280 := eq_true p280
                 replace q280 := eq_true q280
                 have p281 : 0 ≤ (x8_2 : Int) := of_decide_eq_true q0_
                 have q281 : x8_2 < ((rd_L3 t267 (ji31)).length : Int) := of_decide_eq_true q0_
                 obtain ⟨ad281, e281, hx281_0⟩ := Kd.at_int (by repeat (first | (with_reducible exact HR280_0.out) | (with_reducible refine Kd.C_alloc ?_ _) | (with_reducible refine Kd.C_drewN ?_ _) | (with_reducible refine Kd.C_drew ?_) | exact HR280_0.out)) x8_2 p281 q281
                 cases e281
                 replace p281 := eq_true p281
                 replace q281 := eq_true q281
                 have p282 : 0 ≤ (x7_2 : Int) := of_decide_eq_true q0_
                 have q282 : x7_2 < (t267.length : Int) := of_decide_eq_true q0_
                 obtain ⟨ad282, A282_0, c282_0, e282, hx282_0, hl282_0, hi282_0⟩ := at_L3 (Kd.S_reads' HO_6.out).2.2 x7_2 p282 q282
                 obtain rfl : ad280 = ad282 := (by injection e282)
                 obtain ⟨ce282, hce282, hMe282, hcc282⟩ := Kd.S_get HO_6.out [] x7_2 p282 (by first | exact q282 | exact of_decide_eq_true q0_ | (have e_ := (Kd.S_reads' HO_6.out).1; omega))
                 obtain ⟨ve282_0, rfl, ge282_0⟩ := hMe282
                 have hv282_0 := hcc282 0 _ rfl
                 rw [Nat.add_zero, show ((Kd.slice 3 (Kd.int .i64))).sz = 1 from rfl, Nat.mul_one] at hv282_0
                 replace hv282_0 := Option.some.inj (hv282_0.symm.trans hx282_0)
                 rw [hv282_0] at ge282_0
                 have HL282_0 := Aside0.mk (show Kd.R (Kd.int .i64) 3 _ _ _ _ (rd_L3 t267 x7_2) from ge282_0)
                 clear hv282_0 ge282_0
                 clear hcc282 hce282
                 have HR282_0 := Aside0.mk hi282_0
                 have HC282_0 := Aside0.mk hl282_0
                 clear hi282_0 hl282_0
                 replace p282 := eq_true p282
                 replace q282 := eq_true q282
                 have p283 : 0 ≤ ((ji38) : Int) := of_decide_eq_true q0_
                 have q283 : (ji38) < ((rd_L3 t267 x7_2).length : Int) := of_decide_eq_true q0_
                 obtain ⟨ad283, e283, hx283_0⟩ := Kd.at_int (by repeat (first | (with_reducible exact HR282_0.out) | (with_reducible refine Kd.C_alloc ?_ _) | (with_reducible refine Kd.C_drewN ?_ _) | (with_reducible refine Kd.C_drew ?_) | exact HR282_0.out)) (ji38) p283 q283
                 cases e283
                 replace p283 := eq_true p283
                 replace q283 := eq_true q283
                 have p288 : 0 ≤ (x8_2 : Int) := of_decide_eq_true q0_
                 have q288 : x8_2 < (l1.length : Int) := of_decide_eq_true q0_
                 obtain ⟨ad288, e288, hx288_0⟩ := Kd.at_string HR1.out x8_2 p288 q288
                 cases e288
                 replace hx288_0 := (HB.out.cell (World.block_lt_of_cell? w _ hx288_0)).trans hx288_0
                 replace p288 := eq_true p288
                 replace q288 := eq_true q288
                 go_wp2_with (first | ((with_reducible refine gate_builtin (b := .append) (xs := #[.tmp 104, .tmp 110]) rfl ?_); (try (refine gate_guard (by rfl) ?_; dsimp only)); at_builtin; refine Kd.R_append k31 (w0 := w) w.heap.size rfl (.tmp 104) (.tmp 110) 25 31 (.agg #[(.int .i64 0), (.string ⟨#[]⟩)]) 24 rfl Try.underlying25 info31 rfl (by decide) (by omega) u5 x5_2 (⟨3, rdOf ByteArray.empty l1 x8_2⟩ : S31) [.int .i64 3, .string (rdOf ByteArray.empty l1 x8_2)] (fun _ => True) (fun _ => False) rfl rfl ?aP (fun _ hk => hk.elim) ?aF ?aO ?aB ?aS ?aL ?_; (case aP => exact k31_mkM _ _ _ (⟨3, rdOf ByteArray.empty l1 x8_2⟩ : S31)); (case aB => exact q2_); (case aF => exact (fun _ _ => trivial)); (case aO => exact q6_); (case aS => exact (below_size q2_)); (case aL => have := LMc46.out; omega); intro v290 w48 ho hb hg hat; rw [← Ny289.out] at ho; have n0_ := Aside0.mk (Kd.S_over' q16_ (Kd.R_typed q6_) (by decide) hg); have n1_ := Aside0.mk (Kd.R_over' q36_ (Kd.R_typed q6_) (by decide) hg); have n2_ := Aside0.mk (Kd.R_over' q37_ (Kd.R_typed q6_) (by decide) hg); have n3_ := Aside0.mk (hb); have n4_ := Aside0.mk (ho); clear HO_6; clear HL280_0; clear HL282_0; clear HB; clear HO_5; have HO_6 := n0_; have HL280_0 := n1_; have HL282_0 := n2_; have HB := n3_; have HO291 := n4_; clear n0_ n1_ n2_ n3_ n4_; clear ho hb hg hat))
                 repeat (go_quiet (first | ((with_reducible refine gate_builtin (b := .append) (xs := #[.tmp 104, .tmp 110]) rfl ?_); (try (refine gate_guard (by rfl) ?_; dsimp only)); at_builtin; refine Kd.R_append k31 (w0 := w) w.heap.size rfl (.tmp 104) (.tmp 110) 25 31 (.agg #[(.int .i64 0), (.string ⟨#[]⟩)]) 24 rfl Try.underlying25 info31 rfl (by decide) (by omega) u5 x5_2 (⟨3, rdOf ByteArray.empty l1 x8_2⟩ : S31) [.int .i64 3, .string (rdOf ByteArray.empty l1 x8_2)] (fun _ => True) (fun _ => False) rfl rfl ?aP (fun _ hk => hk.elim) ?aF ?aO ?aB ?aS ?aL ?_; (case aP => exact k31_mkM _ _ _ (⟨3, rdOf ByteArray.empty l1 x8_2⟩ : S31)); (case aB => exact q2_); (case aF => exact (fun _ _ => trivial)); (case aO => exact q6_); (case aS => exact (below_size q2_)); (case aL => have := LMc46.out; omega); intro v290 w48 ho hb hg hat; rw [← Ny289.out] at ho; have n0_ := Aside0.mk (Kd.S_over' q16_ (Kd.R_typed q6_) (by decide) hg); have n1_ := Aside0.mk (Kd.R_over' q36_ (Kd.R_typed q6_) (by decide) hg); have n2_ := Aside0.mk (Kd.R_over' q37_ (Kd.R_typed q6_) (by decide) hg); have n3_ := Aside0.mk (hb); have n4_ := Aside0.mk (ho); clear HO_6; clear HL280_0; clear HL282_0; clear HB; clear HO_5; have HO_6 := n0_; have HL280_0 := n1_; have HL282_0 := n2_; have HB := n3_; have HO291 := n4_; clear n0_ n1_ n2_ n3_ n4_; clear ho hb hg hat)); try go_wp2_with (first | ((with_reducible refine gate_builtin (b := .append) (xs := #[.tmp 104, .tmp 110]) rfl ?_); (try (refine gate_guard (by rfl) ?_; dsimp only)); at_builtin; refine Kd.R_append k31 (w0 := w) w.heap.size rfl (.tmp 104) (.tmp 110) 25 31 (.agg #[(.int .i64 0), (.string ⟨#[]⟩)]) 24 rfl Try.underlying25 info31 rfl (by decide) (by omega) u5 x5_2 (⟨3, rdOf ByteArray.empty l1 x8_2⟩ : S31) [.int .i64 3, .string (rdOf ByteArray.empty l1 x8_2)] (fun _ => True) (fun _ => False) rfl rfl ?aP (fun _ hk => hk.elim) ?aF ?aO ?aB ?aS ?aL ?_; (case aP => exact k31_mkM _ _ _ (⟨3, rdOf ByteArray.empty l1 x8_2⟩ : S31)); (case aB => exact q2_); (case aF => exact (fun _ _ => trivial)); (case aO => exact q6_); (case aS => exact (below_size q2_)); (case aL => have := LMc46.out; omega); intro v290 w48 ho hb hg hat; rw [← Ny289.out] at ho; have n0_ := Aside0.mk (Kd.S_over' q16_ (Kd.R_typed q6_) (by decide) hg); have n1_ := Aside0.mk (Kd.R_over' q36_ (Kd.R_typed q6_) (by decide) hg); have n2_ := Aside0.mk (Kd.R_over' q37_ (Kd.R_typed q6_) (by decide) hg); have n3_ := Aside0.mk (hb); have n4_ := Aside0.mk (ho); clear HO_6; clear HL280_0; clear HL282_0; clear HB; clear HO_5; have HO_6 := n0_; have HL280_0 := n1_; have HL282_0 := n2_; have HB := n3_; have HO291 := n4_; clear n0_ n1_ n2_ n3_ n4_; clear ho hb hg hat)))
                 go_roundg kj14
                 case measure => have := HJ2.out; have := HK2.out; have := HJ11.out; have := HJ14.out; omega
                 case rel => exact ⟨(y289), (x7_2), (ji38), q7_, (by first | rfl | (simp; done) | (simp only [← hji38] <;> (first | rfl | simp)) | (simp [*]; done)), H', ⟨by have := HJ2.out; have := HK2.out; have := HJ11.out; have := HJ14.out; omega⟩, ⟨by (with_reducible repeat (first | apply Kd.R_alloc | apply Kd.R_drewN | apply Kd.R_drew)); exact HO291.out⟩, ⟨by (with_reducible repeat (first | apply Kd.S_alloc | apply Kd.S_drewN | apply Kd.S_drew)); exact HO_6.out⟩, ⟨by repeat (first | (with_reducible first | exact HB.out | apply below_alloc | apply pw_below_drewN | apply below_drew1) | exact HB.out)⟩⟩
               ·rw [if_neg c30] at H
                have c30b0 : decide (x7_2 < (l0.length : Int)) = false := decide_eq_false c30
                clear c30
                by_cases c49 : 0 ≤ x8_2
                case neg =>
                 rw [if_neg c49] at H
                 exact absurd H (by simp)
                rw [if_pos c49] at H
                have c49b0 : decide (0 ≤ x8_2) = true := decide_eq_true c49
                clear c49
                by_cases c50 : x8_2 < (l1.length : Int)
                case neg =>
                 rw [if_neg c50] at H
                 exact absurd H (by simp)
                rw [if_pos c50] at H
                have c50b0 : decide (x8_2 < (l1.length : Int)) = true := decide_eq_true c50
                clear c50
                by_cases c51 : x5_2.length < 5864062014805
                case neg =>
                 rw [if_neg c51] at H
                 exact absurd H (by simp)
                rw [if_pos c51] at H
                have LMc51 := Aside0.mk c51
                clear c51
                obtain ⟨y293, hy293⟩ : ∃ y_ : List (S31), y_ = (x5_2 ++ [(⟨3, rdOf ByteArray.empty l1 x8_2⟩ : S31)]) := ⟨_, rfl⟩
                replace H : (spec_EditsOf.l0 kj14 l0 l1 y293 t267 x7_2 (wrap64 (x8_2 + 1))) = some r := by first | (rw [hy293]; with_reducible exact H) | (have H2_ := (Option.bind_some _ _).symm.trans H; rw [hy293]; with_reducible exact H2_) | (have H2_ := (Option.bind_some _ _).symm.trans H; with_reducible exact H2_) | with_reducible exact H | (rw [hy293]; exact H) | exact H
                have Ny293 := Aside0.mk hy293
                clear hy293
                have H' := Aside0.mk H
                clear H
                have p292 : 0 ≤ (x8_2 : Int) := of_decide_eq_true q0_
                have q292 : x8_2 < (l1.length : Int) := of_decide_eq_true q0_
                obtain ⟨ad292, e292, hx292_0⟩ := Kd.at_string HR1.out x8_2 p292 q292
                cases e292
                replace hx292_0 := (HB.out.cell (World.block_lt_of_cell? w _ hx292_0)).trans hx292_0
                replace p292 := eq_true p292
                replace q292 := eq_true q292
                go_wp2_with (first | ((with_reducible refine gate_builtin (b := .append) (xs := #[.tmp 104, .tmp 110]) rfl ?_); (try (refine gate_guard (by rfl) ?_; dsimp only)); at_builtin; refine Kd.R_append k31 (w0 := w) w.heap.size rfl (.tmp 104) (.tmp 110) 25 31 (.agg #[(.int .i64 0), (.string ⟨#[]⟩)]) 24 rfl Try.underlying25 info31 rfl (by decide) (by omega) u5 x5_2 (⟨3, rdOf ByteArray.empty l1 x8_2⟩ : S31) [.int .i64 3, .string (rdOf ByteArray.empty l1 x8_2)] (fun _ => True) (fun _ => False) rfl rfl ?aP (fun _ hk => hk.elim) ?aF ?aO ?aB ?aS ?aL ?_; (case aP => exact k31_mkM _ _ _ (⟨3, rdOf ByteArray.empty l1 x8_2⟩ : S31)); (case aB => exact q2_); (case aF => exact (fun _ _ => trivial)); (case aO => exact q6_); (case aS => exact (below_size q2_)); (case aL => have := LMc51.out; omega); intro v294 w52 ho hb hg hat; rw [← Ny293.out] at ho; have n0_ := Aside0.mk (Kd.S_over' q16_ (Kd.R_typed q6_) (by decide) hg); have n1_ := Aside0.mk (hb); have n2_ := Aside0.mk (ho); clear HO_6; clear HB; clear HO_5; have HO_6 := n0_; have HB := n1_; have HO295 := n2_; clear n0_ n1_ n2_; clear ho hb hg hat))
                repeat (go_quiet (first | ((with_reducible refine gate_builtin (b := .append) (xs := #[.tmp 104, .tmp 110]) rfl ?_); (try (refine gate_guard (by rfl) ?_; dsimp only)); at_builtin; refine Kd.R_append k31 (w0 := w) w.heap.size rfl (.tmp 104) (.tmp 110) 25 31 (.agg #[(.int .i64 0), (.string ⟨#[]⟩)]) 24 rfl Try.underlying25 info31 rfl (by decide) (by omega) u5 x5_2 (⟨3, rdOf ByteArray.empty l1 x8_2⟩ : S31) [.int .i64 3, .string (rdOf ByteArray.empty l1 x8_2)] (fun _ => True) (fun _ => False) rfl rfl ?aP (fun _ hk => hk.elim) ?aF ?aO ?aB ?aS ?aL ?_; (case aP => exact k31_mkM _ _ _ (⟨3, rdOf ByteArray.empty l1 x8_2⟩ : S31)); (case aB => exact q2_); (case aF => exact (fun _ _ => trivial)); (case aO => exact q6_); (case aS => exact (below_size q2_)); (case aL => have := LMc51.out; omega); intro v294 w52 ho hb hg hat; rw [← Ny293.out] at ho; have n0_ := Aside0.mk (Kd.S_over' q16_ (Kd.R_typed q6_) (by decide) hg); have n1_ := Aside0.mk (hb); have n2_ := Aside0.mk (ho); clear HO_6; clear HB; clear HO_5; have HO_6 := n0_; have HB := n1_; have HO295 := n2_; clear n0_ n1_ n2_; clear ho hb hg hat)); try go_wp2_with (first | ((with_reducible refine gate_builtin (b := .append) (xs := #[.tmp 104, .tmp 110]) rfl ?_); (try (refine gate_guard (by rfl) ?_; dsimp only)); at_builtin; refine Kd.R_append k31 (w0 := w) w.heap.size rfl (.tmp 104) (.tmp 110) 25 31 (.agg #[(.int .i64 0), (.string ⟨#[]⟩)]) 24 rfl Try.underlying25 info31 rfl (by decide) (by omega) u5 x5_2 (⟨3, rdOf ByteArray.empty l1 x8_2⟩ : S31) [.int .i64 3, .string (rdOf ByteArray.empty l1 x8_2)] (fun _ => True) (fun _ => False) rfl rfl ?aP (fun _ hk => hk.elim) ?aF ?aO ?aB ?aS ?aL ?_; (case aP => exact k31_mkM _ _ _ (⟨3, rdOf ByteArray.empty l1 x8_2⟩ : S31)); (case aB => exact q2_); (case aF => exact (fun _ _ => trivial)); (case aO => exact q6_); (case aS => exact (below_size q2_)); (case aL => have := LMc51.out; omega); intro v294 w52 ho hb hg hat; rw [← Ny293.out] at ho; have n0_ := Aside0.mk (Kd.S_over' q16_ (Kd.R_typed q6_) (by decide) hg); have n1_ := Aside0.mk (hb); have n2_ := Aside0.mk (ho); clear HO_6; clear HB; clear HO_5; have HO_6 := n0_; have HB := n1_; have HO295 := n2_; clear n0_ n1_ n2_; clear ho hb hg hat)))
                go_roundg kj14
                case measure => have := HJ2.out; have := HK2.out; have := HJ11.out; have := HJ14.out; omega
                case rel => exact ⟨(y293), (x7_2), (wrap64 (x8_2 + 1)), q7_, q7_, H', ⟨by have := HJ2.out; have := HK2.out; have := HJ11.out; have := HJ14.out; omega⟩, ⟨by (with_reducible repeat (first | apply Kd.R_alloc | apply Kd.R_drewN | apply Kd.R_drew)); exact HO295.out⟩, ⟨by (with_reducible repeat (first | apply Kd.S_alloc | apply Kd.S_drewN | apply Kd.S_drew)); exact HO_6.out⟩, ⟨by repeat (first | (with_reducible first | exact HB.out | apply below_alloc | apply pw_below_drewN | apply below_drew1) | exact HB.out)⟩⟩
          ·replace c14 := Bool.eq_false_iff.mpr c14
           subst c14
           have H1 : (some x5_2) = some r := by rw [if_neg (show ¬ (false = true) by decide)] at H; exact H
           clear H
           have H := H1
           clear H1
           obtain rfl := Option.some.inj H
           go_wp2
           repeat (go_quiet (fail); try go_wp2)
           go_ret
           exact ⟨_, by first | rfl | (simp [errW_none, errW_some] <;> rfl) | (simp [*, errW_none, errW_some] <;> rfl), by (with_reducible repeat (first | apply Kd.R_alloc | apply Kd.R_drewN | apply Kd.R_drew)); exact HO_5.out, by repeat (first | (with_reducible first | exact HB.out | apply below_alloc | apply pw_below_drewN | apply below_drew1) | exact HB.out)⟩

end Go.Proofs.Ytjdjcbjeklliaaa.PFnLeast
-- (flat)
-- (thin)
