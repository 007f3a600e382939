-- Made by a program (the kit's print with additions of this session: wip/tools/patch_print.py, ext.py).
-- (turned)
import Derived.Test.YtfaebcoembcfoaaDoorPFnNumbersx0
import Derived.Test.YtfaebcoembcfoaaDoorPFnNumbersx1
namespace Go.Proofs.YtfaebcoembcfoaaDoor.PFnNumbers
open Go.RowKit Go.Proofs.YtfaebcoembcfoaaDoorW.PrintWords Go.Proofs.YtfaebcoembcfoaaDoorW.PrintLast Go.Proofs.YtfaebcoembcfoaaDoorW.PrintMore
attribute [local go_sem] max2_int min2_int max_two min_two max_three min_three max_four min_four   -- for this text's walks alone
set_option linter.unusedVariables false
set_option linter.unusedSimpArgs false

/-! ### impl_VarText: function 15 -/
def impl_VarText.f (k : Nat) (a0 : Int) : Option (ByteArray × Bool) := if a0 < 0 then (some ((⟨#[]⟩ : ByteArray), false)) else (if a0 > 1000000000 then (some ((⟨#[]⟩ : ByteArray), false)) else ((impl_varText.f k a0).bind fun t153 => (some (t153, true))))
theorem impl_VarText.mono : ∀ a0 k, LeO (impl_VarText.f k a0) (impl_VarText.f (k + 1) a0) := by
  intro a0 k
  unfold impl_VarText.f
  repeat' first
      | (with_reducible exact impl_varText.mono _ _)
      | (with_reducible exact LeO.refl _)
      | (with_reducible exact LeO.none _)
      | (with_reducible refine LeO.ite ?_ ?_)
      | (with_reducible refine LeO.bind ?_ (fun _ => ?_))
      | exact impl_varText.mono _ _
      | exact LeO.none _
      | refine LeO.ite ?_ ?_
      | refine LeO.bind ?_ (fun _ => ?_)
set_option maxHeartbeats 8000000 in
set_option maxRecDepth 100000 in
theorem impl_VarText.calls (k : Nat) (a0 : Int) (r1 : ByteArray) (r2 : Bool) (w : World) (h : impl_VarText.f k a0 = some (r1, r2)) :
    Calls Tryd.prog 15 #[.int .i64 a0] w fun e w' => e = .returned (.tuple #[.string r1, .bool r2]) ∧ Below w.heap.size w w' := by
  have HB := Aside0.mk (Below.refl w.heap.size w)
  have H : (if a0 < 0 then (some ((⟨#[]⟩ : ByteArray), false)) else (if a0 > 1000000000 then (some ((⟨#[]⟩ : ByteArray), false)) else ((impl_varText.f k a0).bind fun t153 => (some (t153, true))))) = some (r1, r2) := h
  clear h
  by_cases c2 : a0 < 0
  · rw [if_pos c2] at H
    have c2b0 : decide (a0 < 0) = true := decide_eq_true c2
    clear c2
    simp only [Option.some.injEq, Prod.mk.injEq] at H
    obtain ⟨rfl, rfl⟩ := H
    go_enter Tryd.func15, Tryd.ntmps15
    go_wp2
    go_ret2
    exact ⟨by first | rfl | (simp [errW_none, errW_some] <;> rfl) | (simp [*, errW_none, errW_some] <;> rfl), by repeat (first | (with_reducible first | exact HB.out | apply below_alloc | apply pw_below_drewN | apply below_drew1) | exact HB.out)⟩
  · rw [if_neg c2] at H
    have c2b0 : decide (a0 < 0) = false := decide_eq_false c2
    clear c2
    by_cases c3 : a0 > 1000000000
    · rw [if_pos c3] at H
      have c3b0 : decide (1000000000 < a0) = true := decide_eq_true c3
      clear c3
      simp only [Option.some.injEq, Prod.mk.injEq] at H
      obtain ⟨rfl, rfl⟩ := H
      go_enter Tryd.func15, Tryd.ntmps15
      go_wp2
      go_ret2
      exact ⟨by first | rfl | (simp [errW_none, errW_some] <;> rfl) | (simp [*, errW_none, errW_some] <;> rfl), by repeat (first | (with_reducible first | exact HB.out | apply below_alloc | apply pw_below_drewN | apply below_drew1) | exact HB.out)⟩
    · rw [if_neg c3] at H
      have c3b0 : decide (1000000000 < a0) = false := decide_eq_false c3
      clear c3
      replace H := Option.bind_eq_some_iff.mp H
      obtain ⟨t153, A40, H⟩ := H
      replace H : (some (t153, true)) = some (r1, r2) := H
      have A4 := Aside0.mk A40
      clear A40
      simp only [Option.some.injEq, Prod.mk.injEq] at H
      obtain ⟨rfl, rfl⟩ := H
      go_enter Tryd.func15, Tryd.ntmps15
      go_wp2_with (first | ((with_reducible refine gate_callee (f := 32) rfl ?_); refine goesL_ (some 11) rfl rfl Tryd.func32 (by kernel_rfl) rfl #[.int .i64 a0] rfl (by (try simp only [List.map_toArray, List.map_cons, List.map_nil]); first | done | rfl | (simp only [List.length_drop, List.length_take]; rfl)) ?_; (with_reducible refine (impl_varText.calls k a0 t153 _ A4.out).mono ?_); rintro e w5 ⟨rfl, hb⟩; refine ⟨_, rfl, ?_⟩; have n0_ := Aside0.mk (below_step (by repeat (first | (with_reducible first | exact HB.out | apply below_alloc | apply pw_below_drewN | apply below_drew1) | exact HB.out)) hb); clear HB; have HB := n0_; clear n0_; (try clear hb); (try clear hb2); (try clear hk); (try clear hi)))
      go_ret2
      exact ⟨by first | rfl | (simp [errW_none, errW_some] <;> rfl) | (simp [*, errW_none, errW_some] <;> rfl), by repeat (first | (with_reducible first | exact HB.out | apply below_alloc | apply pw_below_drewN | apply below_drew1) | exact HB.out)⟩

/-! ### impl_ReadVar: function 16 -/
mutual
def impl_ReadVar.j0 : Nat → ByteArray → Int → Bool → Option (Int × Int × Bool)
  | 0, _, _, _ => none
  | k + 1, x0, x1, x18 => if x18 = true then (some (0, 0, false)) else (impl_ReadVar.l0 k x0 x1 0 1 0)
def impl_ReadVar.l0 : Nat → ByteArray → Int → Int → Int → Int → Option (Int × Int × Bool)
  | 0, _, _, _, _, _ => none
  | k + 1, x0, x1, x7, x8, x9 => if x9 < 5 then (impl_ReadVar.j2 k x0 x1 x7 x8 x9 (decide ((wrap64 (x1 + x9)) < (x0.size : Int)))) else (impl_ReadVar.j2 k x0 x1 x7 x8 x9 false)
def impl_ReadVar.j2 : Nat → ByteArray → Int → Int → Int → Int → Bool → Option (Int × Int × Bool)
  | 0, _, _, _, _, _, _ => none
  | k + 1, x0, x1, x7, x8, x9, x28 => if x28 = true then (if 0 ≤ (wrap64 (x1 + x9)) then (if (wrap64 (x1 + x9)) < (x0.size : Int) then (if (wrap64 (bt x0 (wrap64 (x1 + x9)))) ≥ 128 then (impl_ReadVar.l0 k x0 x1 (wrap64 (x7 + (wrap64 ((Int.tmod (wrap64 (bt x0 (wrap64 (x1 + x9)))) 128) * x8)))) (wrap64 (x8 * 128)) (wrap64 (x9 + 1))) else (if (wrap64 (bt x0 (wrap64 (x1 + x9)))) = 0 then (if x9 > 0 then (some (0, 0, false)) else (if (wrap64 (x7 + (wrap64 ((Int.tmod (wrap64 (bt x0 (wrap64 (x1 + x9)))) 128) * x8)))) > 1000000000 then (some (0, 0, false)) else (some (wrap64 (x7 + (wrap64 ((Int.tmod (wrap64 (bt x0 (wrap64 (x1 + x9)))) 128) * x8))), wrap64 ((wrap64 (x1 + x9)) + 1), true)))) else (if (wrap64 (x7 + (wrap64 ((Int.tmod (wrap64 (bt x0 (wrap64 (x1 + x9)))) 128) * x8)))) > 1000000000 then (some (0, 0, false)) else (some (wrap64 (x7 + (wrap64 ((Int.tmod (wrap64 (bt x0 (wrap64 (x1 + x9)))) 128) * x8))), wrap64 ((wrap64 (x1 + x9)) + 1), true))))) else (none)) else (none)) else (some (0, 0, false))
end
def impl_ReadVar.f (k : Nat) (a0 : ByteArray) (a1 : Int) : Option (Int × Int × Bool) := if a1 < 0 then (impl_ReadVar.j0 k a0 a1 true) else (impl_ReadVar.j0 k a0 a1 (decide (a1 > (a0.size : Int))))
theorem impl_ReadVar.mono_l : ∀ k, (∀ y0 y1 y2, LeO (impl_ReadVar.j0 k y0 y1 y2) (impl_ReadVar.j0 (k + 1) y0 y1 y2)) ∧ (∀ y0 y1 y2 y3 y4, LeO (impl_ReadVar.l0 k y0 y1 y2 y3 y4) (impl_ReadVar.l0 (k + 1) y0 y1 y2 y3 y4)) ∧ (∀ y0 y1 y2 y3 y4 y5, LeO (impl_ReadVar.j2 k y0 y1 y2 y3 y4 y5) (impl_ReadVar.j2 (k + 1) y0 y1 y2 y3 y4 y5))
  | 0 => ⟨fun _ _ _ r h => by simp [impl_ReadVar.j0] at h, fun _ _ _ _ _ r h => by simp [impl_ReadVar.l0] at h, fun _ _ _ _ _ _ r h => by simp [impl_ReadVar.j2] at h⟩
  | k + 1 => by
    obtain ⟨ih0, ih1, ih2⟩ := impl_ReadVar.mono_l k
    refine ⟨?_, ?_, ?_⟩
    · intro y0 y1 y2
      unfold impl_ReadVar.j0
      repeat' first
      | (with_reducible exact ih0 _ _ _)
      | (with_reducible exact ih1 _ _ _ _ _)
      | (with_reducible exact ih2 _ _ _ _ _ _)
      | (with_reducible exact LeO.refl _)
      | (with_reducible exact LeO.none _)
      | (with_reducible refine LeO.ite ?_ ?_)
      | (with_reducible refine LeO.bind ?_ (fun _ => ?_))
      | exact ih0 _ _ _
      | exact ih1 _ _ _ _ _
      | exact ih2 _ _ _ _ _ _
      | exact LeO.none _
      | refine LeO.ite ?_ ?_
      | refine LeO.bind ?_ (fun _ => ?_)
    · intro y0 y1 y2 y3 y4
      unfold impl_ReadVar.l0
      repeat' first
      | (with_reducible exact ih0 _ _ _)
      | (with_reducible exact ih1 _ _ _ _ _)
      | (with_reducible exact ih2 _ _ _ _ _ _)
      | (with_reducible exact LeO.refl _)
      | (with_reducible exact LeO.none _)
      | (with_reducible refine LeO.ite ?_ ?_)
      | (with_reducible refine LeO.bind ?_ (fun _ => ?_))
      | exact ih0 _ _ _
      | exact ih1 _ _ _ _ _
      | exact ih2 _ _ _ _ _ _
      | exact LeO.none _
      | refine LeO.ite ?_ ?_
      | refine LeO.bind ?_ (fun _ => ?_)
    · intro y0 y1 y2 y3 y4 y5
      unfold impl_ReadVar.j2
      repeat' first
      | (with_reducible exact ih0 _ _ _)
      | (with_reducible exact ih1 _ _ _ _ _)
      | (with_reducible exact ih2 _ _ _ _ _ _)
      | (with_reducible exact LeO.refl _)
      | (with_reducible exact LeO.none _)
      | (with_reducible refine LeO.ite ?_ ?_)
      | (with_reducible refine LeO.bind ?_ (fun _ => ?_))
      | exact ih0 _ _ _
      | exact ih1 _ _ _ _ _
      | exact ih2 _ _ _ _ _ _
      | exact LeO.none _
      | refine LeO.ite ?_ ?_
      | refine LeO.bind ?_ (fun _ => ?_)
theorem impl_ReadVar.mono : ∀ a0 a1 k, LeO (impl_ReadVar.f k a0 a1) (impl_ReadVar.f (k + 1) a0 a1) := by
  intro a0 a1 k
  obtain ⟨ih0, ih1, ih2⟩ := impl_ReadVar.mono_l k
  unfold impl_ReadVar.f
  repeat' first
      | (with_reducible exact ih0 _ _ _)
      | (with_reducible exact ih1 _ _ _ _ _)
      | (with_reducible exact ih2 _ _ _ _ _ _)
      | (with_reducible exact LeO.refl _)
      | (with_reducible exact LeO.none _)
      | (with_reducible refine LeO.ite ?_ ?_)
      | (with_reducible refine LeO.bind ?_ (fun _ => ?_))
      | exact ih0 _ _ _
      | exact ih1 _ _ _ _ _
      | exact ih2 _ _ _ _ _ _
      | exact LeO.none _
      | refine LeO.ite ?_ ?_
      | refine LeO.bind ?_ (fun _ => ?_)
set_option maxHeartbeats 8000000 in
set_option maxRecDepth 100000 in
theorem impl_ReadVar.calls (k : Nat) (a0 : ByteArray) (a1 : Int) (r1 : Int) (r2 : Int) (r3 : Bool) (w : World) (h : impl_ReadVar.f k a0 a1 = some (r1, r2, r3)) :
    Calls Tryd.prog 16 #[.string a0, .int .i64 a1] w fun e w' => e = .returned (.tuple #[.int .i64 r1, .int .i64 r2, .bool r3]) ∧ Drawn0 w w' := by
  have H : (if a1 < 0 then (impl_ReadVar.j0 k a0 a1 true) else (impl_ReadVar.j0 k a0 a1 (decide (a1 > (a0.size : Int))))) = some (r1, r2, r3) := h
  clear h
  have HC3 := Aside0.mk H
  clear H
  go_enter Tryd.func16, Tryd.ntmps16
  go_upto_region 1 with (fail)
  go_cut [18] (fun v18 wc => ∃ (kq : Nat) (x18_2 : Bool), v18 = .bool x18_2 ∧ Aside0 (impl_ReadVar.j0 kq a0 a1 x18_2 = some (r1, r2, r3)) ∧ Aside0 (kq ≤ k) ∧ Drawn0 w wc)
  case first =>
    have H := HC3.out
    clear HC3
    by_cases c4 : a1 < 0
    · rw [if_pos c4] at H
      have c4b0 : decide (a1 < 0) = true := decide_eq_true c4
      clear c4
      (first | rw [c4b0] | (simp only [i64_w, i32_w]; rw [c4b0]) | skip)
      have H' := Aside0.mk H
      clear H
      go_wp2
      go_meet
      case rel => exact ⟨_, (true), (by first | rfl | (simp; done) | (simp [*]; done)), H', ⟨by first | omega | exact Nat.le_refl _⟩, by repeat (first | exact Drawn0.refl _ | apply Drawn0.step)⟩
    · rw [if_neg c4] at H
      have c4b0 : decide (a1 < 0) = false := decide_eq_false c4
      clear c4
      (first | rw [c4b0] | (simp only [i64_w, i32_w]; rw [c4b0]) | skip)
      have H' := Aside0.mk H
      clear H
      go_wp2
      go_meet
      case rel => exact ⟨_, (decide (a1 > (a0.size : Int))), (by first | rfl | (simp; done) | (simp [*]; done)), H', ⟨by first | omega | exact Nat.le_refl _⟩, by repeat (first | exact Drawn0.refl _ | apply Drawn0.step)⟩
  case rest =>
    clear HC3
    try clear c1
    try clear p2
    try clear c4
    try clear c4b0
    obtain ⟨kq, x18_2, rfl, HA, HJ2, ⟨mc2, rfl⟩⟩ := hcut
    cases kq with
    | zero => exact absurd HA.out (by simp [impl_ReadVar.j0])
    | succ kj2 =>
      have H := HA.out
      clear HA
      simp only [impl_ReadVar.j0] at H
      by_cases c5 : x18_2 = true
      · subst c5
        have H1 : (some (0, 0, false)) = some (r1, r2, r3) := by rw [if_pos rfl] at H; exact H
        clear H
        have H := H1
        clear H1
        simp only [Option.some.injEq, Prod.mk.injEq] at H
        obtain ⟨rfl, rfl, rfl⟩ := H
        go_wp2
        go_ret3
        exact ⟨by first | rfl | (simp; done) | (simp [*]; done), by repeat (first | exact Drawn0.refl _ | apply Drawn0.step)⟩
      · replace c5 := Bool.eq_false_iff.mpr c5
        subst c5
        have H1 : (impl_ReadVar.l0 kj2 a0 a1 0 1 0) = some (r1, r2, r3) := by rw [if_neg (show ¬ (false = true) by decide)] at H; exact H
        clear H
        have H := H1
        clear H1
        have H' := Aside0.mk H
        clear H
        go_wp2
        go_loopg [7, 8, 9] kj2 (fun kq v7 v8 v9 w' => ∃ (x7_2 : Int) (x8_2 : Int) (x9_2 : Int), v7 = .int .i64 x7_2 ∧ v8 = .int .i64 x8_2 ∧ v9 = .int .i64 x9_2 ∧ Aside0 (impl_ReadVar.l0 kq a0 a1 x7_2 x8_2 x9_2 = some (r1, r2, r3)) ∧ Aside0 (kq ≤ kj2) ∧ Drawn0 w w')
        case atStart => exact ⟨(0), (1), (0), (by first | rfl | (simp; done) | (simp [*]; done)), (by first | rfl | (simp; done) | (simp [*]; done)), (by first | rfl | (simp; done) | (simp [*]; done)), H', ⟨Nat.le_refl _⟩, by repeat (first | exact Drawn0.refl _ | apply Drawn0.step)⟩
        case round =>
          clear H'
          try clear c1
          try clear c2
          try clear p2
          try clear c4
          try clear c4b0
          try clear c5
          try clear p2
          obtain ⟨x7_2, x8_2, x9_2, rfl, rfl, rfl, HA, HK2, ⟨m2, rfl⟩⟩ := hrel
          cases gk with
          | zero => exact absurd HA.out (by simp [impl_ReadVar.l0])
          | succ k2 =>
            have H := HA.out
            clear HA
            simp only [impl_ReadVar.l0] at H
            have HC6 := Aside0.mk H
            clear H
            go_upto_region 5 with (fail)
            go_cut [28] (fun v28 wc => ∃ (kq : Nat) (x28_5 : Bool), v28 = .bool x28_5 ∧ Aside0 (impl_ReadVar.j2 kq a0 a1 x7_2 x8_2 x9_2 x28_5 = some (r1, r2, r3)) ∧ Aside0 (kq ≤ k2) ∧ Drawn0 w wc)
            case first =>
              have H := HC6.out
              clear HC6
              by_cases c7 : x9_2 < 5
              · rw [if_pos c7] at H
                have c7b0 : decide (x9_2 < 5) = true := decide_eq_true c7
                clear c7
                (first | rw [c7b0] | (simp only [i64_w, i32_w]; rw [c7b0]) | skip)
                have H' := Aside0.mk H
                clear H
                go_wp2
                go_meet
                case rel => exact ⟨_, (decide ((wrap64 (a1 + x9_2)) < (a0.size : Int))), (by first | rfl | (simp; done) | (simp [*]; done)), H', ⟨by have := HJ2.out; have := HK2.out; first | omega | exact Nat.le_refl _⟩, by repeat (first | exact Drawn0.refl _ | apply Drawn0.step)⟩
              · rw [if_neg c7] at H
                have c7b0 : decide (x9_2 < 5) = false := decide_eq_false c7
                clear c7
                (first | rw [c7b0] | (simp only [i64_w, i32_w]; rw [c7b0]) | skip)
                have H' := Aside0.mk H
                clear H
                go_wp2
                go_meet
                case rel => exact ⟨_, (false), (by first | rfl | (simp; done) | (simp [*]; done)), H', ⟨by have := HJ2.out; have := HK2.out; first | omega | exact Nat.le_refl _⟩, by repeat (first | exact Drawn0.refl _ | apply Drawn0.step)⟩
            case rest =>
              clear HC6
              try clear c1
              try clear c2
              try clear p2
              try clear c4
              try clear c4b0
              try clear c5
              try clear p6
              try clear c7
              try clear c7b0
              try clear p2
              obtain ⟨kq, x28_5, rfl, HA, HJ5, ⟨mc5, rfl⟩⟩ := hcut
              cases kq with
              | zero => exact absurd HA.out (by simp [impl_ReadVar.j2])
              | succ kj5 =>
                have H := HA.out
                clear HA
                simp only [impl_ReadVar.j2] at H
                by_cases c8 : x28_5 = true
                · subst c8
                  have H1 : (if 0 ≤ (wrap64 (a1 + x9_2)) then (if (wrap64 (a1 + x9_2)) < (a0.size : Int) then (if (wrap64 (bt a0 (wrap64 (a1 + x9_2)))) ≥ 128 then (impl_ReadVar.l0 kj5 a0 a1 (wrap64 (x7_2 + (wrap64 ((Int.tmod (wrap64 (bt a0 (wrap64 (a1 + x9_2)))) 128) * x8_2)))) (wrap64 (x8_2 * 128)) (wrap64 (x9_2 + 1))) else (if (wrap64 (bt a0 (wrap64 (a1 + x9_2)))) = 0 then (if x9_2 > 0 then (some (0, 0, false)) else (if (wrap64 (x7_2 + (wrap64 ((Int.tmod (wrap64 (bt a0 (wrap64 (a1 + x9_2)))) 128) * x8_2)))) > 1000000000 then (some (0, 0, false)) else (some (wrap64 (x7_2 + (wrap64 ((Int.tmod (wrap64 (bt a0 (wrap64 (a1 + x9_2)))) 128) * x8_2))), wrap64 ((wrap64 (a1 + x9_2)) + 1), true)))) else (if (wrap64 (x7_2 + (wrap64 ((Int.tmod (wrap64 (bt a0 (wrap64 (a1 + x9_2)))) 128) * x8_2)))) > 1000000000 then (some (0, 0, false)) else (some (wrap64 (x7_2 + (wrap64 ((Int.tmod (wrap64 (bt a0 (wrap64 (a1 + x9_2)))) 128) * x8_2))), wrap64 ((wrap64 (a1 + x9_2)) + 1), true))))) else (none)) else (none)) = some (r1, r2, r3) := by rw [if_pos rfl] at H; exact H
                  clear H
                  have H := H1
                  clear H1
                  obtain ⟨ji9, hji9⟩ : ∃ j_ : Int, (wrap64 (a1 + x9_2)) = j_ := ⟨_, rfl⟩
                  replace H : (if 0 ≤ (ji9) then (if (ji9) < (a0.size : Int) then (if (wrap64 (bt a0 (ji9))) ≥ 128 then (impl_ReadVar.l0 kj5 a0 a1 (wrap64 (x7_2 + (wrap64 ((Int.tmod (wrap64 (bt a0 (ji9))) 128) * x8_2)))) (wrap64 (x8_2 * 128)) (wrap64 (x9_2 + 1))) else (if (wrap64 (bt a0 (ji9))) = 0 then (if x9_2 > 0 then (some (0, 0, false)) else (if (wrap64 (x7_2 + (wrap64 ((Int.tmod (wrap64 (bt a0 (ji9))) 128) * x8_2)))) > 1000000000 then (some (0, 0, false)) else (some (wrap64 (x7_2 + (wrap64 ((Int.tmod (wrap64 (bt a0 (ji9))) 128) * x8_2))), wrap64 ((ji9) + 1), true)))) else (if (wrap64 (x7_2 + (wrap64 ((Int.tmod (wrap64 (bt a0 (ji9))) 128) * x8_2)))) > 1000000000 then (some (0, 0, false)) else (some (wrap64 (x7_2 + (wrap64 ((Int.tmod (wrap64 (bt a0 (ji9))) 128) * x8_2))), wrap64 ((ji9) + 1), true))))) else (none)) else (none)) = some (r1, r2, r3) := by first | (rw [hji9] at H; exact H) | (simp only [hji9] at H ⊢; exact H)
                  have hji9w : (IntKind.i64.wrap (a1 + x9_2)) = ji9 := (i64_w _).trans hji9
                  by_cases c10 : 0 ≤ (ji9)
                  · rw [if_pos c10] at H
                    have c10b0 : decide (0 ≤ (ji9)) = true := decide_eq_true c10
                    clear c10
                    by_cases c11 : (ji9) < (a0.size : Int)
                    · rw [if_pos c11] at H
                      have c11b0 : decide ((ji9) < (a0.size : Int)) = true := decide_eq_true c11
                      clear c11
                      by_cases c13 : (wrap64 (bt a0 (ji9))) ≥ 128
                      · rw [if_pos c13] at H
                        have c13b0 : decide (128 ≤ (wrap64 (bt a0 (ji9)))) = true := decide_eq_true c13
                        clear c13
                        have H' := Aside0.mk H
                        clear H
                        have p12 : 0 ≤ ((ji9) : Int) := of_decide_eq_true (by first | (with_reducible assumption) | assumption)
                        have q12 : (ji9) < (a0.size : Int) := of_decide_eq_true (by first | (with_reducible assumption) | assumption)
                        have hx12 := bt_at a0 (ji9)
                        replace p12 := eq_true p12
                        replace q12 := eq_true q12
                        go_wp2
                        go_roundg kj5
                        case measure => have := HJ2.out; have := HK2.out; have := HJ5.out; omega
                        case rel => exact ⟨(wrap64 (x7_2 + (wrap64 ((Int.tmod (wrap64 (bt a0 (ji9))) 128) * x8_2)))), (wrap64 (x8_2 * 128)), (wrap64 (x9_2 + 1)), (by first | rfl | (simp; done) | (simp only [← hji9] <;> (first | rfl | simp)) | (simp [*]; done)), (by first | rfl | (simp; done) | (simp [*]; done)), (by first | rfl | (simp; done) | (simp [*]; done)), H', ⟨by have := HJ2.out; have := HK2.out; have := HJ5.out; omega⟩, by repeat (first | exact Drawn0.refl _ | apply Drawn0.step)⟩
                      · rw [if_neg c13] at H
                        have c13b0 : decide (128 ≤ (wrap64 (bt a0 (ji9)))) = false := decide_eq_false c13
                        clear c13
                        by_cases c14 : (wrap64 (bt a0 (ji9))) = 0
                        · rw [if_pos c14] at H
                          have c14b0 : ((wrap64 (bt a0 (ji9))) == 0) = true := beq_iff_eq.mpr c14
                          have c14b1 : ((wrap64 (bt a0 (ji9))) != 0) = false := bne_eq_false_iff_eq.mpr c14
                          clear c14
                          by_cases c15 : x9_2 > 0
                          · rw [if_pos c15] at H
                            have c15b0 : decide (0 < x9_2) = true := decide_eq_true c15
                            clear c15
                            simp only [Option.some.injEq, Prod.mk.injEq] at H
                            obtain ⟨rfl, rfl, rfl⟩ := H
                            have p12 : 0 ≤ ((ji9) : Int) := of_decide_eq_true (by first | (with_reducible assumption) | assumption)
                            have q12 : (ji9) < (a0.size : Int) := of_decide_eq_true (by first | (with_reducible assumption) | assumption)
                            have hx12 := bt_at a0 (ji9)
                            replace p12 := eq_true p12
                            replace q12 := eq_true q12
                            go_wp2
                            go_ret3
                            exact ⟨by first | rfl | (simp; done) | (simp only [← hji9] <;> (first | rfl | simp)) | (simp [*]; done), by repeat (first | exact Drawn0.refl _ | apply Drawn0.step)⟩
                          · rw [if_neg c15] at H
                            have c15b0 : decide (0 < x9_2) = false := decide_eq_false c15
                            clear c15
                            by_cases c16 : (wrap64 (x7_2 + (wrap64 ((Int.tmod (wrap64 (bt a0 (ji9))) 128) * x8_2)))) > 1000000000
                            · rw [if_pos c16] at H
                              have c16b0 : decide (1000000000 < (wrap64 (x7_2 + (wrap64 ((Int.tmod (wrap64 (bt a0 (ji9))) 128) * x8_2))))) = true := decide_eq_true c16
                              clear c16
                              simp only [Option.some.injEq, Prod.mk.injEq] at H
                              obtain ⟨rfl, rfl, rfl⟩ := H
                              have p12 : 0 ≤ ((ji9) : Int) := of_decide_eq_true (by first | (with_reducible assumption) | assumption)
                              have q12 : (ji9) < (a0.size : Int) := of_decide_eq_true (by first | (with_reducible assumption) | assumption)
                              have hx12 := bt_at a0 (ji9)
                              replace p12 := eq_true p12
                              replace q12 := eq_true q12
                              go_wp2
                              go_ret3
                              exact ⟨by first | rfl | (simp; done) | (simp only [← hji9] <;> (first | rfl | simp)) | (simp [*]; done), by repeat (first | exact Drawn0.refl _ | apply Drawn0.step)⟩
                            · rw [if_neg c16] at H
                              have c16b0 : decide (1000000000 < (wrap64 (x7_2 + (wrap64 ((Int.tmod (wrap64 (bt a0 (ji9))) 128) * x8_2))))) = false := decide_eq_false c16
                              clear c16
                              simp only [Option.some.injEq, Prod.mk.injEq] at H
                              obtain ⟨rfl, rfl, rfl⟩ := H
                              have p12 : 0 ≤ ((ji9) : Int) := of_decide_eq_true (by first | (with_reducible assumption) | assumption)
                              have q12 : (ji9) < (a0.size : Int) := of_decide_eq_true (by first | (with_reducible assumption) | assumption)
                              have hx12 := bt_at a0 (ji9)
                              replace p12 := eq_true p12
                              replace q12 := eq_true q12
                              go_wp2
                              go_ret3
                              exact ⟨by first | rfl | (simp; done) | (simp only [← hji9] <;> (first | rfl | simp)) | (simp [*]; done), by repeat (first | exact Drawn0.refl _ | apply Drawn0.step)⟩
                        · rw [if_neg c14] at H
                          have c14b0 : ((wrap64 (bt a0 (ji9))) == 0) = false := beq_eq_false_iff_ne.mpr c14
                          have c14b1 : ((wrap64 (bt a0 (ji9))) != 0) = true := bne_iff_ne.mpr c14
                          by_cases c17 : (wrap64 (x7_2 + (wrap64 ((Int.tmod (wrap64 (bt a0 (ji9))) 128) * x8_2)))) > 1000000000
                          · rw [if_pos c17] at H
                            have c17b0 : decide (1000000000 < (wrap64 (x7_2 + (wrap64 ((Int.tmod (wrap64 (bt a0 (ji9))) 128) * x8_2))))) = true := decide_eq_true c17
                            clear c17
                            simp only [Option.some.injEq, Prod.mk.injEq] at H
                            obtain ⟨rfl, rfl, rfl⟩ := H
                            have p12 : 0 ≤ ((ji9) : Int) := of_decide_eq_true (by first | (with_reducible assumption) | assumption)
                            have q12 : (ji9) < (a0.size : Int) := of_decide_eq_true (by first | (with_reducible assumption) | assumption)
                            have hx12 := bt_at a0 (ji9)
                            replace p12 := eq_true p12
                            replace q12 := eq_true q12
                            go_wp2
                            go_ret3
                            exact ⟨by first | rfl | (simp; done) | (simp only [← hji9] <;> (first | rfl | simp)) | (simp [*]; done), by repeat (first | exact Drawn0.refl _ | apply Drawn0.step)⟩
                          · rw [if_neg c17] at H
                            have c17b0 : decide (1000000000 < (wrap64 (x7_2 + (wrap64 ((Int.tmod (wrap64 (bt a0 (ji9))) 128) * x8_2))))) = false := decide_eq_false c17
                            clear c17
                            simp only [Option.some.injEq, Prod.mk.injEq] at H
                            obtain ⟨rfl, rfl, rfl⟩ := H
                            have p12 : 0 ≤ ((ji9) : Int) := of_decide_eq_true (by first | (with_reducible assumption) | assumption)
                            have q12 : (ji9) < (a0.size : Int) := of_decide_eq_true (by first | (with_reducible assumption) | assumption)
                            have hx12 := bt_at a0 (ji9)
                            replace p12 := eq_true p12
                            replace q12 := eq_true q12
                            go_wp2
                            go_ret3
                            exact ⟨by first | rfl | (simp; done) | (simp only [← hji9] <;> (first | rfl | simp)) | (simp [*]; done), by repeat (first | exact Drawn0.refl _ | apply Drawn0.step)⟩
                    · rw [if_neg c11] at H
                      exact absurd H (by simp)
                  · rw [if_neg c10] at H
                    exact absurd H (by simp)
                · replace c8 := Bool.eq_false_iff.mpr c8
                  subst c8
                  have H1 : (some (0, 0, false)) = some (r1, r2, r3) := by rw [if_neg (show ¬ (false = true) by decide)] at H; exact H
                  clear H
                  have H := H1
                  clear H1
                  simp only [Option.some.injEq, Prod.mk.injEq] at H
                  obtain ⟨rfl, rfl, rfl⟩ := H
                  go_wp2
                  go_ret3
                  exact ⟨by first | rfl | (simp; done) | (simp [*]; done), by repeat (first | exact Drawn0.refl _ | apply Drawn0.step)⟩

/-! ### laws_FnNumbers: function 5 -/
def laws_FnNumbers.nums (s : ByteArray) : List Int := s.data.toList.map fun b => (b.toNat : Int)
theorem laws_FnNumbers.nums_length (s : ByteArray) : (laws_FnNumbers.nums s).length = s.size := by
  simp only [laws_FnNumbers.nums, List.length_map, Array.length_toList]
  rfl
def laws_FnNumbers.longL (t : ByteArray) : List Int := (laws_FnNumbers.nums t).set (t.size - 1) ((rd (laws_FnNumbers.nums t) ((t.size - 1 : Nat) : Int) + 128) % 256)
def laws_FnNumbers.longT (t : ByteArray) : ByteArray := strOfNums (laws_FnNumbers.longL t ++ [0])
def laws_FnNumbers.cl (n : Int) : Int := if n < 0 ∨ n > 1000000000 then 12345 else n
def laws_FnNumbers.good (n : Int) (st : ByteArray × Bool) (a : Int × Int × Bool) (b : Int × Bool) (c : Int × Int × Bool) : Prop := st.2 = true ∧ 1 ≤ st.1.size ∧ st.1.size ≤ 70000 ∧ a.1 = n ∧ a.2.1 = (st.1.size : Int) + 1 ∧ a.2.2 = true ∧ b.1 = n ∧ b.2 = true ∧ c.2.2 = false
instance (n : Int) (st : ByteArray × Bool) (a : Int × Int × Bool) (b : Int × Bool) (c : Int × Int × Bool) : Decidable (laws_FnNumbers.good n st a b c) := by unfold laws_FnNumbers.good; infer_instance
def laws_FnNumbers.f (k : Nat) (l0 : List Int) : Option Bool :=
  (laws_big.f l0).bind fun z => if z = true then some true else
  (spec_DrawVarText.f k l0).bind fun n0 => (impl_VarText.f k (laws_FnNumbers.cl n0)).bind fun st =>
  (impl_ReadVar.f k (((⟨#[120]⟩ : ByteArray) ++ st.1) ++ (⟨#[121]⟩ : ByteArray)) 1).bind fun a =>
  (impl_Decimal.f (laws_FnNumbers.cl n0)).bind fun d => (impl_ReadDecimal.f k d).bind fun b =>
  (impl_ReadVar.f k (laws_FnNumbers.longT st.1) 0).bind fun c =>
  if laws_FnNumbers.good (laws_FnNumbers.cl n0) st a b c then some true else none
theorem laws_FnNumbers.db {w w' : World} (h : Drawn0 w w') : Below w.heap.size w w' := h.below
set_option maxHeartbeats 8000000 in
set_option maxRecDepth 100000 in
theorem laws_FnNumbers.calls (k : Nat) (A0 : Option Addr) (c0 : Nat) (l0 : List Int) (r : Bool) (w : World) (hr0 : Kd.C (Kd.int .u8) w A0 l0.length l0) (hc0 : l0.length ≤ c0) (hT : Tab w) (h : laws_FnNumbers.f k l0 = some r) :
    Calls Tryd.prog 5 #[.slice A0 l0.length c0] w fun e w' => e = .returned (.bool r) ∧ Below w.heap.size w w' := by
  unfold laws_FnNumbers.f at h
  obtain ⟨z, hz, h⟩ := Option.bind_eq_some_iff.mp h
  have HR := Aside0.mk hr0
  have HC := Aside0.mk hc0
  have HZ := Aside0.mk hz
  have HTab := Aside0.mk hT
  clear hr0 hc0 hz hT
  by_cases c : z = true
  · subst c
    rw [if_pos rfl] at h
    obtain rfl := Option.some.inj h
    go_enter Tryd.func5, Tryd.ntmps5
    go_wp2_with (first | (go_at_call 13; (try simp only [i64_w]); (with_reducible refine (laws_big.calls _ _ l0 true _ ?side1 ?side2 HZ.out).mono ?_); (case side1 => exact HR.out); (case side2 => exact HC.out); rintro e w5 ⟨rfl, hd⟩; have HB := Aside0.mk (laws_FnNumbers.db hd); clear hd))
    go_ret
    exact ⟨rfl, HB.out⟩
  rw [if_neg c] at h
  replace c := Bool.eq_false_iff.mpr c
  subst c
  obtain ⟨n0, hn, h⟩ := Option.bind_eq_some_iff.mp h
  obtain ⟨⟨t, b1⟩, ht, h⟩ := Option.bind_eq_some_iff.mp h
  obtain ⟨⟨a1, a2, a3⟩, ha, h⟩ := Option.bind_eq_some_iff.mp h
  obtain ⟨d, hd, h⟩ := Option.bind_eq_some_iff.mp h
  obtain ⟨⟨q1, q2⟩, hq, h⟩ := Option.bind_eq_some_iff.mp h
  obtain ⟨⟨z1, z2, z3⟩, hl, h⟩ := Option.bind_eq_some_iff.mp h
  dsimp only at h ha hl
  by_cases g : laws_FnNumbers.good (laws_FnNumbers.cl n0) (t, b1) (a1, a2, a3) (q1, q2) (z1, z2, z3)
  case neg => rw [if_neg g] at h; exact absurd h (by simp)
  rw [if_pos g] at h
  obtain rfl := Option.some.inj h
  obtain ⟨g1, g2, g3, g4, g5, g6, g7, g8, g9⟩ := g
  dsimp only at g1 g2 g3 g4 g5 g6 g7 g8 g9
  subst g1; subst g6; subst g8; subst g9
  obtain ⟨m, hm⟩ : ∃ m, laws_FnNumbers.cl n0 = m := ⟨_, rfl⟩
  rw [hm] at ht g4 g7 hd
  subst g4; subst g7; subst g5
  have HN := Aside0.mk hn
  have HT := Aside0.mk ht
  have HA := Aside0.mk ha
  have HD := Aside0.mk hd
  have HQ := Aside0.mk hq
  have HL := Aside0.mk hl
  have G2 := Aside0.mk g2
  have G3 := Aside0.mk g3
  have HM := Aside0.mk hm
  clear hn ht ha hd hq hl g2 g3 hm h
  go_enter Tryd.func5, Tryd.ntmps5
  go_upto_region 4 with (first | (go_at_call 13; (try simp only [i64_w]); (with_reducible refine (laws_big.calls _ _ l0 false _ ?side1 ?side2 HZ.out).mono ?_); (case side1 => exact HR.out); (case side2 => exact HC.out); rintro e w5 ⟨rfl, hd⟩; have HB := Aside0.mk (laws_FnNumbers.db hd); clear hd) | (go_at_call 14; (try simp only [i64_w]); (with_reducible refine (spec_DrawVarText.calls k _ _ l0 n0 _ ?side1 ?side2 HN.out).mono ?_); (case side1 => exact Kd.C_below HR.out HB.out); (case side2 => exact HC.out); rintro e w6 ⟨rfl, hb⟩; have HB6 := Aside0.mk (below_step HB.out hb); clear HB hb))
  have cs : (decide (n0 < 0) = true ∧ q1 = 12345) ∨ (decide (n0 < 0) = false ∧ decide (1000000000 < n0) = true ∧ q1 = 12345) ∨ (decide (n0 < 0) = false ∧ decide (1000000000 < n0) = false ∧ q1 = n0) := by
    have hm := HM.out
    unfold laws_FnNumbers.cl at hm
    by_cases c1 : n0 < 0
    · rw [if_pos (.inl c1)] at hm
      exact .inl ⟨decide_eq_true c1, hm.symm⟩
    · by_cases c2 : n0 > 1000000000
      · rw [if_pos (.inr c2)] at hm
        exact .inr (.inl ⟨decide_eq_false c1, decide_eq_true c2, hm.symm⟩)
      · rw [if_neg (fun e_ => e_.elim c1 c2)] at hm
        exact .inr (.inr ⟨decide_eq_false c1, decide_eq_false c2, hm.symm⟩)
  clear HM
  have hx1 : 1 + t.size ≤ 9223372036854775807 := by have := G3.out; omega
  have hx2 : 1 + t.size + 1 ≤ 9223372036854775807 := by have := G3.out; omega
  have hcv := fun w s => run_bytes_of_string (P := Tryd.prog) w 9 27 5 s Tryd.underlying9 Tryd.underlying27 Tryd.underlying5
  have hj : ∃ j : Nat, ((t.size : Int) - 1).toNat = j ∧ j + 1 = t.size := ⟨t.size - 1, by have := G2.out; omega, by have := G2.out; omega⟩
  obtain ⟨j, hj1, hj2⟩ := hj
  have HJ1 := Aside0.mk hj1
  have HJ2 := Aside0.mk hj2
  clear hj1 hj2
  rcases cs with ⟨c1b, rfl⟩ | ⟨c1b, c2b, rfl⟩ | ⟨c1b, c2b, rfl⟩
  all_goals
    go_upto_region 9 with (first | (go_at_call 15; (try simp only [i64_w]); (with_reducible refine (impl_VarText.calls k _ t true _ HT.out).mono ?_); rintro e w7 ⟨rfl, hb⟩; have HB7 := Aside0.mk (below_step HB6.out hb); clear hb HB6) | (go_at_call 16; (try simp only [i64_w]); (with_reducible refine (impl_ReadVar.calls k (((⟨#[120]⟩ : ByteArray) ++ t) ++ (⟨#[121]⟩ : ByteArray)) 1 _ _ _ _ HA.out).mono ?_); rintro e w8 ⟨rfl, hb⟩; have HB8 := Aside0.mk (below_step HB7.out hb.below); clear hb HB7) | (go_at_call 10; (try simp only [i64_w]); (with_reducible refine (impl_Decimal.calls _ d _ ?sideTab HD.out).mono ?_); (case sideTab => exact HTab.out.below HB8.out); rintro e w9 ⟨rfl, hb⟩; have HB9 := Aside0.mk (below_step HB8.out hb); clear hb HB8) | (go_at_call 12; (try simp only [i64_w]); (with_reducible refine (impl_ReadDecimal.calls k d _ _ _ ?sideTab HQ.out).mono ?_); (case sideTab => exact HTab.out.below HB9.out); rintro e w10 ⟨rfl, hb⟩; have HB10 := Aside0.mk (below_step HB9.out hb); clear hb HB9))
    go_upto_region 10 with (fail)
    clear hcv
    obtain ⟨c, hc⟩ : ∃ c, grownCap w10 t.size 0 5 = c := ⟨_, rfl⟩
    have hcs : t.size ≤ c := by rw [← hc]; exact grownCap_ge _ _ _ _
    have hcm : c ≤ maxLen := by rw [← hc]; exact grownCap_le_maxLen _ _ _ _ (by have := G3.out; have e_ : maxLen = 9223372036854775807 := rfl; omega)
    rw [hc]
    have hgb : w.heap.size ≤ w10.heap.size := below_size HB10.out
    have ho : OwnB 5 (w10.alloc (.cells (bytesRow t c) 5 ((bytesRow t c).size, (bytesRow t c).size + 1))).drew w.heap.size (.slice (some ⟨w10.heap.size, 0, none⟩) t.size c) (laws_FnNumbers.nums t) := (OwnB.conv 5 w10 t c w.heap.size hgb hcs hcm).drew
    have hbw : Below w10.heap.size w10 (w10.alloc (.cells (bytesRow t c) 5 ((bytesRow t c).size, (bytesRow t c).size + 1))).drew := below_drew1 (below_alloc (Below.refl _ _) _)
    generalize (w10.alloc (.cells (bytesRow t c) 5 ((bytesRow t c).size, (bytesRow t c).size + 1))).drew = w11 at ho hbw ⊢
    have HB11 := Aside0.mk (below_step HB10.out hbw)
    obtain ⟨gb, hgb2⟩ : ∃ gb, w10.heap.size = gb := ⟨_, rfl⟩
    rw [hgb2] at ho hgb ⊢
    have HGB := Aside0.mk hgb
    clear hc hbw HB10 hgb2 hcs hcm hgb
    have hp : (0 : Int) ≤ (t.size : Int) - 1 := by have := HJ2.out; omega
    have hq : (t.size : Int) - 1 < (t.size : Int) := by omega
    obtain ⟨x, hx⟩ : ∃ x : Int, rd (laws_FnNumbers.nums t) ((t.size - 1 : Nat) : Int) = x := ⟨_, rfl⟩
    have hcf := ho.cells (t.size - 1) (by rw [laws_FnNumbers.nums_length]; have := HJ2.out; omega)
    have hcell : w11.cell? ⟨gb, t.size - 1, none⟩ = some (.int .u8 x) := by
      obtain ⟨g_, e_, hc_, _⟩ := hcf
      injection e_ with e_
      injection e_ with e_ _ _
      subst e_
      rw [hc_, hx]
    have hfrz : w11.frozen? ⟨gb, t.size - 1, none⟩ = false := by
      obtain ⟨g_, e_, _, hf_⟩ := hcf
      injection e_ with e_
      injection e_ with e_ _ _
      subst e_
      exact hf_
    have hset : OwnB 5 (w11.setCell ⟨gb, t.size - 1, none⟩ (.int .u8 ((x + 128) % 256))) w.heap.size (.slice (some ⟨gb, 0, none⟩) t.size c) (laws_FnNumbers.longL t) := by
      have r_ := ho.set (t.size - 1) ((x + 128) % 256)
      rw [← hx] at r_ ⊢
      exact r_
    have hb12 : Below w.heap.size w (w11.setCell ⟨gb, t.size - 1, none⟩ (.int .u8 ((x + 128) % 256))) := below_set HB11.out HGB.out
    have HO := Aside0.mk hset
    have HB12 := Aside0.mk hb12
    clear ho hx hcf hset hb12 HB11
    go_upto_region 11 with (fail)
    clear hcell hfrz
    have ho := HO.out
    have hb12 := HB12.out
    clear HO HB12
    generalize (w11.setCell ⟨gb, t.size - 1, none⟩ (.int .u8 ((x + 128) % 256))) = w12 at ho hb12 ⊢
    have HO := Aside0.mk ho
    have HB := Aside0.mk hb12
    have HLL : Aside0 ((laws_FnNumbers.longL t).length = t.size) := ⟨by rw [laws_FnNumbers.longL, List.length_set, laws_FnNumbers.nums_length]⟩
    have HL2 : Aside0 (impl_ReadVar.f k (strOfNums (laws_FnNumbers.longL t ++ [0])) 0 = some (z1, z2, false)) := ⟨HL.out⟩
    clear ho hb12
    go_wp2_with (first | ((with_reducible refine gate_builtin (b := .append) (xs := #[.tmp 59, .tmp 60]) rfl ?_); at_builtin; refine append_B w.heap.size rfl (.tmp 59) (.tmp 60) 27 5 rfl Tryd.underlying27 (by kernel_rfl) _ (laws_FnNumbers.longL t) [0] ⟨w12.heap.size, 0, none⟩ 1 rfl rfl (HO.out.alloc _) (by intro j_ hj_; obtain rfl : j_ = 0 := (by simp at hj_; exact hj_); exact Lib.cell_of_heap (heap_alloc_new _ _) 0) (by have := HLL.out; have := G3.out; simp; omega) (Nat.le_trans (below_size HB.out) (by simp)) ?_; intro v13 w13 ho13 hg13; have HB13 := Aside0.mk (Below.grown (below_alloc HB.out _) hg13 (Nat.le_trans (below_size HB.out) (by simp)) (fun k_ hk_ => (HO.out.lt k_ hk_).1)); obtain ⟨y13, hy13⟩ : ∃ y_ : List Int, y_ = laws_FnNumbers.longL t ++ [0] := ⟨_, rfl⟩; rw [← hy13] at ho13; have hy2 : y13.length ≤ 140737488355328 := (by have := HLL.out; have := G3.out; rw [hy13]; simp; omega); have HL3 : Aside0 (impl_ReadVar.f k (strOfNums y13) 0 = some (z1, z2, false)) := ⟨by rw [hy13]; exact HL2.out⟩; clear hy13; obtain ⟨A13, c13, e13⟩ := ho13.slice; subst e13; have hst := Kd.C_string (P := Tryd.prog) (src := 27) (dst := 9) (c := c13) Tryd.underlying27 Tryd.underlying5 Tryd.underlying9 (ho13.reads hy2).2.2; clear ho13 hg13 hy2) | (go_at_call 16; (try simp only [i64_w]); (with_reducible refine (impl_ReadVar.calls k (strOfNums y13) 0 _ _ _ _ HL3.out).mono ?_); rintro e w14 ⟨rfl, hb⟩; have HB14 := Aside0.mk (below_step HB13.out hb.below); clear hb))
    go_ret
    exact ⟨by first | rfl | (simp; done), HB14.out⟩
/-- What is left of laws_FnNumbers. -/
def laws_FnNumbers.Pure : Prop := ∀ (l0 : List Int), (l0.length * 1 ≤ 140737488351232 ∧ ∀ x0 ∈ l0, (Lit.int .u8 x0).wf = true) → ∃ k, laws_FnNumbers.f k l0 = some true

end Go.Proofs.YtfaebcoembcfoaaDoor.PFnNumbers
