-- Made by a program (the kit's print with additions of this session: wip/tools/patch_print.py, ext.py).
-- (turned)
import Derived.Test.YtnimljoagcokaaaPFnAlignedx0
namespace Go.Proofs.Ytnimljoagcokaaa.PFnAligned
open Go.RowKit Go.Proofs.YtnimljoagcokaaaW.PrintWords Go.Proofs.YtnimljoagcokaaaW.PrintLast Go.Proofs.YtnimljoagcokaaaW.PrintMore
attribute [local go_sem] max2_int min2_int max_two min_two max_three min_three max_four min_four   -- for this text's walks alone
set_option linter.unusedVariables false
set_option linter.unusedSimpArgs false

/-! ### spec_l04Table: function 56 -/
mutual
def spec_l04Table.l0 : Nat → List ByteArray → List ByteArray → List (List Int) → Int → Option ((List (List Int)))
  | 0, _, _, _, _ => none
  | k + 1, x0, x1, x5, x6 => if x6 ≥ 0 then (if 0 ≤ (wrap64 ((x1.length : Int) + 1)) then (if (wrap64 ((x1.length : Int) + 1) : Int).toNat ≤ 35184372088832 then (if 0 ≤ x6 then (if x6 < (x5.length : Int) then (spec_l04Table.l1 k x0 x1 (x5.set (x6 : Int).toNat (List.replicate (wrap64 ((x1.length : Int) + 1) : Int).toNat 0)) x6 (wrap64 ((x1.length : Int) - 1))) else (none)) else (none)) else (none)) else (none)) else (some x5)
def spec_l04Table.l1 : Nat → List ByteArray → List ByteArray → List (List Int) → Int → Int → Option ((List (List Int)))
  | 0, _, _, _, _, _ => none
  | k + 1, x0, x1, x5, x6, x7 => if x7 ≥ 0 then (spec_l04Table.j2 k x0 x1 x5 x6 x7 (decide (x6 < (x0.length : Int)))) else (spec_l04Table.j2 k x0 x1 x5 x6 x7 false)
def spec_l04Table.j2 : Nat → List ByteArray → List ByteArray → List (List Int) → Int → Int → Bool → Option ((List (List Int)))
  | 0, _, _, _, _, _, _ => none
  | k + 1, x0, x1, x5, x6, x7, x36 => if x36 = true then (if 0 ≤ (wrap64 (x6 + 1)) then (if (wrap64 (x6 + 1)) < (x5.length : Int) then (if 0 ≤ x7 then (if x7 < ((rd_L3 x5 (wrap64 (x6 + 1))).length : Int) then (if 0 ≤ x6 then (if x6 < (x5.length : Int) then (if 0 ≤ (wrap64 (x7 + 1)) then (if (wrap64 (x7 + 1)) < ((rd_L3 x5 x6).length : Int) then (if (rd (rd_L3 x5 x6) (wrap64 (x7 + 1))) > (rd (rd_L3 x5 (wrap64 (x6 + 1))) x7) then (if x6 < (x0.length : Int) then (if x7 < (x1.length : Int) then (if (rdOf ByteArray.empty x0 x6).toList = (rdOf ByteArray.empty x1 x7).toList then (if (wrap64 (x7 + 1)) < ((rd_L3 x5 (wrap64 (x6 + 1))).length : Int) then (if x7 < ((rd_L3 x5 x6).length : Int) then (spec_l04Table.l1 k x0 x1 (x5.set (x6 : Int).toNat ((rd_L3 x5 x6).set (x7 : Int).toNat (wrap64 ((rd (rd_L3 x5 (wrap64 (x6 + 1))) (wrap64 (x7 + 1))) + 1)))) x6 (wrap64 (x7 - 1))) else (none)) else (none)) else (if x7 < ((rd_L3 x5 x6).length : Int) then (spec_l04Table.l1 k x0 x1 (x5.set (x6 : Int).toNat ((rd_L3 x5 x6).set (x7 : Int).toNat (rd (rd_L3 x5 x6) (wrap64 (x7 + 1))))) x6 (wrap64 (x7 - 1))) else (none))) else (none)) else (none)) else (if x6 < (x0.length : Int) then (if x7 < (x1.length : Int) then (if (rdOf ByteArray.empty x0 x6).toList = (rdOf ByteArray.empty x1 x7).toList then (if (wrap64 (x7 + 1)) < ((rd_L3 x5 (wrap64 (x6 + 1))).length : Int) then (if x7 < ((rd_L3 x5 x6).length : Int) then (spec_l04Table.l1 k x0 x1 (x5.set (x6 : Int).toNat ((rd_L3 x5 x6).set (x7 : Int).toNat (wrap64 ((rd (rd_L3 x5 (wrap64 (x6 + 1))) (wrap64 (x7 + 1))) + 1)))) x6 (wrap64 (x7 - 1))) else (none)) else (none)) else (if x7 < ((rd_L3 x5 x6).length : Int) then (spec_l04Table.l1 k x0 x1 (x5.set (x6 : Int).toNat ((rd_L3 x5 x6).set (x7 : Int).toNat (rd (rd_L3 x5 (wrap64 (x6 + 1))) x7))) x6 (wrap64 (x7 - 1))) else (none))) else (none)) else (none))) else (none)) else (none)) else (none)) else (none)) else (none)) else (none)) else (none)) else (none)) else (spec_l04Table.l0 k x0 x1 x5 (wrap64 (x6 - 1)))
end
def spec_l04Table.f (k : Nat) (l0 : List ByteArray) (l1 : List ByteArray) : Option ((List (List Int))) := if 0 ≤ (wrap64 ((l0.length : Int) + 1)) then (if (wrap64 ((l0.length : Int) + 1) : Int).toNat ≤ 11728124029610 then (spec_l04Table.l0 k l0 l1 (List.replicate (wrap64 ((l0.length : Int) + 1) : Int).toNat []) (l0.length : Int)) else (none)) else (none)
theorem spec_l04Table.mono_l : ∀ k, (∀ y0 y1 y2 y3, LeO (spec_l04Table.l0 k y0 y1 y2 y3) (spec_l04Table.l0 (k + 1) y0 y1 y2 y3)) ∧ (∀ y0 y1 y2 y3 y4, LeO (spec_l04Table.l1 k y0 y1 y2 y3 y4) (spec_l04Table.l1 (k + 1) y0 y1 y2 y3 y4)) ∧ (∀ y0 y1 y2 y3 y4 y5, LeO (spec_l04Table.j2 k y0 y1 y2 y3 y4 y5) (spec_l04Table.j2 (k + 1) y0 y1 y2 y3 y4 y5))
  | 0 => ⟨fun _ _ _ _ r h => by simp [spec_l04Table.l0] at h, fun _ _ _ _ _ r h => by simp [spec_l04Table.l1] at h, fun _ _ _ _ _ _ r h => by simp [spec_l04Table.j2] at h⟩
  | k + 1 => by
    obtain ⟨ih0, ih1, ih2⟩ := spec_l04Table.mono_l k
    refine ⟨?_, ?_, ?_⟩
    · intro y0 y1 y2 y3
      unfold spec_l04Table.l0
      repeat' first
      | (with_reducible exact ih0 _ _ _ _)
      | (with_reducible exact ih1 _ _ _ _ _)
      | (with_reducible exact ih2 _ _ _ _ _ _)
      | (with_reducible exact LeO.refl _)
      | (with_reducible exact LeO.none _)
      | (with_reducible refine LeO.ite ?_ ?_)
      | (with_reducible refine LeO.bind ?_ (fun _ => ?_))
      | exact ih0 _ _ _ _
      | exact ih1 _ _ _ _ _
      | exact ih2 _ _ _ _ _ _
      | exact LeO.none _
      | refine LeO.ite ?_ ?_
      | refine LeO.bind ?_ (fun _ => ?_)
    · intro y0 y1 y2 y3 y4
      unfold spec_l04Table.l1
      repeat' first
      | (with_reducible exact ih0 _ _ _ _)
      | (with_reducible exact ih1 _ _ _ _ _)
      | (with_reducible exact ih2 _ _ _ _ _ _)
      | (with_reducible exact LeO.refl _)
      | (with_reducible exact LeO.none _)
      | (with_reducible refine LeO.ite ?_ ?_)
      | (with_reducible refine LeO.bind ?_ (fun _ => ?_))
      | exact ih0 _ _ _ _
      | exact ih1 _ _ _ _ _
      | exact ih2 _ _ _ _ _ _
      | exact LeO.none _
      | refine LeO.ite ?_ ?_
      | refine LeO.bind ?_ (fun _ => ?_)
    · intro y0 y1 y2 y3 y4 y5
      unfold spec_l04Table.j2
      repeat' first
      | (with_reducible exact ih0 _ _ _ _)
      | (with_reducible exact ih1 _ _ _ _ _)
      | (with_reducible exact ih2 _ _ _ _ _ _)
      | (with_reducible exact LeO.refl _)
      | (with_reducible exact LeO.none _)
      | (with_reducible refine LeO.ite ?_ ?_)
      | (with_reducible refine LeO.bind ?_ (fun _ => ?_))
      | exact ih0 _ _ _ _
      | exact ih1 _ _ _ _ _
      | exact ih2 _ _ _ _ _ _
      | exact LeO.none _
      | refine LeO.ite ?_ ?_
      | refine LeO.bind ?_ (fun _ => ?_)
theorem spec_l04Table.mono : ∀ a0 a1 k, LeO (spec_l04Table.f k a0 a1) (spec_l04Table.f (k + 1) a0 a1) := by
  intro a0 a1 k
  obtain ⟨ih0, ih1, ih2⟩ := spec_l04Table.mono_l k
  unfold spec_l04Table.f
  repeat' first
      | (with_reducible exact ih0 _ _ _ _)
      | (with_reducible exact ih1 _ _ _ _ _)
      | (with_reducible exact ih2 _ _ _ _ _ _)
      | (with_reducible exact LeO.refl _)
      | (with_reducible exact LeO.none _)
      | (with_reducible refine LeO.ite ?_ ?_)
      | (with_reducible refine LeO.bind ?_ (fun _ => ?_))
      | exact ih0 _ _ _ _
      | exact ih1 _ _ _ _ _
      | exact ih2 _ _ _ _ _ _
      | exact LeO.none _
      | refine LeO.ite ?_ ?_
      | refine LeO.bind ?_ (fun _ => ?_)
set_option maxHeartbeats 8000000 in
set_option maxRecDepth 100000 in
theorem spec_l04Table.calls (k : Nat) (A0 : Option Addr) (c0 : Nat) (l0 : List ByteArray) (A1 : Option Addr) (c1 : Nat) (l1 : List ByteArray) (r : List (List Int)) (w : World) (hr0 : Kd.C Kd.string w A0 l0.length l0) (hc0 : l0.length ≤ c0) (hr1 : Kd.C Kd.string w A1 l1.length l1) (hc1 : l1.length ≤ c1) (h : spec_l04Table.f k l0 l1 = some r) :
    Calls Try.prog 56 #[.slice A0 l0.length c0, .slice A1 l1.length c1] w fun e w' => ∃ v0_ : Value, e = .returned (v0_) ∧ Kd.S (Kd.slice 3 (Kd.int .i64)) 35 w' w.heap.size (fun _ => True) v0_ r ∧ Below w.heap.size w w' := by
  have HR0 := Aside0.mk hr0
  have HC0 := Aside0.mk hc0
  clear hr0 hc0
  have HR1 := Aside0.mk hr1
  have HC1 := Aside0.mk hc1
  clear hr1 hc1
  have HB := Aside0.mk (Below.refl w.heap.size w)
  have H : (if 0 ≤ (wrap64 ((l0.length : Int) + 1)) then (if (wrap64 ((l0.length : Int) + 1) : Int).toNat ≤ 11728124029610 then (spec_l04Table.l0 k l0 l1 (List.replicate (wrap64 ((l0.length : Int) + 1) : Int).toNat []) (l0.length : Int)) else (none)) else (none)) = some r := h
  clear h
  obtain ⟨ji3, hji3⟩ : ∃ j_ : Int, (wrap64 ((l0.length : Int) + 1)) = j_ := ⟨_, rfl⟩
  replace H : (if 0 ≤ (ji3) then (if (ji3 : Int).toNat ≤ 11728124029610 then (spec_l04Table.l0 k l0 l1 (List.replicate (ji3 : Int).toNat []) (l0.length : Int)) else (none)) else (none)) = some r := by first | (rw [hji3] at H; exact H) | (simp only [hji3] at H ⊢; exact H)
  have hji3w : (IntKind.i64.wrap ((l0.length : Int) + 1)) = ji3 := (i64_w _).trans hji3
  by_cases c4 : 0 ≤ (ji3)
  · rw [if_pos c4] at H
    have c4b0 := eq_true c4
    have c4b1 : decide (0 ≤ (ji3)) = true := decide_eq_true c4
    clear c4
    by_cases c5 : (ji3 : Int).toNat ≤ 11728124029610
    · rw [if_pos c5] at H
      have c5b0 := eq_true c5
      have c5b1 : decide ((ji3 : Int).toNat ≤ 11728124029610) = true := decide_eq_true c5
      clear c5
      obtain ⟨y243, hy243⟩ : ∃ y_ : List (List Int), y_ = (List.replicate (ji3 : Int).toNat []) := ⟨_, rfl⟩
      replace H : (spec_l04Table.l0 k l0 l1 y243 (l0.length : Int)) = some r := by first | (rw [hy243]; with_reducible exact H) | (have H2_ := (Option.bind_some _ _).symm.trans H; rw [hy243]; with_reducible exact H2_) | (have H2_ := (Option.bind_some _ _).symm.trans H; with_reducible exact H2_) | with_reducible exact H | (rw [hy243]; exact H) | exact H
      have Ny243 := Aside0.mk hy243
      clear hy243
      have H' := Aside0.mk H
      clear H
      go_enter Try.func56, Try.ntmps56
      go_wp2_with (first | ((with_reducible refine gate_dst (N := 12) rfl ?_); (try (refine gate_guard (by rfl) ?_; dsimp only)); refine Kd.S_make (Kd.slice 3 (Kd.int .i64)) _ 35 rfl (N := 12) rfl 69 _ _ rfl ji3 rfl rfl Try.underlying69 (.slice none 0 0) 24 info35 rfl (by decide) (by omega) [] (ok := fun _ => True) (okp := fun _ => True) ⟨_, rfl, Kd.R_nil _ _ _ _ _⟩ (fun _ hk => hk) trivial (of_decide_eq_true (by first | (with_reducible assumption) | assumption)) (Nat.le_trans (Nat.mul_le_mul_right _ (of_decide_eq_true (by first | (with_reducible assumption) | assumption) : ji3.toNat ≤ 11728124029610)) (by omega)) (Below.refl _ _) (Nat.le_refl _) ?_; intro v244 w6 ho7 hb hg_ hnew_; clear hg_ hnew_; (first | rw [← Ny243.out] at ho7 | (simp only [Int.reduceToNat] at ho7; rw [← Ny243.out] at ho7)); have n0_ := Aside0.mk (Kd.S_lower ho7 (below_size (by repeat (first | (with_reducible first | exact HB.out | apply below_alloc | apply pw_below_drewN | apply below_drew1) | exact HB.out)))); have n1_ := Aside0.mk (below_step (by repeat (first | (with_reducible first | exact HB.out | apply below_alloc | apply pw_below_drewN | apply below_drew1) | exact HB.out)) hb); clear HB; have HO245 := n0_; have HB := n1_; clear n0_ n1_; clear hb ho7))
      repeat (go_quiet (first | ((with_reducible refine gate_dst (N := 12) rfl ?_); (try (refine gate_guard (by rfl) ?_; dsimp only)); refine Kd.S_make (Kd.slice 3 (Kd.int .i64)) _ 35 rfl (N := 12) rfl 69 _ _ rfl ji3 rfl rfl Try.underlying69 (.slice none 0 0) 24 info35 rfl (by decide) (by omega) [] (ok := fun _ => True) (okp := fun _ => True) ⟨_, rfl, Kd.R_nil _ _ _ _ _⟩ (fun _ hk => hk) trivial (of_decide_eq_true (by first | (with_reducible assumption) | assumption)) (Nat.le_trans (Nat.mul_le_mul_right _ (of_decide_eq_true (by first | (with_reducible assumption) | assumption) : ji3.toNat ≤ 11728124029610)) (by omega)) (Below.refl _ _) (Nat.le_refl _) ?_; intro v244 w6 ho7 hb hg_ hnew_; clear hg_ hnew_; (first | rw [← Ny243.out] at ho7 | (simp only [Int.reduceToNat] at ho7; rw [← Ny243.out] at ho7)); have n0_ := Aside0.mk (Kd.S_lower ho7 (below_size (by repeat (first | (with_reducible first | exact HB.out | apply below_alloc | apply pw_below_drewN | apply below_drew1) | exact HB.out)))); have n1_ := Aside0.mk (below_step (by repeat (first | (with_reducible first | exact HB.out | apply below_alloc | apply pw_below_drewN | apply below_drew1) | exact HB.out)) hb); clear HB; have HO245 := n0_; have HB := n1_; clear n0_ n1_; clear hb ho7)); try go_wp2_with (first | ((with_reducible refine gate_dst (N := 12) rfl ?_); (try (refine gate_guard (by rfl) ?_; dsimp only)); refine Kd.S_make (Kd.slice 3 (Kd.int .i64)) _ 35 rfl (N := 12) rfl 69 _ _ rfl ji3 rfl rfl Try.underlying69 (.slice none 0 0) 24 info35 rfl (by decide) (by omega) [] (ok := fun _ => True) (okp := fun _ => True) ⟨_, rfl, Kd.R_nil _ _ _ _ _⟩ (fun _ hk => hk) trivial (of_decide_eq_true (by first | (with_reducible assumption) | assumption)) (Nat.le_trans (Nat.mul_le_mul_right _ (of_decide_eq_true (by first | (with_reducible assumption) | assumption) : ji3.toNat ≤ 11728124029610)) (by omega)) (Below.refl _ _) (Nat.le_refl _) ?_; intro v244 w6 ho7 hb hg_ hnew_; clear hg_ hnew_; (first | rw [← Ny243.out] at ho7 | (simp only [Int.reduceToNat] at ho7; rw [← Ny243.out] at ho7)); have n0_ := Aside0.mk (Kd.S_lower ho7 (below_size (by repeat (first | (with_reducible first | exact HB.out | apply below_alloc | apply pw_below_drewN | apply below_drew1) | exact HB.out)))); have n1_ := Aside0.mk (below_step (by repeat (first | (with_reducible first | exact HB.out | apply below_alloc | apply pw_below_drewN | apply below_drew1) | exact HB.out)) hb); clear HB; have HO245 := n0_; have HB := n1_; clear n0_ n1_; clear hb ho7)))
      go_loopg [6] k (fun kq v6 w' => ∃ (x5_1 : List (List Int)) (x6_1 : Int), v6 = .int .i64 x6_1 ∧ Aside0 (spec_l04Table.l0 kq l0 l1 x5_1 x6_1 = some r) ∧ Aside0 (kq ≤ k) ∧ Aside0 (Kd.S (Kd.slice 3 (Kd.int .i64)) 35 w' w.heap.size (fun _ => True) v244 x5_1) ∧ Aside0 (Below w.heap.size w w'))
      case atStart => exact ⟨(y243), ((l0.length : Int)), (by first | rfl | (simp; done) | (simp [*]; done)), H', ⟨Nat.le_refl _⟩, ⟨by (with_reducible repeat (first | apply Kd.S_alloc | apply Kd.S_drewN | apply Kd.S_drew)); exact HO245.out⟩, ⟨by repeat (first | (with_reducible first | exact HB.out | apply below_alloc | apply pw_below_drewN | apply below_drew1) | exact HB.out)⟩⟩
      case round =>
        clear H'
        try clear c1
        try clear p2
        try clear c4
        try clear c4b0
        try clear c4b1
        try clear c5
        try clear c5b0
        try clear c5b1
        try clear p6
        obtain ⟨x5_1, x6_1, rfl, HA, HK1, HO_5, HB⟩ := hrel
        cases gk with
        | zero => exact absurd HA.out (by simp [spec_l04Table.l0])
        | succ k1 =>
          have H := HA.out
          clear HA
          simp only [spec_l04Table.l0] at H
          by_cases c8 : x6_1 ≥ 0
          · rw [if_pos c8] at H
            have c8b0 : decide (0 ≤ x6_1) = true := decide_eq_true c8
            clear c8
            obtain ⟨ji9, hji9⟩ : ∃ j_ : Int, (wrap64 ((l1.length : Int) + 1)) = j_ := ⟨_, rfl⟩
            replace H : (if 0 ≤ (ji9) then (if (ji9 : Int).toNat ≤ 35184372088832 then (if 0 ≤ x6_1 then (if x6_1 < (x5_1.length : Int) then (spec_l04Table.l1 k1 l0 l1 (x5_1.set (x6_1 : Int).toNat (List.replicate (ji9 : Int).toNat 0)) x6_1 (wrap64 ((l1.length : Int) - 1))) else (none)) else (none)) else (none)) else (none)) = some r := by first | (rw [hji9] at H; exact H) | (simp only [hji9] at H ⊢; exact H)
            have hji9w : (IntKind.i64.wrap ((l1.length : Int) + 1)) = ji9 := (i64_w _).trans hji9
            by_cases c10 : 0 ≤ (ji9)
            · rw [if_pos c10] at H
              have c10b0 := eq_true c10
              have c10b1 : decide (0 ≤ (ji9)) = true := decide_eq_true c10
              clear c10
              by_cases c11 : (ji9 : Int).toNat ≤ 35184372088832
              · rw [if_pos c11] at H
                have c11b0 := eq_true c11
                have c11b1 : decide ((ji9 : Int).toNat ≤ 35184372088832) = true := decide_eq_true c11
                clear c11
                obtain ⟨y246, hy246⟩ : ∃ y_ : List Int, y_ = (List.replicate (ji9 : Int).toNat 0) := ⟨_, rfl⟩
                replace H : (if 0 ≤ x6_1 then (if x6_1 < (x5_1.length : Int) then (spec_l04Table.l1 k1 l0 l1 (x5_1.set (x6_1 : Int).toNat y246) x6_1 (wrap64 ((l1.length : Int) - 1))) else (none)) else (none)) = some r := by first | (rw [hy246]; with_reducible exact H) | (have H2_ := (Option.bind_some _ _).symm.trans H; rw [hy246]; with_reducible exact H2_) | (have H2_ := (Option.bind_some _ _).symm.trans H; with_reducible exact H2_) | with_reducible exact H | (rw [hy246]; exact H) | exact H
                have Ny246 := Aside0.mk hy246
                clear hy246
                by_cases c12 : 0 ≤ x6_1
                · rw [if_pos c12] at H
                  have c12b0 : decide (0 ≤ x6_1) = true := decide_eq_true c12
                  clear c12
                  by_cases c13 : x6_1 < (x5_1.length : Int)
                  · rw [if_pos c13] at H
                    have c13b0 : decide (x6_1 < (x5_1.length : Int)) = true := decide_eq_true c13
                    clear c13
                    obtain ⟨y249, hy249⟩ : ∃ y_ : List (List Int), y_ = (x5_1.set (x6_1 : Int).toNat y246) := ⟨_, rfl⟩
                    replace H : (spec_l04Table.l1 k1 l0 l1 y249 x6_1 (wrap64 ((l1.length : Int) - 1))) = some r := by first | (rw [hy249]; with_reducible exact H) | (have H2_ := (Option.bind_some _ _).symm.trans H; rw [hy249]; with_reducible exact H2_) | (have H2_ := (Option.bind_some _ _).symm.trans H; with_reducible exact H2_) | with_reducible exact H | (rw [hy249]; exact H) | exact H
                    have Ny249 := Aside0.mk hy249
                    clear hy249
                    have H' := Aside0.mk H
                    clear H
                    go_wp2_with (first | ((with_reducible refine gate_dst (N := 24) rfl ?_); (try (refine gate_guard (by rfl) ?_; dsimp only)); refine Kd.R_make (Kd.int .i64) _ 3 rfl (N := 24) rfl 35 _ _ rfl ji9 rfl rfl Try.underlying35 (.int .i64 0) 8 info3 rfl (by decide) (by omega) 0 (ok := fun _ => True) (okp := fun _ => True) rfl (fun _ hk => hk) trivial (of_decide_eq_true (by first | (with_reducible assumption) | assumption)) (Nat.le_trans (Nat.mul_le_mul_right _ (of_decide_eq_true (by first | (with_reducible assumption) | assumption) : ji9.toNat ≤ 35184372088832)) (by omega)) (Below.refl _ _) (Nat.le_refl _) ?_; intro v247 w15 ho16 hb hg_ hnew_; clear hg_ hnew_; (first | rw [← Ny246.out] at ho16 | (simp only [Int.reduceToNat] at ho16; rw [← Ny246.out] at ho16)); have n0_ := Aside0.mk (Kd.S_elder' (by (with_reducible repeat (first | apply Kd.S_alloc | apply Kd.S_drewN | apply Kd.S_drew)); exact HO_5.out) (Kd.R_base ho16) hb); have n1_ := Aside0.mk (Kd.R_lower ho16 (below_size (by repeat (first | (with_reducible first | exact HB.out | apply below_alloc | apply pw_below_drewN | apply below_drew1) | exact HB.out)))); have n2_ := Aside0.mk (below_step (by repeat (first | (with_reducible first | exact HB.out | apply below_alloc | apply pw_below_drewN | apply below_drew1) | exact HB.out)) hb); clear HO_5; clear HB; have HO_5 := n0_; have HO248 := n1_; have HB := n2_; clear n0_ n1_ n2_; clear hb ho16; have p14 : 0 ≤ (x6_1 : Int) := of_decide_eq_true (by first | (with_reducible assumption) | assumption); have q14 : (x6_1 : Int) < ((x5_1.length : Int) : Int) := of_decide_eq_true (by first | (with_reducible assumption) | assumption); obtain ⟨go14, co14, eo14, gb14, gl14, cl14, HG14⟩ := Kd.S_form HO_5.out (by omega); (first | cases eo14 | (injection eo14 with ea_ en_ ec_; (first | subst ea_ | (injection ea_ with ea_; subst ea_)); subst ec_; clear en_)); have GB14 := Aside0.mk gb14; have GG14 := Aside0.mk HG14; clear gb14 gl14 HG14; obtain ⟨_, ce14, hcl14, hM14, hcc14, hfr14, _, _⟩ := Kd.S_elem HO_5.out [] (x6_1 : Int) p14 q14; obtain ⟨ve14_0, rfl, ge14_0⟩ := hM14; have hx14_0 := hcc14 0 _ rfl; have hf14_0 := hfr14 0; (try simp only [show ((Kd.slice 3 (Kd.int .i64))).sz = 1 from rfl, Nat.mul_one, Nat.add_zero] at hx14_0); (try simp only [show ((Kd.slice 3 (Kd.int .i64))).sz = 1 from rfl, Nat.mul_one, Nat.add_zero] at hf14_0); (try clear hcl14); (try clear hcc14); (try clear hfr14); (try clear hM14); replace p14 := eq_true p14; replace q14 := eq_true q14; have n_ := Aside0.mk (Kd.S_mono (ok' := (fun k_ => some k_ ≠ (v247 : Value).ownBlock)) HO_5.out (fun k_ hk => hk.2)); clear HO_5; have HO_5 := n_; clear n_; have HX17 := Aside0.mk (show Kd.S (Kd.slice 3 (Kd.int .i64)) 35 w15 w.heap.size (fun k_ => ((fun _ => True)) k_ ∧ ¬ ((fun k_ => some k_ = (v247 : Value).ownBlock)) k_) (.slice (some ⟨go14, 0, none⟩) x5_1.length co14) x5_1 from (by (with_reducible repeat (first | apply Kd.S_alloc | apply Kd.S_drewN | apply Kd.S_drew)); exact Kd.S_mono HO_5.out (fun k_ hk => ⟨trivial, fun e_ => hk e_⟩))); obtain ⟨oki17, ce17, hcl17, hM17, hcc17, hfr17, hoki17, hH17⟩ := Kd.S_elem HX17.out [] (x6_1 : Int) (of_decide_eq_true (by first | (with_reducible assumption) | assumption)) (by have h_ : (x6_1 : Int) < ((x5_1.length : Int) : Int) := of_decide_eq_true (by first | (with_reducible assumption) | assumption); first | exact h_ | (have e_ := (Kd.S_reads' HO_5.out).1; omega) | simpa using h_); obtain ⟨ve17_0, rfl, ge17_0⟩ := hM17; have HP17 := Kd.S_seg hH17 (of_decide_eq_true (by first | (with_reducible assumption) | assumption)) (by have h_ : (x6_1 : Int) < ((x5_1.length : Int) : Int) := of_decide_eq_true (by first | (with_reducible assumption) | assumption); first | exact h_ | (have e_ := (Kd.S_reads' HO_5.out).1; omega) | simpa using h_) (seg := [v247]) (j := 0) (show 1 ≤ 1 from by decide) (x' := y246) (Kd.M_row (Kd.R_mono (Kd.R_tight rfl (Kd.R_mono (ok' := fun k_ => ((fun _ => True)) k_ ∧ k_ ≠ go14) (Kd.R_apart' (HO248.out) (Kd.S_typed HO_5.out) (by decide)) (fun k_ hk => ⟨trivial, fun e_ => (hk.2) (by rw [e_]; rfl)⟩))) (fun _ h_ => Or.inr (h_)))) (fun _ hk => hk) (fun k_ hk_ => ((Kd.R_mono (ok' := fun k_ => ((fun _ => True)) k_ ∧ k_ ≠ go14) (Kd.R_apart' (HO248.out) (Kd.S_typed HO_5.out) (by decide)) (fun k_ hk => ⟨trivial, fun e_ => (hk.2) (by rw [e_]; rfl)⟩))).1 k_ hk_.symm); have hx17_0 := hcc17 0 _ rfl; (try simp only [show ((Kd.slice 3 (Kd.int .i64))).sz = 1 from rfl, Nat.mul_one, Nat.add_zero] at hx17_0); have hf17_0 := hfr17 0; (try simp only [show ((Kd.slice 3 (Kd.int .i64))).sz = 1 from rfl, Nat.mul_one, Nat.add_zero] at hf17_0); (try clear hcl17); (try clear hcc17); (try clear hfr17); (try clear hM17); (try clear hoki17); (try clear hH17); (try simp only [show ((Kd.slice 3 (Kd.int .i64))).sz = 1 from rfl, Nat.mul_one, Nat.add_zero] at HP17)) | ((with_reducible refine gate_store (t := 35) (p := 25) rfl ?_); (try (rw [drewN_self w15]; generalize hq_ : World.drewN w15 _ = w15; (try (replace hx14_0 := cell_at hq_ hx14_0)); (try (replace hx17_0 := cell_at hq_ hx17_0)); (try (replace hf14_0 := frozen_at hq_ hf14_0)); (try (replace hf17_0 := frozen_at hq_ hf17_0)); have n0_ := Aside0.mk (Kd.S_at hq_ HO_5.out); have n1_ := Aside0.mk (below_at hq_ HB.out); clear hq_ HO_5 HB; have HO_5 := n0_; have HB := n1_; clear n0_ n1_; (try (have n_ := Aside0.mk (Kd.S_mono (ok' := (fun k_ => some k_ ≠ (v247 : Value).ownBlock)) HO_5.out (fun k_ hk => hk.2)); clear HO_5; have HO_5 := n_; clear n_)); (try (have HX17 := Aside0.mk (show Kd.S (Kd.slice 3 (Kd.int .i64)) 35 w15 w.heap.size (fun k_ => ((fun _ => True)) k_ ∧ ¬ ((fun k_ => some k_ = (v247 : Value).ownBlock)) k_) (.slice (some ⟨go14, 0, none⟩) x5_1.length co14) x5_1 from (by (with_reducible repeat (first | apply Kd.S_alloc | apply Kd.S_drewN | apply Kd.S_drew)); exact Kd.S_mono HO_5.out (fun k_ hk => ⟨trivial, fun e_ => hk e_⟩))))); (try (obtain ⟨oki17, ce17, hcl17, hM17, hcc17, hfr17, hoki17, hH17⟩ := Kd.S_elem HX17.out [] (x6_1 : Int) (of_decide_eq_true (by first | (with_reducible assumption) | assumption)) (by have h_ : (x6_1 : Int) < ((x5_1.length : Int) : Int) := of_decide_eq_true (by first | (with_reducible assumption) | assumption); first | exact h_ | (have e_ := (Kd.S_reads' HO_5.out).1; omega) | simpa using h_))); (try (obtain ⟨ve17_0, rfl, ge17_0⟩ := hM17)); (try (have HP17 := Kd.S_seg hH17 (of_decide_eq_true (by first | (with_reducible assumption) | assumption)) (by have h_ : (x6_1 : Int) < ((x5_1.length : Int) : Int) := of_decide_eq_true (by first | (with_reducible assumption) | assumption); first | exact h_ | (have e_ := (Kd.S_reads' HO_5.out).1; omega) | simpa using h_) (seg := [v247]) (j := 0) (show 1 ≤ 1 from by decide) (x' := y246) (Kd.M_row (Kd.R_mono (Kd.R_tight rfl (Kd.R_mono (ok' := fun k_ => ((fun _ => True)) k_ ∧ k_ ≠ go14) (Kd.R_apart' (HO248.out) (Kd.S_typed HO_5.out) (by decide)) (fun k_ hk => ⟨trivial, fun e_ => (hk.2) (by rw [e_]; rfl)⟩))) (fun _ h_ => Or.inr (h_)))) (fun _ hk => hk) (fun k_ hk_ => ((Kd.R_mono (ok' := fun k_ => ((fun _ => True)) k_ ∧ k_ ≠ go14) (Kd.R_apart' (HO248.out) (Kd.S_typed HO_5.out) (by decide)) (fun k_ hk => ⟨trivial, fun e_ => (hk.2) (by rw [e_]; rfl)⟩))).1 k_ hk_.symm))); (try (have hx17_0 := hcc17 0 _ rfl)); (try (try simp only [show ((Kd.slice 3 (Kd.int .i64))).sz = 1 from rfl, Nat.mul_one, Nat.add_zero] at hx17_0)); (try (have hf17_0 := hfr17 0)); (try (try simp only [show ((Kd.slice 3 (Kd.int .i64))).sz = 1 from rfl, Nat.mul_one, Nat.add_zero] at hf17_0)); (try (clear hcl17 hcc17 hfr17 hM17 hoki17 hH17)); (try (try simp only [show ((Kd.slice 3 (Kd.int .i64))).sz = 1 from rfl, Nat.mul_one, Nat.add_zero] at HP17)))); refine store_event (t := 35) (p := 25) (v := ?vo_w18) (w1 := (w15.setCell ⟨go14, (x6_1 : Int).toNat, none⟩ (v247))) ?hg ?ho ?hn ?hr ?_; (case ho => rfl); (case hg => rfl); (case hn => rfl); (case hr => first | (go_simp; done) | (go_simp; rfl) | (obtain ⟨_, _, e_, _⟩ := Kd.R_reads (Aside0.out ‹Aside0 (Kd.R _ _ _ _ _ v247 _)›); go_simp; done) | (obtain ⟨_, _, e_, _⟩ := Kd.R_reads (Aside0.out ‹Aside0 (Kd.R _ _ _ _ _ v247 _)›); go_simp; rfl) | (obtain ⟨_, _, e_, _⟩ := Kd.R_reads (Kd.S_R (Aside0.out ‹Aside0 (Kd.S _ _ _ _ _ v247 _)›)); go_simp; done) | (obtain ⟨_, _, e_, _⟩ := Kd.R_reads (Kd.S_R (Aside0.out ‹Aside0 (Kd.S _ _ _ _ _ v247 _)›)); go_simp; rfl) | (obtain ⟨_, _, e_, _⟩ := Kd.N_reads (Aside0.out ‹Aside0 (Kd.N _ _ _ _ _ v247 _)›); go_simp; done) | (obtain ⟨_, _, e_, _⟩ := Kd.N_reads (Aside0.out ‹Aside0 (Kd.N _ _ _ _ _ v247 _)›); go_simp; rfl) | (obtain ⟨_, _, e_, _⟩ := Kd.Q_reads (Aside0.out ‹Aside0 (Kd.Q _ _ _ _ _ v247 _)›); go_simp; done) | (obtain ⟨_, _, e_, _⟩ := Kd.Q_reads (Aside0.out ‹Aside0 (Kd.Q _ _ _ _ _ v247 _)›); go_simp; rfl)); intro w18 hw; have hg : w15.grownBy w18 (some go14) := (by rw [hw]; exact HP17.2); have hp_ : Kd.S (Kd.slice 3 (Kd.int .i64)) 35 w18 w.heap.size (fun _ => True) (.slice (some ⟨go14, 0, none⟩) x5_1.length co14) y249 := (by rw [hw, Ny249.out]; exact HP17.1); clear HP17; have n0_ := Aside0.mk (hp_); have n1_ := Aside0.mk ((by rw [hw]; exact below_set (HB.out) GB14.out : Below w.heap.size w w18)); clear HO_5; clear HB; clear HO248; have HO_5 := n0_; have HB := n1_; clear n0_ n1_; clear hg hw hp_))
                    repeat (go_quiet (first | ((with_reducible refine gate_dst (N := 24) rfl ?_); (try (refine gate_guard (by rfl) ?_; dsimp only)); refine Kd.R_make (Kd.int .i64) _ 3 rfl (N := 24) rfl 35 _ _ rfl ji9 rfl rfl Try.underlying35 (.int .i64 0) 8 info3 rfl (by decide) (by omega) 0 (ok := fun _ => True) (okp := fun _ => True) rfl (fun _ hk => hk) trivial (of_decide_eq_true (by first | (with_reducible assumption) | assumption)) (Nat.le_trans (Nat.mul_le_mul_right _ (of_decide_eq_true (by first | (with_reducible assumption) | assumption) : ji9.toNat ≤ 35184372088832)) (by omega)) (Below.refl _ _) (Nat.le_refl _) ?_; intro v247 w15 ho16 hb hg_ hnew_; clear hg_ hnew_; (first | rw [← Ny246.out] at ho16 | (simp only [Int.reduceToNat] at ho16; rw [← Ny246.out] at ho16)); have n0_ := Aside0.mk (Kd.S_elder' (by (with_reducible repeat (first | apply Kd.S_alloc | apply Kd.S_drewN | apply Kd.S_drew)); exact HO_5.out) (Kd.R_base ho16) hb); have n1_ := Aside0.mk (Kd.R_lower ho16 (below_size (by repeat (first | (with_reducible first | exact HB.out | apply below_alloc | apply pw_below_drewN | apply below_drew1) | exact HB.out)))); have n2_ := Aside0.mk (below_step (by repeat (first | (with_reducible first | exact HB.out | apply below_alloc | apply pw_below_drewN | apply below_drew1) | exact HB.out)) hb); clear HO_5; clear HB; have HO_5 := n0_; have HO248 := n1_; have HB := n2_; clear n0_ n1_ n2_; clear hb ho16; have p14 : 0 ≤ (x6_1 : Int) := of_decide_eq_true (by first | (with_reducible assumption) | assumption); have q14 : (x6_1 : Int) < ((x5_1.length : Int) : Int) := of_decide_eq_true (by first | (with_reducible assumption) | assumption); obtain ⟨go14, co14, eo14, gb14, gl14, cl14, HG14⟩ := Kd.S_form HO_5.out (by omega); (first | cases eo14 | (injection eo14 with ea_ en_ ec_; (first | subst ea_ | (injection ea_ with ea_; subst ea_)); subst ec_; clear en_)); have GB14 := Aside0.mk gb14; have GG14 := Aside0.mk HG14; clear gb14 gl14 HG14; obtain ⟨_, ce14, hcl14, hM14, hcc14, hfr14, _, _⟩ := Kd.S_elem HO_5.out [] (x6_1 : Int) p14 q14; obtain ⟨ve14_0, rfl, ge14_0⟩ := hM14; have hx14_0 := hcc14 0 _ rfl; have hf14_0 := hfr14 0; (try simp only [show ((Kd.slice 3 (Kd.int .i64))).sz = 1 from rfl, Nat.mul_one, Nat.add_zero] at hx14_0); (try simp only [show ((Kd.slice 3 (Kd.int .i64))).sz = 1 from rfl, Nat.mul_one, Nat.add_zero] at hf14_0); (try clear hcl14); (try clear hcc14); (try clear hfr14); (try clear hM14); replace p14 := eq_true p14; replace q14 := eq_true q14; have n_ := Aside0.mk (Kd.S_mono (ok' := (fun k_ => some k_ ≠ (v247 : Value).ownBlock)) HO_5.out (fun k_ hk => hk.2)); clear HO_5; have HO_5 := n_; clear n_; have HX17 := Aside0.mk (show Kd.S (Kd.slice 3 (Kd.int .i64)) 35 w15 w.heap.size (fun k_ => ((fun _ => True)) k_ ∧ ¬ ((fun k_ => some k_ = (v247 : Value).ownBlock)) k_) (.slice (some ⟨go14, 0, none⟩) x5_1.length co14) x5_1 from (by (with_reducible repeat (first | apply Kd.S_alloc | apply Kd.S_drewN | apply Kd.S_drew)); exact Kd.S_mono HO_5.out (fun k_ hk => ⟨trivial, fun e_ => hk e_⟩))); obtain ⟨oki17, ce17, hcl17, hM17, hcc17, hfr17, hoki17, hH17⟩ := Kd.S_elem HX17.out [] (x6_1 : Int) (of_decide_eq_true (by first | (with_reducible assumption) | assumption)) (by have h_ : (x6_1 : Int) < ((x5_1.length : Int) : Int) := of_decide_eq_true (by first | (with_reducible assumption) | assumption); first | exact h_ | (have e_ := (Kd.S_reads' HO_5.out).1; omega) | simpa using h_); obtain ⟨ve17_0, rfl, ge17_0⟩ := hM17; have HP17 := Kd.S_seg hH17 (of_decide_eq_true (by first | (with_reducible assumption) | assumption)) (by have h_ : (x6_1 : Int) < ((x5_1.length : Int) : Int) := of_decide_eq_true (by first | (with_reducible assumption) | assumption); first | exact h_ | (have e_ := (Kd.S_reads' HO_5.out).1; omega) | simpa using h_) (seg := [v247]) (j := 0) (show 1 ≤ 1 from by decide) (x' := y246) (Kd.M_row (Kd.R_mono (Kd.R_tight rfl (Kd.R_mono (ok' := fun k_ => ((fun _ => True)) k_ ∧ k_ ≠ go14) (Kd.R_apart' (HO248.out) (Kd.S_typed HO_5.out) (by decide)) (fun k_ hk => ⟨trivial, fun e_ => (hk.2) (by rw [e_]; rfl)⟩))) (fun _ h_ => Or.inr (h_)))) (fun _ hk => hk) (fun k_ hk_ => ((Kd.R_mono (ok' := fun k_ => ((fun _ => True)) k_ ∧ k_ ≠ go14) (Kd.R_apart' (HO248.out) (Kd.S_typed HO_5.out) (by decide)) (fun k_ hk => ⟨trivial, fun e_ => (hk.2) (by rw [e_]; rfl)⟩))).1 k_ hk_.symm); have hx17_0 := hcc17 0 _ rfl; (try simp only [show ((Kd.slice 3 (Kd.int .i64))).sz = 1 from rfl, Nat.mul_one, Nat.add_zero] at hx17_0); have hf17_0 := hfr17 0; (try simp only [show ((Kd.slice 3 (Kd.int .i64))).sz = 1 from rfl, Nat.mul_one, Nat.add_zero] at hf17_0); (try clear hcl17); (try clear hcc17); (try clear hfr17); (try clear hM17); (try clear hoki17); (try clear hH17); (try simp only [show ((Kd.slice 3 (Kd.int .i64))).sz = 1 from rfl, Nat.mul_one, Nat.add_zero] at HP17)) | ((with_reducible refine gate_store (t := 35) (p := 25) rfl ?_); (try (rw [drewN_self w15]; generalize hq_ : World.drewN w15 _ = w15; (try (replace hx14_0 := cell_at hq_ hx14_0)); (try (replace hx17_0 := cell_at hq_ hx17_0)); (try (replace hf14_0 := frozen_at hq_ hf14_0)); (try (replace hf17_0 := frozen_at hq_ hf17_0)); have n0_ := Aside0.mk (Kd.S_at hq_ HO_5.out); have n1_ := Aside0.mk (below_at hq_ HB.out); clear hq_ HO_5 HB; have HO_5 := n0_; have HB := n1_; clear n0_ n1_; (try (have n_ := Aside0.mk (Kd.S_mono (ok' := (fun k_ => some k_ ≠ (v247 : Value).ownBlock)) HO_5.out (fun k_ hk => hk.2)); clear HO_5; have HO_5 := n_; clear n_)); (try (have HX17 := Aside0.mk (show Kd.S (Kd.slice 3 (Kd.int .i64)) 35 w15 w.heap.size (fun k_ => ((fun _ => True)) k_ ∧ ¬ ((fun k_ => some k_ = (v247 : Value).ownBlock)) k_) (.slice (some ⟨go14, 0, none⟩) x5_1.length co14) x5_1 from (by (with_reducible repeat (first | apply Kd.S_alloc | apply Kd.S_drewN | apply Kd.S_drew)); exact Kd.S_mono HO_5.out (fun k_ hk => ⟨trivial, fun e_ => hk e_⟩))))); (try (obtain ⟨oki17, ce17, hcl17, hM17, hcc17, hfr17, hoki17, hH17⟩ := Kd.S_elem HX17.out [] (x6_1 : Int) (of_decide_eq_true (by first | (with_reducible assumption) | assumption)) (by have h_ : (x6_1 : Int) < ((x5_1.length : Int) : Int) := of_decide_eq_true (by first | (with_reducible assumption) | assumption); first | exact h_ | (have e_ := (Kd.S_reads' HO_5.out).1; omega) | simpa using h_))); (try (obtain ⟨ve17_0, rfl, ge17_0⟩ := hM17)); (try (have HP17 := Kd.S_seg hH17 (of_decide_eq_true (by first | (with_reducible assumption) | assumption)) (by have h_ : (x6_1 : Int) < ((x5_1.length : Int) : Int) := of_decide_eq_true (by first | (with_reducible assumption) | assumption); first | exact h_ | (have e_ := (Kd.S_reads' HO_5.out).1; omega) | simpa using h_) (seg := [v247]) (j := 0) (show 1 ≤ 1 from by decide) (x' := y246) (Kd.M_row (Kd.R_mono (Kd.R_tight rfl (Kd.R_mono (ok' := fun k_ => ((fun _ => True)) k_ ∧ k_ ≠ go14) (Kd.R_apart' (HO248.out) (Kd.S_typed HO_5.out) (by decide)) (fun k_ hk => ⟨trivial, fun e_ => (hk.2) (by rw [e_]; rfl)⟩))) (fun _ h_ => Or.inr (h_)))) (fun _ hk => hk) (fun k_ hk_ => ((Kd.R_mono (ok' := fun k_ => ((fun _ => True)) k_ ∧ k_ ≠ go14) (Kd.R_apart' (HO248.out) (Kd.S_typed HO_5.out) (by decide)) (fun k_ hk => ⟨trivial, fun e_ => (hk.2) (by rw [e_]; rfl)⟩))).1 k_ hk_.symm))); (try (have hx17_0 := hcc17 0 _ rfl)); (try (try simp only [show ((Kd.slice 3 (Kd.int .i64))).sz = 1 from rfl, Nat.mul_one, Nat.add_zero] at hx17_0)); (try (have hf17_0 := hfr17 0)); (try (try simp only [show ((Kd.slice 3 (Kd.int .i64))).sz = 1 from rfl, Nat.mul_one, Nat.add_zero] at hf17_0)); (try (clear hcl17 hcc17 hfr17 hM17 hoki17 hH17)); (try (try simp only [show ((Kd.slice 3 (Kd.int .i64))).sz = 1 from rfl, Nat.mul_one, Nat.add_zero] at HP17)))); refine store_event (t := 35) (p := 25) (v := ?vo_w18) (w1 := (w15.setCell ⟨go14, (x6_1 : Int).toNat, none⟩ (v247))) ?hg ?ho ?hn ?hr ?_; (case ho => rfl); (case hg => rfl); (case hn => rfl); (case hr => first | (go_simp; done) | (go_simp; rfl) | (obtain ⟨_, _, e_, _⟩ := Kd.R_reads (Aside0.out ‹Aside0 (Kd.R _ _ _ _ _ v247 _)›); go_simp; done) | (obtain ⟨_, _, e_, _⟩ := Kd.R_reads (Aside0.out ‹Aside0 (Kd.R _ _ _ _ _ v247 _)›); go_simp; rfl) | (obtain ⟨_, _, e_, _⟩ := Kd.R_reads (Kd.S_R (Aside0.out ‹Aside0 (Kd.S _ _ _ _ _ v247 _)›)); go_simp; done) | (obtain ⟨_, _, e_, _⟩ := Kd.R_reads (Kd.S_R (Aside0.out ‹Aside0 (Kd.S _ _ _ _ _ v247 _)›)); go_simp; rfl) | (obtain ⟨_, _, e_, _⟩ := Kd.N_reads (Aside0.out ‹Aside0 (Kd.N _ _ _ _ _ v247 _)›); go_simp; done) | (obtain ⟨_, _, e_, _⟩ := Kd.N_reads (Aside0.out ‹Aside0 (Kd.N _ _ _ _ _ v247 _)›); go_simp; rfl) | (obtain ⟨_, _, e_, _⟩ := Kd.Q_reads (Aside0.out ‹Aside0 (Kd.Q _ _ _ _ _ v247 _)›); go_simp; done) | (obtain ⟨_, _, e_, _⟩ := Kd.Q_reads (Aside0.out ‹Aside0 (Kd.Q _ _ _ _ _ v247 _)›); go_simp; rfl)); intro w18 hw; have hg : w15.grownBy w18 (some go14) := (by rw [hw]; exact HP17.2); have hp_ : Kd.S (Kd.slice 3 (Kd.int .i64)) 35 w18 w.heap.size (fun _ => True) (.slice (some ⟨go14, 0, none⟩) x5_1.length co14) y249 := (by rw [hw, Ny249.out]; exact HP17.1); clear HP17; have n0_ := Aside0.mk (hp_); have n1_ := Aside0.mk ((by rw [hw]; exact below_set (HB.out) GB14.out : Below w.heap.size w w18)); clear HO_5; clear HB; clear HO248; have HO_5 := n0_; have HB := n1_; clear n0_ n1_; clear hg hw hp_)); try go_wp2_with (first | ((with_reducible refine gate_dst (N := 24) rfl ?_); (try (refine gate_guard (by rfl) ?_; dsimp only)); refine Kd.R_make (Kd.int .i64) _ 3 rfl (N := 24) rfl 35 _ _ rfl ji9 rfl rfl Try.underlying35 (.int .i64 0) 8 info3 rfl (by decide) (by omega) 0 (ok := fun _ => True) (okp := fun _ => True) rfl (fun _ hk => hk) trivial (of_decide_eq_true (by first | (with_reducible assumption) | assumption)) (Nat.le_trans (Nat.mul_le_mul_right _ (of_decide_eq_true (by first | (with_reducible assumption) | assumption) : ji9.toNat ≤ 35184372088832)) (by omega)) (Below.refl _ _) (Nat.le_refl _) ?_; intro v247 w15 ho16 hb hg_ hnew_; clear hg_ hnew_; (first | rw [← Ny246.out] at ho16 | (simp only [Int.reduceToNat] at ho16; rw [← Ny246.out] at ho16)); have n0_ := Aside0.mk (Kd.S_elder' (by (with_reducible repeat (first | apply Kd.S_alloc | apply Kd.S_drewN | apply Kd.S_drew)); exact HO_5.out) (Kd.R_base ho16) hb); have n1_ := Aside0.mk (Kd.R_lower ho16 (below_size (by repeat (first | (with_reducible first | exact HB.out | apply below_alloc | apply pw_below_drewN | apply below_drew1) | exact HB.out)))); have n2_ := Aside0.mk (below_step (by repeat (first | (with_reducible first | exact HB.out | apply below_alloc | apply pw_below_drewN | apply below_drew1) | exact HB.out)) hb); clear HO_5; clear HB; have HO_5 := n0_; have HO248 := n1_; have HB := n2_; clear n0_ n1_ n2_; clear hb ho16; have p14 : 0 ≤ (x6_1 : Int) := of_decide_eq_true (by first | (with_reducible assumption) | assumption); have q14 : (x6_1 : Int) < ((x5_1.length : Int) : Int) := of_decide_eq_true (by first | (with_reducible assumption) | assumption); obtain ⟨go14, co14, eo14, gb14, gl14, cl14, HG14⟩ := Kd.S_form HO_5.out (by omega); (first | cases eo14 | (injection eo14 with ea_ en_ ec_; (first | subst ea_ | (injection ea_ with ea_; subst ea_)); subst ec_; clear en_)); have GB14 := Aside0.mk gb14; have GG14 := Aside0.mk HG14; clear gb14 gl14 HG14; obtain ⟨_, ce14, hcl14, hM14, hcc14, hfr14, _, _⟩ := Kd.S_elem HO_5.out [] (x6_1 : Int) p14 q14; obtain ⟨ve14_0, rfl, ge14_0⟩ := hM14; have hx14_0 := hcc14 0 _ rfl; have hf14_0 := hfr14 0; (try simp only [show ((Kd.slice 3 (Kd.int .i64))).sz = 1 from rfl, Nat.mul_one, Nat.add_zero] at hx14_0); (try simp only [show ((Kd.slice 3 (Kd.int .i64))).sz = 1 from rfl, Nat.mul_one, Nat.add_zero] at hf14_0); (try clear hcl14); (try clear hcc14); (try clear hfr14); (try clear hM14); replace p14 := eq_true p14; replace q14 := eq_true q14; have n_ := Aside0.mk (Kd.S_mono (ok' := (fun k_ => some k_ ≠ (v247 : Value).ownBlock)) HO_5.out (fun k_ hk => hk.2)); clear HO_5; have HO_5 := n_; clear n_; have HX17 := Aside0.mk (show Kd.S (Kd.slice 3 (Kd.int .i64)) 35 w15 w.heap.size (fun k_ => ((fun _ => True)) k_ ∧ ¬ ((fun k_ => some k_ = (v247 : Value).ownBlock)) k_) (.slice (some ⟨go14, 0, none⟩) x5_1.length co14) x5_1 from (by (with_reducible repeat (first | apply Kd.S_alloc | apply Kd.S_drewN | apply Kd.S_drew)); exact Kd.S_mono HO_5.out (fun k_ hk => ⟨trivial, fun e_ => hk e_⟩))); obtain ⟨oki17, ce17, hcl17, hM17, hcc17, hfr17, hoki17, hH17⟩ := Kd.S_elem HX17.out [] (x6_1 : Int) (of_decide_eq_true (by first | (with_reducible assumption) | assumption)) (by have h_ : (x6_1 : Int) < ((x5_1.length : Int) : Int) := of_decide_eq_true (by first | (with_reducible assumption) | assumption); first | exact h_ | (have e_ := (Kd.S_reads' HO_5.out).1; omega) | simpa using h_); obtain ⟨ve17_0, rfl, ge17_0⟩ := hM17; have HP17 := Kd.S_seg hH17 (of_decide_eq_true (by first | (with_reducible assumption) | assumption)) (by have h_ : (x6_1 : Int) < ((x5_1.length : Int) : Int) := of_decide_eq_true (by first | (with_reducible assumption) | assumption); first | exact h_ | (have e_ := (Kd.S_reads' HO_5.out).1; omega) | simpa using h_) (seg := [v247]) (j := 0) (show 1 ≤ 1 from by decide) (x' := y246) (Kd.M_row (Kd.R_mono (Kd.R_tight rfl (Kd.R_mono (ok' := fun k_ => ((fun _ => True)) k_ ∧ k_ ≠ go14) (Kd.R_apart' (HO248.out) (Kd.S_typed HO_5.out) (by decide)) (fun k_ hk => ⟨trivial, fun e_ => (hk.2) (by rw [e_]; rfl)⟩))) (fun _ h_ => Or.inr (h_)))) (fun _ hk => hk) (fun k_ hk_ => ((Kd.R_mono (ok' := fun k_ => ((fun _ => True)) k_ ∧ k_ ≠ go14) (Kd.R_apart' (HO248.out) (Kd.S_typed HO_5.out) (by decide)) (fun k_ hk => ⟨trivial, fun e_ => (hk.2) (by rw [e_]; rfl)⟩))).1 k_ hk_.symm); have hx17_0 := hcc17 0 _ rfl; (try simp only [show ((Kd.slice 3 (Kd.int .i64))).sz = 1 from rfl, Nat.mul_one, Nat.add_zero] at hx17_0); have hf17_0 := hfr17 0; (try simp only [show ((Kd.slice 3 (Kd.int .i64))).sz = 1 from rfl, Nat.mul_one, Nat.add_zero] at hf17_0); (try clear hcl17); (try clear hcc17); (try clear hfr17); (try clear hM17); (try clear hoki17); (try clear hH17); (try simp only [show ((Kd.slice 3 (Kd.int .i64))).sz = 1 from rfl, Nat.mul_one, Nat.add_zero] at HP17)) | ((with_reducible refine gate_store (t := 35) (p := 25) rfl ?_); (try (rw [drewN_self w15]; generalize hq_ : World.drewN w15 _ = w15; (try (replace hx14_0 := cell_at hq_ hx14_0)); (try (replace hx17_0 := cell_at hq_ hx17_0)); (try (replace hf14_0 := frozen_at hq_ hf14_0)); (try (replace hf17_0 := frozen_at hq_ hf17_0)); have n0_ := Aside0.mk (Kd.S_at hq_ HO_5.out); have n1_ := Aside0.mk (below_at hq_ HB.out); clear hq_ HO_5 HB; have HO_5 := n0_; have HB := n1_; clear n0_ n1_; (try (have n_ := Aside0.mk (Kd.S_mono (ok' := (fun k_ => some k_ ≠ (v247 : Value).ownBlock)) HO_5.out (fun k_ hk => hk.2)); clear HO_5; have HO_5 := n_; clear n_)); (try (have HX17 := Aside0.mk (show Kd.S (Kd.slice 3 (Kd.int .i64)) 35 w15 w.heap.size (fun k_ => ((fun _ => True)) k_ ∧ ¬ ((fun k_ => some k_ = (v247 : Value).ownBlock)) k_) (.slice (some ⟨go14, 0, none⟩) x5_1.length co14) x5_1 from (by (with_reducible repeat (first | apply Kd.S_alloc | apply Kd.S_drewN | apply Kd.S_drew)); exact Kd.S_mono HO_5.out (fun k_ hk => ⟨trivial, fun e_ => hk e_⟩))))); (try (obtain ⟨oki17, ce17, hcl17, hM17, hcc17, hfr17, hoki17, hH17⟩ := Kd.S_elem HX17.out [] (x6_1 : Int) (of_decide_eq_true (by first | (with_reducible assumption) | assumption)) (by have h_ : (x6_1 : Int) < ((x5_1.length : Int) : Int) := of_decide_eq_true (by first | (with_reducible assumption) | assumption); first | exact h_ | (have e_ := (Kd.S_reads' HO_5.out).1; omega) | simpa using h_))); (try (obtain ⟨ve17_0, rfl, ge17_0⟩ := hM17)); (try (have HP17 := Kd.S_seg hH17 (of_decide_eq_true (by first | (with_reducible assumption) | assumption)) (by have h_ : (x6_1 : Int) < ((x5_1.length : Int) : Int) := of_decide_eq_true (by first | (with_reducible assumption) | assumption); first | exact h_ | (have e_ := (Kd.S_reads' HO_5.out).1; omega) | simpa using h_) (seg := [v247]) (j := 0) (show 1 ≤ 1 from by decide) (x' := y246) (Kd.M_row (Kd.R_mono (Kd.R_tight rfl (Kd.R_mono (ok' := fun k_ => ((fun _ => True)) k_ ∧ k_ ≠ go14) (Kd.R_apart' (HO248.out) (Kd.S_typed HO_5.out) (by decide)) (fun k_ hk => ⟨trivial, fun e_ => (hk.2) (by rw [e_]; rfl)⟩))) (fun _ h_ => Or.inr (h_)))) (fun _ hk => hk) (fun k_ hk_ => ((Kd.R_mono (ok' := fun k_ => ((fun _ => True)) k_ ∧ k_ ≠ go14) (Kd.R_apart' (HO248.out) (Kd.S_typed HO_5.out) (by decide)) (fun k_ hk => ⟨trivial, fun e_ => (hk.2) (by rw [e_]; rfl)⟩))).1 k_ hk_.symm))); (try (have hx17_0 := hcc17 0 _ rfl)); (try (try simp only [show ((Kd.slice 3 (Kd.int .i64))).sz = 1 from rfl, Nat.mul_one, Nat.add_zero] at hx17_0)); (try (have hf17_0 := hfr17 0)); (try (try simp only [show ((Kd.slice 3 (Kd.int .i64))).sz = 1 from rfl, Nat.mul_one, Nat.add_zero] at hf17_0)); (try (clear hcl17 hcc17 hfr17 hM17 hoki17 hH17)); (try (try simp only [show ((Kd.slice 3 (Kd.int .i64))).sz = 1 from rfl, Nat.mul_one, Nat.add_zero] at HP17)))); refine store_event (t := 35) (p := 25) (v := ?vo_w18) (w1 := (w15.setCell ⟨go14, (x6_1 : Int).toNat, none⟩ (v247))) ?hg ?ho ?hn ?hr ?_; (case ho => rfl); (case hg => rfl); (case hn => rfl); (case hr => first | (go_simp; done) | (go_simp; rfl) | (obtain ⟨_, _, e_, _⟩ := Kd.R_reads (Aside0.out ‹Aside0 (Kd.R _ _ _ _ _ v247 _)›); go_simp; done) | (obtain ⟨_, _, e_, _⟩ := Kd.R_reads (Aside0.out ‹Aside0 (Kd.R _ _ _ _ _ v247 _)›); go_simp; rfl) | (obtain ⟨_, _, e_, _⟩ := Kd.R_reads (Kd.S_R (Aside0.out ‹Aside0 (Kd.S _ _ _ _ _ v247 _)›)); go_simp; done) | (obtain ⟨_, _, e_, _⟩ := Kd.R_reads (Kd.S_R (Aside0.out ‹Aside0 (Kd.S _ _ _ _ _ v247 _)›)); go_simp; rfl) | (obtain ⟨_, _, e_, _⟩ := Kd.N_reads (Aside0.out ‹Aside0 (Kd.N _ _ _ _ _ v247 _)›); go_simp; done) | (obtain ⟨_, _, e_, _⟩ := Kd.N_reads (Aside0.out ‹Aside0 (Kd.N _ _ _ _ _ v247 _)›); go_simp; rfl) | (obtain ⟨_, _, e_, _⟩ := Kd.Q_reads (Aside0.out ‹Aside0 (Kd.Q _ _ _ _ _ v247 _)›); go_simp; done) | (obtain ⟨_, _, e_, _⟩ := Kd.Q_reads (Aside0.out ‹Aside0 (Kd.Q _ _ _ _ _ v247 _)›); go_simp; rfl)); intro w18 hw; have hg : w15.grownBy w18 (some go14) := (by rw [hw]; exact HP17.2); have hp_ : Kd.S (Kd.slice 3 (Kd.int .i64)) 35 w18 w.heap.size (fun _ => True) (.slice (some ⟨go14, 0, none⟩) x5_1.length co14) y249 := (by rw [hw, Ny249.out]; exact HP17.1); clear HP17; have n0_ := Aside0.mk (hp_); have n1_ := Aside0.mk ((by rw [hw]; exact below_set (HB.out) GB14.out : Below w.heap.size w w18)); clear HO_5; clear HB; clear HO248; have HO_5 := n0_; have HB := n1_; clear n0_ n1_; clear hg hw hp_)))
                    go_loopg [7] k1 (fun kq v7 w' => ∃ (x5_2 : List (List Int)) (x7_2 : Int), v7 = .int .i64 x7_2 ∧ Aside0 (spec_l04Table.l1 kq l0 l1 x5_2 x6_1 x7_2 = some r) ∧ Aside0 (kq ≤ k1) ∧ Aside0 (Kd.S (Kd.slice 3 (Kd.int .i64)) 35 w' w.heap.size (fun _ => True) (.slice (some ⟨go14, 0, none⟩) x5_1.length co14) x5_2) ∧ Aside0 (Below w.heap.size w w'))
                    case atStart => exact ⟨(y249), (wrap64 ((l1.length : Int) - 1)), (by first | rfl | (simp; done) | (simp [*]; done)), H', ⟨Nat.le_refl _⟩, ⟨by (with_reducible repeat (first | apply Kd.S_alloc | apply Kd.S_drewN | apply Kd.S_drew)); exact HO_5.out⟩, ⟨by repeat (first | (with_reducible first | exact HB.out | apply below_alloc | apply pw_below_drewN | apply below_drew1) | exact HB.out)⟩⟩
                    case round =>
                      clear H'
                      try clear c1
                      try clear p1
                      try clear q1
                      try clear hx1
                      try clear p2
                      try clear c4
                      try clear c4b0
                      try clear c4b1
                      try clear c5
                      try clear c5b0
                      try clear c5b1
                      try clear p6
                      try clear c8
                      try clear c8b0
                      try clear c10
                      try clear c10b0
                      try clear c10b1
                      try clear c11
                      try clear c11b0
                      try clear c11b1
                      try clear c12
                      try clear c12b0
                      try clear c13
                      try clear c13b0
                      try clear c14
                      try clear p14
                      try clear q14
                      try clear hx14
                      try clear hf14
                      try clear c17
                      try clear hx17
                      try clear hf17
                      try clear hx14_0
                      try clear hx17_0
                      try clear p14
                      try clear p2
                      try clear p6
                      try clear q14
                      obtain ⟨x5_2, x7_2, rfl, HA, HK2, HO_5, HB⟩ := hrel
                      have hl5_2 := (Kd.S_reads' HO_5.out).1
                      rw [hl5_2] at HO_5
                      (try simp only [hl5_2])
                      cases gk with
                      | zero => exact absurd HA.out (by simp [spec_l04Table.l1])
                      | succ k2 =>
                        have H := HA.out
                        clear HA
                        simp only [spec_l04Table.l1] at H
                        have HC19 := Aside0.mk H
                        clear H
                        go_upto_region 7 with (fail)
                        repeat (go_quiet (fail); go_upto_region 7 with (fail))
                        go_cut [36] (fun v36 wc => ∃ (kq : Nat) (x36_18 : Bool), v36 = .bool x36_18 ∧ Aside0 (spec_l04Table.j2 kq l0 l1 x5_2 x6_1 x7_2 x36_18 = some r) ∧ Aside0 (kq ≤ k2) ∧ Aside0 (Kd.S (Kd.slice 3 (Kd.int .i64)) 35 wc w.heap.size (fun _ => True) (.slice (some ⟨go14, 0, none⟩) x5_2.length co14) x5_2) ∧ Aside0 (Below w.heap.size w wc))
                        case first =>
                          have H := HC19.out
                          clear HC19
                          by_cases c20 : x7_2 ≥ 0
                          · rw [if_pos c20] at H
                            have c20b0 : decide (0 ≤ x7_2) = true := decide_eq_true c20
                            clear c20
                            (first | rw [c20b0] | (simp only [i64_w, i32_w]; rw [c20b0]) | skip)
                            have H' := Aside0.mk H
                            clear H
                            go_wp2
                            repeat (go_quiet (fail); try go_wp2)
                            go_meet
                            case rel => exact ⟨_, (decide (x6_1 < (l0.length : Int))), (by first | rfl | (simp; done) | (simp [*]; done)), H', ⟨by have := HK1.out; have := HK2.out; first | omega | exact Nat.le_refl _⟩, ⟨by (try simp only [hl5_2]); (with_reducible repeat (first | apply Kd.S_alloc | apply Kd.S_drewN | apply Kd.S_drew)); exact HO_5.out⟩, ⟨by repeat (first | (with_reducible first | exact HB.out | apply below_alloc | apply pw_below_drewN | apply below_drew1) | exact HB.out)⟩⟩
                          · rw [if_neg c20] at H
                            have c20b0 : decide (0 ≤ x7_2) = false := decide_eq_false c20
                            clear c20
                            (first | rw [c20b0] | (simp only [i64_w, i32_w]; rw [c20b0]) | skip)
                            have H' := Aside0.mk H
                            clear H
                            go_wp2
                            repeat (go_quiet (fail); try go_wp2)
                            go_meet
                            case rel => exact ⟨_, (false), (by first | rfl | (simp; done) | (simp [*]; done)), H', ⟨by have := HK1.out; have := HK2.out; first | omega | exact Nat.le_refl _⟩, ⟨by (try simp only [hl5_2]); (with_reducible repeat (first | apply Kd.S_alloc | apply Kd.S_drewN | apply Kd.S_drew)); exact HO_5.out⟩, ⟨by repeat (first | (with_reducible first | exact HB.out | apply below_alloc | apply pw_below_drewN | apply below_drew1) | exact HB.out)⟩⟩
                        case rest =>
                          clear HC19
                          try clear c1
                          try clear p1
                          try clear q1
                          try clear hx1
                          try clear c2
                          try clear p2
                          try clear c4
                          try clear c4b0
                          try clear c4b1
                          try clear c5
                          try clear c5b0
                          try clear c5b1
                          try clear p6
                          try clear c8
                          try clear c8b0
                          try clear c10
                          try clear c10b0
                          try clear c10b1
                          try clear c11
                          try clear c11b0
                          try clear c11b1
                          try clear c12
                          try clear c12b0
                          try clear c13
                          try clear c13b0
                          try clear c14
                          try clear p14
                          try clear q14
                          try clear hx14
                          try clear hf14
                          try clear c17
                          try clear hx17
                          try clear hf17
                          try clear c20
                          try clear c20b0
                          try clear hx14_0
                          try clear hx17_0
                          try clear p1
                          try clear p14
                          try clear p2
                          try clear p6
                          try clear q1
                          try clear q14
                          obtain ⟨kq, x36_18, rfl, HA, HJ18, HO_5, HB⟩ := hcut
                          cases kq with
                          | zero => exact absurd HA.out (by simp [spec_l04Table.j2])
                          | succ kj18 =>
                            have H := HA.out
                            clear HA
                            simp only [spec_l04Table.j2] at H
                            by_cases c21 : x36_18 = true
                            · subst c21
                              have H1 : (if 0 ≤ (wrap64 (x6_1 + 1)) then (if (wrap64 (x6_1 + 1)) < (x5_2.length : Int) then (if 0 ≤ x7_2 then (if x7_2 < ((rd_L3 x5_2 (wrap64 (x6_1 + 1))).length : Int) then (if 0 ≤ x6_1 then (if x6_1 < (x5_2.length : Int) then (if 0 ≤ (wrap64 (x7_2 + 1)) then (if (wrap64 (x7_2 + 1)) < ((rd_L3 x5_2 x6_1).length : Int) then (if (rd (rd_L3 x5_2 x6_1) (wrap64 (x7_2 + 1))) > (rd (rd_L3 x5_2 (wrap64 (x6_1 + 1))) x7_2) then (if x6_1 < (l0.length : Int) then (if x7_2 < (l1.length : Int) then (if (rdOf ByteArray.empty l0 x6_1).toList = (rdOf ByteArray.empty l1 x7_2).toList then (if (wrap64 (x7_2 + 1)) < ((rd_L3 x5_2 (wrap64 (x6_1 + 1))).length : Int) then (if x7_2 < ((rd_L3 x5_2 x6_1).length : Int) then (spec_l04Table.l1 kj18 l0 l1 (x5_2.set (x6_1 : Int).toNat ((rd_L3 x5_2 x6_1).set (x7_2 : Int).toNat (wrap64 ((rd (rd_L3 x5_2 (wrap64 (x6_1 + 1))) (wrap64 (x7_2 + 1))) + 1)))) x6_1 (wrap64 (x7_2 - 1))) else (none)) else (none)) else (if x7_2 < ((rd_L3 x5_2 x6_1).length : Int) then (spec_l04Table.l1 kj18 l0 l1 (x5_2.set (x6_1 : Int).toNat ((rd_L3 x5_2 x6_1).set (x7_2 : Int).toNat (rd (rd_L3 x5_2 x6_1) (wrap64 (x7_2 + 1))))) x6_1 (wrap64 (x7_2 - 1))) else (none))) else (none)) else (none)) else (if x6_1 < (l0.length : Int) then (if x7_2 < (l1.length : Int) then (if (rdOf ByteArray.empty l0 x6_1).toList = (rdOf ByteArray.empty l1 x7_2).toList then (if (wrap64 (x7_2 + 1)) < ((rd_L3 x5_2 (wrap64 (x6_1 + 1))).length : Int) then (if x7_2 < ((rd_L3 x5_2 x6_1).length : Int) then (spec_l04Table.l1 kj18 l0 l1 (x5_2.set (x6_1 : Int).toNat ((rd_L3 x5_2 x6_1).set (x7_2 : Int).toNat (wrap64 ((rd (rd_L3 x5_2 (wrap64 (x6_1 + 1))) (wrap64 (x7_2 + 1))) + 1)))) x6_1 (wrap64 (x7_2 - 1))) else (none)) else (none)) else (if x7_2 < ((rd_L3 x5_2 x6_1).length : Int) then (spec_l04Table.l1 kj18 l0 l1 (x5_2.set (x6_1 : Int).toNat ((rd_L3 x5_2 x6_1).set (x7_2 : Int).toNat (rd (rd_L3 x5_2 (wrap64 (x6_1 + 1))) x7_2))) x6_1 (wrap64 (x7_2 - 1))) else (none))) else (none)) else (none))) else (none)) else (none)) else (none)) else (none)) else (none)) else (none)) else (none)) else (none)) = some r := by rw [if_pos rfl] at H; exact H
                              clear H
                              have H := H1
                              clear H1
                              obtain ⟨ji22, hji22⟩ : ∃ j_ : Int, (wrap64 (x6_1 + 1)) = j_ := ⟨_, rfl⟩
                              replace H : (if 0 ≤ (ji22) then (if (ji22) < (x5_2.length : Int) then (if 0 ≤ x7_2 then (if x7_2 < ((rd_L3 x5_2 (ji22)).length : Int) then (if 0 ≤ x6_1 then (if x6_1 < (x5_2.length : Int) then (if 0 ≤ (wrap64 (x7_2 + 1)) then (if (wrap64 (x7_2 + 1)) < ((rd_L3 x5_2 x6_1).length : Int) then (if (rd (rd_L3 x5_2 x6_1) (wrap64 (x7_2 + 1))) > (rd (rd_L3 x5_2 (ji22)) x7_2) then (if x6_1 < (l0.length : Int) then (if x7_2 < (l1.length : Int) then (if (rdOf ByteArray.empty l0 x6_1).toList = (rdOf ByteArray.empty l1 x7_2).toList then (if (wrap64 (x7_2 + 1)) < ((rd_L3 x5_2 (ji22)).length : Int) then (if x7_2 < ((rd_L3 x5_2 x6_1).length : Int) then (spec_l04Table.l1 kj18 l0 l1 (x5_2.set (x6_1 : Int).toNat ((rd_L3 x5_2 x6_1).set (x7_2 : Int).toNat (wrap64 ((rd (rd_L3 x5_2 (ji22)) (wrap64 (x7_2 + 1))) + 1)))) x6_1 (wrap64 (x7_2 - 1))) else (none)) else (none)) else (if x7_2 < ((rd_L3 x5_2 x6_1).length : Int) then (spec_l04Table.l1 kj18 l0 l1 (x5_2.set (x6_1 : Int).toNat ((rd_L3 x5_2 x6_1).set (x7_2 : Int).toNat (rd (rd_L3 x5_2 x6_1) (wrap64 (x7_2 + 1))))) x6_1 (wrap64 (x7_2 - 1))) else (none))) else (none)) else (none)) else (if x6_1 < (l0.length : Int) then (if x7_2 < (l1.length : Int) then (if (rdOf ByteArray.empty l0 x6_1).toList = (rdOf ByteArray.empty l1 x7_2).toList then (if (wrap64 (x7_2 + 1)) < ((rd_L3 x5_2 (ji22)).length : Int) then (if x7_2 < ((rd_L3 x5_2 x6_1).length : Int) then (spec_l04Table.l1 kj18 l0 l1 (x5_2.set (x6_1 : Int).toNat ((rd_L3 x5_2 x6_1).set (x7_2 : Int).toNat (wrap64 ((rd (rd_L3 x5_2 (ji22)) (wrap64 (x7_2 + 1))) + 1)))) x6_1 (wrap64 (x7_2 - 1))) else (none)) else (none)) else (if x7_2 < ((rd_L3 x5_2 x6_1).length : Int) then (spec_l04Table.l1 kj18 l0 l1 (x5_2.set (x6_1 : Int).toNat ((rd_L3 x5_2 x6_1).set (x7_2 : Int).toNat (rd (rd_L3 x5_2 (ji22)) x7_2))) x6_1 (wrap64 (x7_2 - 1))) else (none))) else (none)) else (none))) else (none)) else (none)) else (none)) else (none)) else (none)) else (none)) else (none)) else (none)) = some r := by first | (rw [hji22] at H; exact H) | (simp only [hji22] at H ⊢; exact H)
                              have hji22w : (IntKind.i64.wrap (x6_1 + 1)) = ji22 := (i64_w _).trans hji22
                              by_cases c23 : 0 ≤ (ji22)
                              · rw [if_pos c23] at H
                                have c23b0 : decide (0 ≤ (ji22)) = true := decide_eq_true c23
                                clear c23
                                by_cases c24 : (ji22) < (x5_2.length : Int)
                                · rw [if_pos c24] at H
                                  have c24b0 : decide ((ji22) < (x5_2.length : Int)) = true := decide_eq_true c24
                                  clear c24
                                  by_cases c25 : 0 ≤ x7_2
                                  · rw [if_pos c25] at H
                                    have c25b0 : decide (0 ≤ x7_2) = true := decide_eq_true c25
                                    clear c25
                                    by_cases c26 : x7_2 < ((rd_L3 x5_2 (ji22)).length : Int)
                                    · rw [if_pos c26] at H
                                      have c26b0 : decide (x7_2 < ((rd_L3 x5_2 (ji22)).length : Int)) = true := decide_eq_true c26
                                      clear c26
                                      by_cases c27 : 0 ≤ x6_1
                                      · rw [if_pos c27] at H
                                        have c27b0 : decide (0 ≤ x6_1) = true := decide_eq_true c27
                                        clear c27
                                        by_cases c28 : x6_1 < (x5_2.length : Int)
                                        · rw [if_pos c28] at H
                                          have c28b0 : decide (x6_1 < (x5_2.length : Int)) = true := decide_eq_true c28
                                          clear c28
                                          obtain ⟨ji29, hji29⟩ : ∃ j_ : Int, (wrap64 (x7_2 + 1)) = j_ := ⟨_, rfl⟩
                                          replace H : (if 0 ≤ (ji29) then (if (ji29) < ((rd_L3 x5_2 x6_1).length : Int) then (if (rd (rd_L3 x5_2 x6_1) (ji29)) > (rd (rd_L3 x5_2 (ji22)) x7_2) then (if x6_1 < (l0.length : Int) then (if x7_2 < (l1.length : Int) then (if (rdOf ByteArray.empty l0 x6_1).toList = (rdOf ByteArray.empty l1 x7_2).toList then (if (ji29) < ((rd_L3 x5_2 (ji22)).length : Int) then (if x7_2 < ((rd_L3 x5_2 x6_1).length : Int) then (spec_l04Table.l1 kj18 l0 l1 (x5_2.set (x6_1 : Int).toNat ((rd_L3 x5_2 x6_1).set (x7_2 : Int).toNat (wrap64 ((rd (rd_L3 x5_2 (ji22)) (ji29)) + 1)))) x6_1 (wrap64 (x7_2 - 1))) else (none)) else (none)) else (if x7_2 < ((rd_L3 x5_2 x6_1).length : Int) then (spec_l04Table.l1 kj18 l0 l1 (x5_2.set (x6_1 : Int).toNat ((rd_L3 x5_2 x6_1).set (x7_2 : Int).toNat (rd (rd_L3 x5_2 x6_1) (ji29)))) x6_1 (wrap64 (x7_2 - 1))) else (none))) else (none)) else (none)) else (if x6_1 < (l0.length : Int) then (if x7_2 < (l1.length : Int) then (if (rdOf ByteArray.empty l0 x6_1).toList = (rdOf ByteArray.empty l1 x7_2).toList then (if (ji29) < ((rd_L3 x5_2 (ji22)).length : Int) then (if x7_2 < ((rd_L3 x5_2 x6_1).length : Int) then (spec_l04Table.l1 kj18 l0 l1 (x5_2.set (x6_1 : Int).toNat ((rd_L3 x5_2 x6_1).set (x7_2 : Int).toNat (wrap64 ((rd (rd_L3 x5_2 (ji22)) (ji29)) + 1)))) x6_1 (wrap64 (x7_2 - 1))) else (none)) else (none)) else (if x7_2 < ((rd_L3 x5_2 x6_1).length : Int) then (spec_l04Table.l1 kj18 l0 l1 (x5_2.set (x6_1 : Int).toNat ((rd_L3 x5_2 x6_1).set (x7_2 : Int).toNat (rd (rd_L3 x5_2 (ji22)) x7_2))) x6_1 (wrap64 (x7_2 - 1))) else (none))) else (none)) else (none))) else (none)) else (none)) = some r := by first | (rw [hji29] at H; exact H) | (simp only [hji29] at H ⊢; exact H)
                                          have hji29w : (IntKind.i64.wrap (x7_2 + 1)) = ji29 := (i64_w _).trans hji29
                                          by_cases c30 : 0 ≤ (ji29)
                                          · rw [if_pos c30] at H
                                            have c30b0 : decide (0 ≤ (ji29)) = true := decide_eq_true c30
                                            clear c30
                                            by_cases c31 : (ji29) < ((rd_L3 x5_2 x6_1).length : Int)
                                            · rw [if_pos c31] at H
                                              have c31b0 : decide ((ji29) < ((rd_L3 x5_2 x6_1).length : Int)) = true := decide_eq_true c31
                                              clear c31
                                              by_cases c32 : (rd (rd_L3 x5_2 x6_1) (ji29)) > (rd (rd_L3 x5_2 (ji22)) x7_2)
                                              · rw [if_pos c32] at H
                                                have c32b0 : decide ((rd (rd_L3 x5_2 (ji22)) x7_2) < (rd (rd_L3 x5_2 x6_1) (ji29))) = true := decide_eq_true c32
                                                clear c32
                                                by_cases c33 : x6_1 < (l0.length : Int)
                                                · rw [if_pos c33] at H
                                                  have c33b0 : decide (x6_1 < (l0.length : Int)) = true := decide_eq_true c33
                                                  clear c33
                                                  by_cases c34 : x7_2 < (l1.length : Int)
                                                  · rw [if_pos c34] at H
                                                    have c34b0 : decide (x7_2 < (l1.length : Int)) = true := decide_eq_true c34
                                                    clear c34
                                                    by_cases c35 : (rdOf ByteArray.empty l0 x6_1).toList = (rdOf ByteArray.empty l1 x7_2).toList
                                                    · rw [if_pos c35] at H
                                                      have c35b0 : ((rdOf ByteArray.empty l0 x6_1).toList == (rdOf ByteArray.empty l1 x7_2).toList) = true := beq_iff_eq.mpr c35
                                                      have c35b1 : ((rdOf ByteArray.empty l0 x6_1).toList != (rdOf ByteArray.empty l1 x7_2).toList) = false := bne_eq_false_iff_eq.mpr c35
                                                      clear c35
                                                      by_cases c36 : (ji29) < ((rd_L3 x5_2 (ji22)).length : Int)
                                                      · rw [if_pos c36] at H
                                                        have c36b0 : decide ((ji29) < ((rd_L3 x5_2 (ji22)).length : Int)) = true := decide_eq_true c36
                                                        clear c36
                                                        by_cases c37 : x7_2 < ((rd_L3 x5_2 x6_1).length : Int)
                                                        · rw [if_pos c37] at H
                                                          have c37b0 : decide (x7_2 < ((rd_L3 x5_2 x6_1).length : Int)) = true := decide_eq_true c37
                                                          clear c37
                                                          obtain ⟨y261, hy261⟩ : ∃ y_ : List Int, y_ = ((rd_L3 x5_2 x6_1).set (x7_2 : Int).toNat (wrap64 ((rd (rd_L3 x5_2 (ji22)) (ji29)) + 1))) := ⟨_, rfl⟩
                                                          replace H : (spec_l04Table.l1 kj18 l0 l1 (x5_2.set (x6_1 : Int).toNat y261) x6_1 (wrap64 (x7_2 - 1))) = some r := by first | (rw [hy261]; with_reducible exact H) | (have H2_ := (Option.bind_some _ _).symm.trans H; rw [hy261]; with_reducible exact H2_) | (have H2_ := (Option.bind_some _ _).symm.trans H; with_reducible exact H2_) | with_reducible exact H | (rw [hy261]; exact H) | exact H
                                                          have Ny261 := Aside0.mk hy261
                                                          clear hy261
                                                          obtain ⟨y263, hy263⟩ : ∃ y_ : List (List Int), y_ = (x5_2.set (x6_1 : Int).toNat y261) := ⟨_, rfl⟩
                                                          replace H : (spec_l04Table.l1 kj18 l0 l1 y263 x6_1 (wrap64 (x7_2 - 1))) = some r := by first | (rw [hy263]; with_reducible exact H) | (have H2_ := (Option.bind_some _ _).symm.trans H; rw [hy263]; with_reducible exact H2_) | (have H2_ := (Option.bind_some _ _).symm.trans H; with_reducible exact H2_) | with_reducible exact H | (rw [hy263]; exact H) | exact H
                                                          have Ny263 := Aside0.mk hy263
                                                          clear hy263
                                                          have H' := Aside0.mk H
                                                          clear H
                                                          have p250 : 0 ≤ ((ji22) : Int) := of_decide_eq_true (by first | (with_reducible assumption) | assumption)
                                                          have q250 : (ji22) < (x5_2.length : Int) := of_decide_eq_true (by first | (with_reducible assumption) | assumption)
                                                          obtain ⟨ad250, A250_0, c250_0, e250, hx250_0, hl250_0, hi250_0⟩ := at_L3 (Kd.S_reads' HO_5.out).2.2 (ji22) p250 q250
                                                          obtain rfl : (⟨go14, 0, none⟩ : Addr) = ad250 := (by injection e250)
                                                          obtain ⟨ce250, hce250, hMe250, hcc250⟩ := Kd.S_get HO_5.out [] (ji22) p250 (by first | exact q250 | exact of_decide_eq_true (by first | (with_reducible assumption) | assumption) | (have e_ := (Kd.S_reads' HO_5.out).1; omega))
                                                          obtain ⟨ve250_0, rfl, ge250_0⟩ := hMe250
                                                          have hv250_0 := hcc250 0 _ rfl
                                                          rw [Nat.add_zero, show ((Kd.slice 3 (Kd.int .i64))).sz = 1 from rfl, Nat.mul_one] at hv250_0
                                                          replace hv250_0 := Option.some.inj (hv250_0.symm.trans hx250_0)
                                                          rw [hv250_0] at ge250_0
                                                          have HL250_0 := Aside0.mk (show Kd.R (Kd.int .i64) 3 _ _ _ _ (rd_L3 x5_2 (ji22)) from ge250_0)
                                                          clear hv250_0 ge250_0
                                                          have HX250_0 := Aside0.mk hx250_0
                                                          clear hcc250 hce250
                                                          (first | simp only [add_plain] at hx250_0 | simp only [add_at] at hx250_0 | simp only [Addr.add, Nat.zero_add] at hx250_0 | skip)
                                                          have HR250_0 := Aside0.mk hi250_0
                                                          have HC250_0 := Aside0.mk hl250_0
                                                          clear hi250_0 hl250_0
                                                          replace p250 := eq_true p250
                                                          replace q250 := eq_true q250
                                                          have p251 : 0 ≤ (x7_2 : Int) := of_decide_eq_true (by first | (with_reducible assumption) | assumption)
                                                          have q251 : x7_2 < ((rd_L3 x5_2 (ji22)).length : Int) := of_decide_eq_true (by first | (with_reducible assumption) | assumption)
                                                          obtain ⟨ad251, e251, hx251_0⟩ := Kd.at_int (by repeat (first | (with_reducible exact HR250_0.out) | (with_reducible refine Kd.C_alloc ?_ _) | (with_reducible refine Kd.C_drewN ?_ _) | (with_reducible refine Kd.C_drew ?_) | exact HR250_0.out)) x7_2 p251 q251
                                                          cases e251
                                                          replace p251 := eq_true p251
                                                          replace q251 := eq_true q251
                                                          have p252 : 0 ≤ (x6_1 : Int) := of_decide_eq_true (by first | (with_reducible assumption) | assumption)
                                                          have q252 : x6_1 < (x5_2.length : Int) := of_decide_eq_true (by first | (with_reducible assumption) | assumption)
                                                          obtain ⟨ad252, A252_0, c252_0, e252, hx252_0, hl252_0, hi252_0⟩ := at_L3 (Kd.S_reads' HO_5.out).2.2 x6_1 p252 q252
                                                          obtain rfl : (⟨go14, 0, none⟩ : Addr) = ad252 := (by injection e252)
                                                          obtain ⟨ce252, hce252, hMe252, hcc252⟩ := Kd.S_get HO_5.out [] x6_1 p252 (by first | exact q252 | exact of_decide_eq_true (by first | (with_reducible assumption) | assumption) | (have e_ := (Kd.S_reads' HO_5.out).1; omega))
                                                          obtain ⟨ve252_0, rfl, ge252_0⟩ := hMe252
                                                          have hv252_0 := hcc252 0 _ rfl
                                                          rw [Nat.add_zero, show ((Kd.slice 3 (Kd.int .i64))).sz = 1 from rfl, Nat.mul_one] at hv252_0
                                                          replace hv252_0 := Option.some.inj (hv252_0.symm.trans hx252_0)
                                                          rw [hv252_0] at ge252_0
                                                          have HL252_0 := Aside0.mk (show Kd.R (Kd.int .i64) 3 _ _ _ _ (rd_L3 x5_2 x6_1) from ge252_0)
                                                          clear hv252_0 ge252_0
                                                          have HX252_0 := Aside0.mk hx252_0
                                                          clear hcc252 hce252
                                                          (first | simp only [add_plain] at hx252_0 | simp only [add_at] at hx252_0 | simp only [Addr.add, Nat.zero_add] at hx252_0 | skip)
                                                          have HR252_0 := Aside0.mk hi252_0
                                                          have HC252_0 := Aside0.mk hl252_0
                                                          clear hi252_0 hl252_0
                                                          replace p252 := eq_true p252
                                                          replace q252 := eq_true q252
                                                          have p253 : 0 ≤ ((ji29) : Int) := of_decide_eq_true (by first | (with_reducible assumption) | assumption)
                                                          have q253 : (ji29) < ((rd_L3 x5_2 x6_1).length : Int) := of_decide_eq_true (by first | (with_reducible assumption) | assumption)
                                                          obtain ⟨ad253, e253, hx253_0⟩ := Kd.at_int (by repeat (first | (with_reducible exact HR252_0.out) | (with_reducible refine Kd.C_alloc ?_ _) | (with_reducible refine Kd.C_drewN ?_ _) | (with_reducible refine Kd.C_drew ?_) | exact HR252_0.out)) (ji29) p253 q253
                                                          cases e253
                                                          replace p253 := eq_true p253
                                                          replace q253 := eq_true q253
                                                          have p254 : 0 ≤ (x6_1 : Int) := of_decide_eq_true (by first | (with_reducible assumption) | assumption)
                                                          have q254 : x6_1 < (x5_2.length : Int) := of_decide_eq_true (by first | (with_reducible assumption) | assumption)
                                                          obtain ⟨ad254, A254_0, c254_0, e254, hx254_0, hl254_0, hi254_0⟩ := at_L3 (Kd.S_reads' HO_5.out).2.2 x6_1 p254 q254
                                                          obtain rfl : (⟨go14, 0, none⟩ : Addr) = ad254 := (by injection e254)
                                                          obtain ⟨ce254, hce254, hMe254, hcc254⟩ := Kd.S_get HO_5.out [] x6_1 p254 (by first | exact q254 | exact of_decide_eq_true (by first | (with_reducible assumption) | assumption) | (have e_ := (Kd.S_reads' HO_5.out).1; omega))
                                                          obtain ⟨ve254_0, rfl, ge254_0⟩ := hMe254
                                                          have hv254_0 := hcc254 0 _ rfl
                                                          rw [Nat.add_zero, show ((Kd.slice 3 (Kd.int .i64))).sz = 1 from rfl, Nat.mul_one] at hv254_0
                                                          replace hv254_0 := Option.some.inj (hv254_0.symm.trans hx254_0)
                                                          rw [hv254_0] at ge254_0
                                                          have HL254_0 := Aside0.mk (show Kd.R (Kd.int .i64) 3 _ _ _ _ (rd_L3 x5_2 x6_1) from ge254_0)
                                                          clear hv254_0 ge254_0
                                                          have HX254_0 := Aside0.mk hx254_0
                                                          clear hcc254 hce254
                                                          (first | simp only [add_plain] at hx254_0 | simp only [add_at] at hx254_0 | simp only [Addr.add, Nat.zero_add] at hx254_0 | skip)
                                                          have HR254_0 := Aside0.mk hi254_0
                                                          have HC254_0 := Aside0.mk hl254_0
                                                          clear hi254_0 hl254_0
                                                          replace p254 := eq_true p254
                                                          replace q254 := eq_true q254
                                                          have ea_ := Option.some.inj (hx252_0.symm.trans hx254_0)
                                                          injection ea_ with ea_ en_ ec_
                                                          subst ea_
                                                          subst ec_
                                                          clear en_
                                                          have p255 : 0 ≤ ((ji29) : Int) := of_decide_eq_true (by first | (with_reducible assumption) | assumption)
                                                          have q255 : (ji29) < ((rd_L3 x5_2 x6_1).length : Int) := of_decide_eq_true (by first | (with_reducible assumption) | assumption)
                                                          obtain ⟨ad255, e255, hx255_0⟩ := Kd.at_int (by repeat (first | (with_reducible exact HR254_0.out) | (with_reducible refine Kd.C_alloc ?_ _) | (with_reducible refine Kd.C_drewN ?_ _) | (with_reducible refine Kd.C_drew ?_) | exact HR254_0.out)) (ji29) p255 q255
                                                          cases e255
                                                          replace p255 := eq_true p255
                                                          replace q255 := eq_true q255
                                                          have p256 : 0 ≤ (x6_1 : Int) := of_decide_eq_true (by first | (with_reducible assumption) | assumption)
                                                          have q256 : x6_1 < (l0.length : Int) := of_decide_eq_true (by first | (with_reducible assumption) | assumption)
                                                          obtain ⟨ad256, e256, hx256_0⟩ := Kd.at_string HR0.out x6_1 p256 q256
                                                          cases e256
                                                          replace hx256_0 := (HB.out.cell (World.block_lt_of_cell? w _ hx256_0)).trans hx256_0
                                                          replace p256 := eq_true p256
                                                          replace q256 := eq_true q256
                                                          have p257 : 0 ≤ (x7_2 : Int) := of_decide_eq_true (by first | (with_reducible assumption) | assumption)
                                                          have q257 : x7_2 < (l1.length : Int) := of_decide_eq_true (by first | (with_reducible assumption) | assumption)
                                                          obtain ⟨ad257, e257, hx257_0⟩ := Kd.at_string HR1.out x7_2 p257 q257
                                                          cases e257
                                                          replace hx257_0 := (HB.out.cell (World.block_lt_of_cell? w _ hx257_0)).trans hx257_0
                                                          replace p257 := eq_true p257
                                                          replace q257 := eq_true q257
                                                          have p258 : 0 ≤ ((ji22) : Int) := of_decide_eq_true (by first | (with_reducible assumption) | assumption)
                                                          have q258 : (ji22) < (x5_2.length : Int) := of_decide_eq_true (by first | (with_reducible assumption) | assumption)
                                                          obtain ⟨ad258, A258_0, c258_0, e258, hx258_0, hl258_0, hi258_0⟩ := at_L3 (Kd.S_reads' HO_5.out).2.2 (ji22) p258 q258
                                                          obtain rfl : (⟨go14, 0, none⟩ : Addr) = ad258 := (by injection e258)
                                                          obtain ⟨ce258, hce258, hMe258, hcc258⟩ := Kd.S_get HO_5.out [] (ji22) p258 (by first | exact q258 | exact of_decide_eq_true (by first | (with_reducible assumption) | assumption) | (have e_ := (Kd.S_reads' HO_5.out).1; omega))
                                                          obtain ⟨ve258_0, rfl, ge258_0⟩ := hMe258
                                                          have hv258_0 := hcc258 0 _ rfl
                                                          rw [Nat.add_zero, show ((Kd.slice 3 (Kd.int .i64))).sz = 1 from rfl, Nat.mul_one] at hv258_0
                                                          replace hv258_0 := Option.some.inj (hv258_0.symm.trans hx258_0)
                                                          rw [hv258_0] at ge258_0
                                                          have HL258_0 := Aside0.mk (show Kd.R (Kd.int .i64) 3 _ _ _ _ (rd_L3 x5_2 (ji22)) from ge258_0)
                                                          clear hv258_0 ge258_0
                                                          have HX258_0 := Aside0.mk hx258_0
                                                          clear hcc258 hce258
                                                          (first | simp only [add_plain] at hx258_0 | simp only [add_at] at hx258_0 | simp only [Addr.add, Nat.zero_add] at hx258_0 | skip)
                                                          have HR258_0 := Aside0.mk hi258_0
                                                          have HC258_0 := Aside0.mk hl258_0
                                                          clear hi258_0 hl258_0
                                                          replace p258 := eq_true p258
                                                          replace q258 := eq_true q258
                                                          have ea_ := Option.some.inj (hx250_0.symm.trans hx258_0)
                                                          injection ea_ with ea_ en_ ec_
                                                          subst ea_
                                                          subst ec_
                                                          clear en_
                                                          have p259 : 0 ≤ ((ji29) : Int) := of_decide_eq_true (by first | (with_reducible assumption) | assumption)
                                                          have q259 : (ji29) < ((rd_L3 x5_2 (ji22)).length : Int) := of_decide_eq_true (by first | (with_reducible assumption) | assumption)
                                                          obtain ⟨ad259, e259, hx259_0⟩ := Kd.at_int (by repeat (first | (with_reducible exact HR258_0.out) | (with_reducible refine Kd.C_alloc ?_ _) | (with_reducible refine Kd.C_drewN ?_ _) | (with_reducible refine Kd.C_drew ?_) | exact HR258_0.out)) (ji29) p259 q259
                                                          cases e259
                                                          replace p259 := eq_true p259
                                                          replace q259 := eq_true q259
                                                          have p260 : 0 ≤ (x6_1 : Int) := of_decide_eq_true (by first | (with_reducible assumption) | assumption)
                                                          have q260 : x6_1 < (x5_2.length : Int) := of_decide_eq_true (by first | (with_reducible assumption) | assumption)
                                                          obtain ⟨ad260, A260_0, c260_0, e260, hx260_0, hl260_0, hi260_0⟩ := at_L3 (Kd.S_reads' HO_5.out).2.2 x6_1 p260 q260
                                                          obtain rfl : (⟨go14, 0, none⟩ : Addr) = ad260 := (by injection e260)
                                                          obtain ⟨ce260, hce260, hMe260, hcc260⟩ := Kd.S_get HO_5.out [] x6_1 p260 (by first | exact q260 | exact of_decide_eq_true (by first | (with_reducible assumption) | assumption) | (have e_ := (Kd.S_reads' HO_5.out).1; omega))
                                                          obtain ⟨ve260_0, rfl, ge260_0⟩ := hMe260
                                                          have hv260_0 := hcc260 0 _ rfl
                                                          rw [Nat.add_zero, show ((Kd.slice 3 (Kd.int .i64))).sz = 1 from rfl, Nat.mul_one] at hv260_0
                                                          replace hv260_0 := Option.some.inj (hv260_0.symm.trans hx260_0)
                                                          rw [hv260_0] at ge260_0
                                                          have HL260_0 := Aside0.mk (show Kd.R (Kd.int .i64) 3 _ _ _ _ (rd_L3 x5_2 x6_1) from ge260_0)
                                                          clear hv260_0 ge260_0
                                                          have HX260_0 := Aside0.mk hx260_0
                                                          clear hcc260 hce260
                                                          (first | simp only [add_plain] at hx260_0 | simp only [add_at] at hx260_0 | simp only [Addr.add, Nat.zero_add] at hx260_0 | skip)
                                                          have HR260_0 := Aside0.mk hi260_0
                                                          have HC260_0 := Aside0.mk hl260_0
                                                          clear hi260_0 hl260_0
                                                          replace p260 := eq_true p260
                                                          replace q260 := eq_true q260
                                                          have ea_ := Option.some.inj (hx252_0.symm.trans hx260_0)
                                                          injection ea_ with ea_ en_ ec_
                                                          subst ea_
                                                          subst ec_
                                                          clear en_
                                                          have p38 : 0 ≤ (x7_2 : Int) := of_decide_eq_true (by first | (with_reducible assumption) | assumption)
                                                          have q38 : (x7_2 : Int) < (((rd_L3 x5_2 x6_1).length : Int) : Int) := of_decide_eq_true (by first | (with_reducible assumption) | assumption)
                                                          obtain ⟨go38, co38, eo38, gb38, gl38, cl38, HG38⟩ := Kd.R_form HL260_0.out (by omega)
                                                          (first | cases eo38 | (injection eo38 with ea_ en_ ec_; (first | subst ea_ | (injection ea_ with ea_; subst ea_)); subst ec_; clear en_))
                                                          have GB38 := Aside0.mk gb38
                                                          have GG38 := Aside0.mk HG38
                                                          clear gb38 gl38 HG38
                                                          (first | simp only [add_plain] at hx255_0 | skip)
                                                          obtain ⟨hx38_0, hf38_0⟩ := Kd.R_celln 0 HL260_0.out (x7_2 : Int) p38 q38
                                                          replace p38 := eq_true p38
                                                          replace q38 := eq_true q38
                                                          have hq39 : (x6_1 : Int) < (x5_2.length : Int) := (by have h_ : (x6_1 : Int) < ((x5_2.length : Int) : Int) := of_decide_eq_true (by first | (with_reducible assumption) | assumption); first | exact h_ | (have e_ := (Kd.S_reads' HO_5.out).1; omega) | simpa only [List.length_set, List.length_set] using h_)
                                                          obtain ⟨oki39, ce39, hcl39, hM39, hcc39, hok39, hbk39⟩ := Kd.S_borrow HO_5.out [] (x6_1 : Int) (of_decide_eq_true (by first | (with_reducible assumption) | assumption)) hq39
                                                          obtain ⟨ve39_0, rfl, ge39_0⟩ := hM39
                                                          have hv39 := hcc39 0 _ rfl
                                                          rw [Nat.add_zero, show ((Kd.slice 3 (Kd.int .i64))).sz = 1 from rfl, Nat.mul_one] at hv39
                                                          replace hv39 := Option.some.inj (hv39.symm.trans HX260_0.out)
                                                          subst hv39
                                                          clear hcc39 hcl39
                                                          replace ge39_0 := (show Kd.R (Kd.int .i64) 3 _ _ _ _ (rd_L3 x5_2 x6_1) from ge39_0)
                                                          have HP39 := Kd.R_putg ge39_0 (x7_2 : Int) (wrap64 ((rd (rd_L3 x5_2 (ji22)) (ji29)) + 1))
                                                          go_wp2_with (first | ((with_reducible refine gate_store (t := 3) (p := 90) rfl ?_); (try (rw [drewN_self wc]; generalize hq_ : World.drewN wc _ = wc; (try (replace hx250_0 := cell_at hq_ hx250_0)); (try (replace hx251_0 := cell_at hq_ hx251_0)); (try (replace hx252_0 := cell_at hq_ hx252_0)); (try (replace hx253_0 := cell_at hq_ hx253_0)); (try (replace hx254_0 := cell_at hq_ hx254_0)); (try (replace hx255_0 := cell_at hq_ hx255_0)); (try (replace hx256_0 := cell_at hq_ hx256_0)); (try (replace hx257_0 := cell_at hq_ hx257_0)); (try (replace hx258_0 := cell_at hq_ hx258_0)); (try (replace hx259_0 := cell_at hq_ hx259_0)); (try (replace hx260_0 := cell_at hq_ hx260_0)); (try (replace hx38_0 := cell_at hq_ hx38_0)); (try (replace hf38_0 := frozen_at hq_ hf38_0)); (try (replace HX250_0 := Aside0.mk (cell_at hq_ HX250_0.out))); (try (replace HX252_0 := Aside0.mk (cell_at hq_ HX252_0.out))); (try (replace HX254_0 := Aside0.mk (cell_at hq_ HX254_0.out))); (try (replace HX258_0 := Aside0.mk (cell_at hq_ HX258_0.out))); (try (replace HX260_0 := Aside0.mk (cell_at hq_ HX260_0.out))); have n0_ := Aside0.mk (Kd.S_at hq_ HO_5.out); (try have n1_ := Aside0.mk (Kd.R_at hq_ HL280.out)); have n2_ := Aside0.mk (below_at hq_ HB.out); (try clear HL280); clear hq_ HO_5 HB; have HO_5 := n0_; (try have HL280 := n1_); have HB := n2_; (try clear n1_); clear n0_ n2_; (try (have hq39 : (x6_1 : Int) < (x5_2.length : Int) := (by have h_ : (x6_1 : Int) < ((x5_2.length : Int) : Int) := of_decide_eq_true (by first | (with_reducible assumption) | assumption); first | exact h_ | (have e_ := (Kd.S_reads' HO_5.out).1; omega) | simpa only [List.length_set, List.length_set] using h_))); (try (obtain ⟨oki39, ce39, hcl39, hM39, hcc39, hok39, hbk39⟩ := Kd.S_borrow HO_5.out [] (x6_1 : Int) (of_decide_eq_true (by first | (with_reducible assumption) | assumption)) hq39)); (try (obtain ⟨ve39_0, rfl, ge39_0⟩ := hM39)); (try (have hv39 := hcc39 0 _ rfl)); (try (rw [Nat.add_zero, show ((Kd.slice 3 (Kd.int .i64))).sz = 1 from rfl, Nat.mul_one] at hv39)); (try (replace hv39 := Option.some.inj (hv39.symm.trans HX260_0.out))); (try (subst hv39)); (try (clear hcc39 hcl39)); (try (replace ge39_0 := (show Kd.R (Kd.int .i64) 3 _ _ _ _ (rd_L3 x5_2 x6_1) from ge39_0))); (try (have HP39 := Kd.R_putg ge39_0 (x7_2 : Int) (wrap64 ((rd (rd_L3 x5_2 (ji22)) (ji29)) + 1)))))); refine store_event (t := 3) (p := 90) (v := ?vo_w40) (w1 := (wc.setCell ⟨go38, (x7_2 : Int).toNat, none⟩ (.int .i64 (wrap64 ((rd (rd_L3 x5_2 (ji22)) (ji29)) + 1))))) ?hg ?ho ?hn ?hr ?_; (case ho => rfl); (case hg => rfl); (case hn => rfl); (case hr => first | (go_simp; done) | (go_simp; rfl)); intro w40 hw; have hg : wc.grownBy w40 (some go38) := (by rw [hw]; exact HP39.2); have hz_ : Kd.R (Kd.int .i64) 3 w40 w.heap.size oki39 (.slice (some ⟨go38, 0, none⟩) (rd_L3 x5_2 x6_1).length c252_0) y261 := (by rw [hw, Ny261.out]; exact HP39.1); have hp_ : Kd.S (Kd.slice 3 (Kd.int .i64)) 35 w40 w.heap.size (fun _ => True) (.slice (some ⟨go14, 0, none⟩) x5_2.length co14) y263 := (by rw [Ny263.out]; exact hbk39 hg (fun k_ e_ => by injection e_ with e_; subst e_; exact ge39_0.1 _ rfl) (Kd.M_row hz_)); have hm_ := Kd.R_mono hz_ hok39; clear HP39 hbk39; have n0_ := Aside0.mk (hp_); have n1_ := Aside0.mk ((by rw [hw]; exact below_set (HB.out) GB38.out : Below w.heap.size w w40)); have n2_ := Aside0.mk (hm_); have n3_ := Aside0.mk ((Kd.R_reads' hm_).2.1); clear HO_5; clear HB; clear HL250_0; clear HL252_0; clear HL254_0; clear HL258_0; clear HL260_0; have HO_5 := n0_; have HB := n1_; have HL280 := n2_; have HC262 := n3_; clear n0_ n1_ n2_ n3_; clear hg hw hp_ hz_ hm_ hok39))
                                                          repeat (go_quiet (first | ((with_reducible refine gate_store (t := 3) (p := 90) rfl ?_); (try (rw [drewN_self wc]; generalize hq_ : World.drewN wc _ = wc; (try (replace hx250_0 := cell_at hq_ hx250_0)); (try (replace hx251_0 := cell_at hq_ hx251_0)); (try (replace hx252_0 := cell_at hq_ hx252_0)); (try (replace hx253_0 := cell_at hq_ hx253_0)); (try (replace hx254_0 := cell_at hq_ hx254_0)); (try (replace hx255_0 := cell_at hq_ hx255_0)); (try (replace hx256_0 := cell_at hq_ hx256_0)); (try (replace hx257_0 := cell_at hq_ hx257_0)); (try (replace hx258_0 := cell_at hq_ hx258_0)); (try (replace hx259_0 := cell_at hq_ hx259_0)); (try (replace hx260_0 := cell_at hq_ hx260_0)); (try (replace hx38_0 := cell_at hq_ hx38_0)); (try (replace hf38_0 := frozen_at hq_ hf38_0)); (try (replace HX250_0 := Aside0.mk (cell_at hq_ HX250_0.out))); (try (replace HX252_0 := Aside0.mk (cell_at hq_ HX252_0.out))); (try (replace HX254_0 := Aside0.mk (cell_at hq_ HX254_0.out))); (try (replace HX258_0 := Aside0.mk (cell_at hq_ HX258_0.out))); (try (replace HX260_0 := Aside0.mk (cell_at hq_ HX260_0.out))); have n0_ := Aside0.mk (Kd.S_at hq_ HO_5.out); (try have n1_ := Aside0.mk (Kd.R_at hq_ HL280.out)); have n2_ := Aside0.mk (below_at hq_ HB.out); (try clear HL280); clear hq_ HO_5 HB; have HO_5 := n0_; (try have HL280 := n1_); have HB := n2_; (try clear n1_); clear n0_ n2_; (try (have hq39 : (x6_1 : Int) < (x5_2.length : Int) := (by have h_ : (x6_1 : Int) < ((x5_2.length : Int) : Int) := of_decide_eq_true (by first | (with_reducible assumption) | assumption); first | exact h_ | (have e_ := (Kd.S_reads' HO_5.out).1; omega) | simpa only [List.length_set, List.length_set] using h_))); (try (obtain ⟨oki39, ce39, hcl39, hM39, hcc39, hok39, hbk39⟩ := Kd.S_borrow HO_5.out [] (x6_1 : Int) (of_decide_eq_true (by first | (with_reducible assumption) | assumption)) hq39)); (try (obtain ⟨ve39_0, rfl, ge39_0⟩ := hM39)); (try (have hv39 := hcc39 0 _ rfl)); (try (rw [Nat.add_zero, show ((Kd.slice 3 (Kd.int .i64))).sz = 1 from rfl, Nat.mul_one] at hv39)); (try (replace hv39 := Option.some.inj (hv39.symm.trans HX260_0.out))); (try (subst hv39)); (try (clear hcc39 hcl39)); (try (replace ge39_0 := (show Kd.R (Kd.int .i64) 3 _ _ _ _ (rd_L3 x5_2 x6_1) from ge39_0))); (try (have HP39 := Kd.R_putg ge39_0 (x7_2 : Int) (wrap64 ((rd (rd_L3 x5_2 (ji22)) (ji29)) + 1)))))); refine store_event (t := 3) (p := 90) (v := ?vo_w40) (w1 := (wc.setCell ⟨go38, (x7_2 : Int).toNat, none⟩ (.int .i64 (wrap64 ((rd (rd_L3 x5_2 (ji22)) (ji29)) + 1))))) ?hg ?ho ?hn ?hr ?_; (case ho => rfl); (case hg => rfl); (case hn => rfl); (case hr => first | (go_simp; done) | (go_simp; rfl)); intro w40 hw; have hg : wc.grownBy w40 (some go38) := (by rw [hw]; exact HP39.2); have hz_ : Kd.R (Kd.int .i64) 3 w40 w.heap.size oki39 (.slice (some ⟨go38, 0, none⟩) (rd_L3 x5_2 x6_1).length c252_0) y261 := (by rw [hw, Ny261.out]; exact HP39.1); have hp_ : Kd.S (Kd.slice 3 (Kd.int .i64)) 35 w40 w.heap.size (fun _ => True) (.slice (some ⟨go14, 0, none⟩) x5_2.length co14) y263 := (by rw [Ny263.out]; exact hbk39 hg (fun k_ e_ => by injection e_ with e_; subst e_; exact ge39_0.1 _ rfl) (Kd.M_row hz_)); have hm_ := Kd.R_mono hz_ hok39; clear HP39 hbk39; have n0_ := Aside0.mk (hp_); have n1_ := Aside0.mk ((by rw [hw]; exact below_set (HB.out) GB38.out : Below w.heap.size w w40)); have n2_ := Aside0.mk (hm_); have n3_ := Aside0.mk ((Kd.R_reads' hm_).2.1); clear HO_5; clear HB; clear HL250_0; clear HL252_0; clear HL254_0; clear HL258_0; clear HL260_0; have HO_5 := n0_; have HB := n1_; have HL280 := n2_; have HC262 := n3_; clear n0_ n1_ n2_ n3_; clear hg hw hp_ hz_ hm_ hok39)); try go_wp2_with (first | ((with_reducible refine gate_store (t := 3) (p := 90) rfl ?_); (try (rw [drewN_self wc]; generalize hq_ : World.drewN wc _ = wc; (try (replace hx250_0 := cell_at hq_ hx250_0)); (try (replace hx251_0 := cell_at hq_ hx251_0)); (try (replace hx252_0 := cell_at hq_ hx252_0)); (try (replace hx253_0 := cell_at hq_ hx253_0)); (try (replace hx254_0 := cell_at hq_ hx254_0)); (try (replace hx255_0 := cell_at hq_ hx255_0)); (try (replace hx256_0 := cell_at hq_ hx256_0)); (try (replace hx257_0 := cell_at hq_ hx257_0)); (try (replace hx258_0 := cell_at hq_ hx258_0)); (try (replace hx259_0 := cell_at hq_ hx259_0)); (try (replace hx260_0 := cell_at hq_ hx260_0)); (try (replace hx38_0 := cell_at hq_ hx38_0)); (try (replace hf38_0 := frozen_at hq_ hf38_0)); (try (replace HX250_0 := Aside0.mk (cell_at hq_ HX250_0.out))); (try (replace HX252_0 := Aside0.mk (cell_at hq_ HX252_0.out))); (try (replace HX254_0 := Aside0.mk (cell_at hq_ HX254_0.out))); (try (replace HX258_0 := Aside0.mk (cell_at hq_ HX258_0.out))); (try (replace HX260_0 := Aside0.mk (cell_at hq_ HX260_0.out))); have n0_ := Aside0.mk (Kd.S_at hq_ HO_5.out); (try have n1_ := Aside0.mk (Kd.R_at hq_ HL280.out)); have n2_ := Aside0.mk (below_at hq_ HB.out); (try clear HL280); clear hq_ HO_5 HB; have HO_5 := n0_; (try have HL280 := n1_); have HB := n2_; (try clear n1_); clear n0_ n2_; (try (have hq39 : (x6_1 : Int) < (x5_2.length : Int) := (by have h_ : (x6_1 : Int) < ((x5_2.length : Int) : Int) := of_decide_eq_true (by first | (with_reducible assumption) | assumption); first | exact h_ | (have e_ := (Kd.S_reads' HO_5.out).1; omega) | simpa only [List.length_set, List.length_set] using h_))); (try (obtain ⟨oki39, ce39, hcl39, hM39, hcc39, hok39, hbk39⟩ := Kd.S_borrow HO_5.out [] (x6_1 : Int) (of_decide_eq_true (by first | (with_reducible assumption) | assumption)) hq39)); (try (obtain ⟨ve39_0, rfl, ge39_0⟩ := hM39)); (try (have hv39 := hcc39 0 _ rfl)); (try (rw [Nat.add_zero, show ((Kd.slice 3 (Kd.int .i64))).sz = 1 from rfl, Nat.mul_one] at hv39)); (try (replace hv39 := Option.some.inj (hv39.symm.trans HX260_0.out))); (try (subst hv39)); (try (clear hcc39 hcl39)); (try (replace ge39_0 := (show Kd.R (Kd.int .i64) 3 _ _ _ _ (rd_L3 x5_2 x6_1) from ge39_0))); (try (have HP39 := Kd.R_putg ge39_0 (x7_2 : Int) (wrap64 ((rd (rd_L3 x5_2 (ji22)) (ji29)) + 1)))))); refine store_event (t := 3) (p := 90) (v := ?vo_w40) (w1 := (wc.setCell ⟨go38, (x7_2 : Int).toNat, none⟩ (.int .i64 (wrap64 ((rd (rd_L3 x5_2 (ji22)) (ji29)) + 1))))) ?hg ?ho ?hn ?hr ?_; (case ho => rfl); (case hg => rfl); (case hn => rfl); (case hr => first | (go_simp; done) | (go_simp; rfl)); intro w40 hw; have hg : wc.grownBy w40 (some go38) := (by rw [hw]; exact HP39.2); have hz_ : Kd.R (Kd.int .i64) 3 w40 w.heap.size oki39 (.slice (some ⟨go38, 0, none⟩) (rd_L3 x5_2 x6_1).length c252_0) y261 := (by rw [hw, Ny261.out]; exact HP39.1); have hp_ : Kd.S (Kd.slice 3 (Kd.int .i64)) 35 w40 w.heap.size (fun _ => True) (.slice (some ⟨go14, 0, none⟩) x5_2.length co14) y263 := (by rw [Ny263.out]; exact hbk39 hg (fun k_ e_ => by injection e_ with e_; subst e_; exact ge39_0.1 _ rfl) (Kd.M_row hz_)); have hm_ := Kd.R_mono hz_ hok39; clear HP39 hbk39; have n0_ := Aside0.mk (hp_); have n1_ := Aside0.mk ((by rw [hw]; exact below_set (HB.out) GB38.out : Below w.heap.size w w40)); have n2_ := Aside0.mk (hm_); have n3_ := Aside0.mk ((Kd.R_reads' hm_).2.1); clear HO_5; clear HB; clear HL250_0; clear HL252_0; clear HL254_0; clear HL258_0; clear HL260_0; have HO_5 := n0_; have HB := n1_; have HL280 := n2_; have HC262 := n3_; clear n0_ n1_ n2_ n3_; clear hg hw hp_ hz_ hm_ hok39)))
                                                          (try simp only [← hl5_2])
                                                          go_roundg kj18
                                                          case measure => have := HK1.out; have := HK2.out; have := HJ18.out; omega
                                                          case rel => exact ⟨(y263), (wrap64 (x7_2 - 1)), (by first | rfl | (simp; done) | (simp [*]; done)), H', ⟨by have := HK1.out; have := HK2.out; have := HJ18.out; omega⟩, ⟨by (try simp only [hl5_2]); (with_reducible repeat (first | apply Kd.S_alloc | apply Kd.S_drewN | apply Kd.S_drew)); exact HO_5.out⟩, ⟨by repeat (first | (with_reducible first | exact HB.out | apply below_alloc | apply pw_below_drewN | apply below_drew1) | exact HB.out)⟩⟩
                                                        · rw [if_neg c37] at H
                                                          exact absurd H (by simp)
                                                      · rw [if_neg c36] at H
                                                        exact absurd H (by simp)
                                                    · rw [if_neg c35] at H
                                                      have c35b0 : ((rdOf ByteArray.empty l0 x6_1).toList == (rdOf ByteArray.empty l1 x7_2).toList) = false := beq_eq_false_iff_ne.mpr c35
                                                      have c35b1 : ((rdOf ByteArray.empty l0 x6_1).toList != (rdOf ByteArray.empty l1 x7_2).toList) = true := bne_iff_ne.mpr c35
                                                      by_cases c41 : x7_2 < ((rd_L3 x5_2 x6_1).length : Int)
                                                      · rw [if_pos c41] at H
                                                        have c41b0 : decide (x7_2 < ((rd_L3 x5_2 x6_1).length : Int)) = true := decide_eq_true c41
                                                        clear c41
                                                        obtain ⟨y265, hy265⟩ : ∃ y_ : List Int, y_ = ((rd_L3 x5_2 x6_1).set (x7_2 : Int).toNat (rd (rd_L3 x5_2 x6_1) (ji29))) := ⟨_, rfl⟩
                                                        replace H : (spec_l04Table.l1 kj18 l0 l1 (x5_2.set (x6_1 : Int).toNat y265) x6_1 (wrap64 (x7_2 - 1))) = some r := by first | (rw [hy265]; with_reducible exact H) | (have H2_ := (Option.bind_some _ _).symm.trans H; rw [hy265]; with_reducible exact H2_) | (have H2_ := (Option.bind_some _ _).symm.trans H; with_reducible exact H2_) | with_reducible exact H | (rw [hy265]; exact H) | exact H
                                                        have Ny265 := Aside0.mk hy265
                                                        clear hy265
                                                        obtain ⟨y267, hy267⟩ : ∃ y_ : List (List Int), y_ = (x5_2.set (x6_1 : Int).toNat y265) := ⟨_, rfl⟩
                                                        replace H : (spec_l04Table.l1 kj18 l0 l1 y267 x6_1 (wrap64 (x7_2 - 1))) = some r := by first | (rw [hy267]; with_reducible exact H) | (have H2_ := (Option.bind_some _ _).symm.trans H; rw [hy267]; with_reducible exact H2_) | (have H2_ := (Option.bind_some _ _).symm.trans H; with_reducible exact H2_) | with_reducible exact H | (rw [hy267]; exact H) | exact H
                                                        have Ny267 := Aside0.mk hy267
                                                        clear hy267
                                                        have H' := Aside0.mk H
                                                        clear H
                                                        have p250 : 0 ≤ ((ji22) : Int) := of_decide_eq_true (by first | (with_reducible assumption) | assumption)
                                                        have q250 : (ji22) < (x5_2.length : Int) := of_decide_eq_true (by first | (with_reducible assumption) | assumption)
                                                        obtain ⟨ad250, A250_0, c250_0, e250, hx250_0, hl250_0, hi250_0⟩ := at_L3 (Kd.S_reads' HO_5.out).2.2 (ji22) p250 q250
                                                        obtain rfl : (⟨go14, 0, none⟩ : Addr) = ad250 := (by injection e250)
                                                        obtain ⟨ce250, hce250, hMe250, hcc250⟩ := Kd.S_get HO_5.out [] (ji22) p250 (by first | exact q250 | exact of_decide_eq_true (by first | (with_reducible assumption) | assumption) | (have e_ := (Kd.S_reads' HO_5.out).1; omega))
                                                        obtain ⟨ve250_0, rfl, ge250_0⟩ := hMe250
                                                        have hv250_0 := hcc250 0 _ rfl
                                                        rw [Nat.add_zero, show ((Kd.slice 3 (Kd.int .i64))).sz = 1 from rfl, Nat.mul_one] at hv250_0
                                                        replace hv250_0 := Option.some.inj (hv250_0.symm.trans hx250_0)
                                                        rw [hv250_0] at ge250_0
                                                        have HL250_0 := Aside0.mk (show Kd.R (Kd.int .i64) 3 _ _ _ _ (rd_L3 x5_2 (ji22)) from ge250_0)
                                                        clear hv250_0 ge250_0
                                                        have HX250_0 := Aside0.mk hx250_0
                                                        clear hcc250 hce250
                                                        (first | simp only [add_plain] at hx250_0 | simp only [add_at] at hx250_0 | simp only [Addr.add, Nat.zero_add] at hx250_0 | skip)
                                                        have HR250_0 := Aside0.mk hi250_0
                                                        have HC250_0 := Aside0.mk hl250_0
                                                        clear hi250_0 hl250_0
                                                        replace p250 := eq_true p250
                                                        replace q250 := eq_true q250
                                                        have p251 : 0 ≤ (x7_2 : Int) := of_decide_eq_true (by first | (with_reducible assumption) | assumption)
                                                        have q251 : x7_2 < ((rd_L3 x5_2 (ji22)).length : Int) := of_decide_eq_true (by first | (with_reducible assumption) | assumption)
                                                        obtain ⟨ad251, e251, hx251_0⟩ := Kd.at_int (by repeat (first | (with_reducible exact HR250_0.out) | (with_reducible refine Kd.C_alloc ?_ _) | (with_reducible refine Kd.C_drewN ?_ _) | (with_reducible refine Kd.C_drew ?_) | exact HR250_0.out)) x7_2 p251 q251
                                                        cases e251
                                                        replace p251 := eq_true p251
                                                        replace q251 := eq_true q251
                                                        have p252 : 0 ≤ (x6_1 : Int) := of_decide_eq_true (by first | (with_reducible assumption) | assumption)
                                                        have q252 : x6_1 < (x5_2.length : Int) := of_decide_eq_true (by first | (with_reducible assumption) | assumption)
                                                        obtain ⟨ad252, A252_0, c252_0, e252, hx252_0, hl252_0, hi252_0⟩ := at_L3 (Kd.S_reads' HO_5.out).2.2 x6_1 p252 q252
                                                        obtain rfl : (⟨go14, 0, none⟩ : Addr) = ad252 := (by injection e252)
                                                        obtain ⟨ce252, hce252, hMe252, hcc252⟩ := Kd.S_get HO_5.out [] x6_1 p252 (by first | exact q252 | exact of_decide_eq_true (by first | (with_reducible assumption) | assumption) | (have e_ := (Kd.S_reads' HO_5.out).1; omega))
                                                        obtain ⟨ve252_0, rfl, ge252_0⟩ := hMe252
                                                        have hv252_0 := hcc252 0 _ rfl
                                                        rw [Nat.add_zero, show ((Kd.slice 3 (Kd.int .i64))).sz = 1 from rfl, Nat.mul_one] at hv252_0
                                                        replace hv252_0 := Option.some.inj (hv252_0.symm.trans hx252_0)
                                                        rw [hv252_0] at ge252_0
                                                        have HL252_0 := Aside0.mk (show Kd.R (Kd.int .i64) 3 _ _ _ _ (rd_L3 x5_2 x6_1) from ge252_0)
                                                        clear hv252_0 ge252_0
                                                        have HX252_0 := Aside0.mk hx252_0
                                                        clear hcc252 hce252
                                                        (first | simp only [add_plain] at hx252_0 | simp only [add_at] at hx252_0 | simp only [Addr.add, Nat.zero_add] at hx252_0 | skip)
                                                        have HR252_0 := Aside0.mk hi252_0
                                                        have HC252_0 := Aside0.mk hl252_0
                                                        clear hi252_0 hl252_0
                                                        replace p252 := eq_true p252
                                                        replace q252 := eq_true q252
                                                        have p253 : 0 ≤ ((ji29) : Int) := of_decide_eq_true (by first | (with_reducible assumption) | assumption)
                                                        have q253 : (ji29) < ((rd_L3 x5_2 x6_1).length : Int) := of_decide_eq_true (by first | (with_reducible assumption) | assumption)
                                                        obtain ⟨ad253, e253, hx253_0⟩ := Kd.at_int (by repeat (first | (with_reducible exact HR252_0.out) | (with_reducible refine Kd.C_alloc ?_ _) | (with_reducible refine Kd.C_drewN ?_ _) | (with_reducible refine Kd.C_drew ?_) | exact HR252_0.out)) (ji29) p253 q253
                                                        cases e253
                                                        replace p253 := eq_true p253
                                                        replace q253 := eq_true q253
                                                        have p254 : 0 ≤ (x6_1 : Int) := of_decide_eq_true (by first | (with_reducible assumption) | assumption)
                                                        have q254 : x6_1 < (x5_2.length : Int) := of_decide_eq_true (by first | (with_reducible assumption) | assumption)
                                                        obtain ⟨ad254, A254_0, c254_0, e254, hx254_0, hl254_0, hi254_0⟩ := at_L3 (Kd.S_reads' HO_5.out).2.2 x6_1 p254 q254
                                                        obtain rfl : (⟨go14, 0, none⟩ : Addr) = ad254 := (by injection e254)
                                                        obtain ⟨ce254, hce254, hMe254, hcc254⟩ := Kd.S_get HO_5.out [] x6_1 p254 (by first | exact q254 | exact of_decide_eq_true (by first | (with_reducible assumption) | assumption) | (have e_ := (Kd.S_reads' HO_5.out).1; omega))
                                                        obtain ⟨ve254_0, rfl, ge254_0⟩ := hMe254
                                                        have hv254_0 := hcc254 0 _ rfl
                                                        rw [Nat.add_zero, show ((Kd.slice 3 (Kd.int .i64))).sz = 1 from rfl, Nat.mul_one] at hv254_0
                                                        replace hv254_0 := Option.some.inj (hv254_0.symm.trans hx254_0)
                                                        rw [hv254_0] at ge254_0
                                                        have HL254_0 := Aside0.mk (show Kd.R (Kd.int .i64) 3 _ _ _ _ (rd_L3 x5_2 x6_1) from ge254_0)
                                                        clear hv254_0 ge254_0
                                                        have HX254_0 := Aside0.mk hx254_0
                                                        clear hcc254 hce254
                                                        (first | simp only [add_plain] at hx254_0 | simp only [add_at] at hx254_0 | simp only [Addr.add, Nat.zero_add] at hx254_0 | skip)
                                                        have HR254_0 := Aside0.mk hi254_0
                                                        have HC254_0 := Aside0.mk hl254_0
                                                        clear hi254_0 hl254_0
                                                        replace p254 := eq_true p254
                                                        replace q254 := eq_true q254
                                                        have ea_ := Option.some.inj (hx252_0.symm.trans hx254_0)
                                                        injection ea_ with ea_ en_ ec_
                                                        subst ea_
                                                        subst ec_
                                                        clear en_
                                                        have p255 : 0 ≤ ((ji29) : Int) := of_decide_eq_true (by first | (with_reducible assumption) | assumption)
                                                        have q255 : (ji29) < ((rd_L3 x5_2 x6_1).length : Int) := of_decide_eq_true (by first | (with_reducible assumption) | assumption)
                                                        obtain ⟨ad255, e255, hx255_0⟩ := Kd.at_int (by repeat (first | (with_reducible exact HR254_0.out) | (with_reducible refine Kd.C_alloc ?_ _) | (with_reducible refine Kd.C_drewN ?_ _) | (with_reducible refine Kd.C_drew ?_) | exact HR254_0.out)) (ji29) p255 q255
                                                        cases e255
                                                        replace p255 := eq_true p255
                                                        replace q255 := eq_true q255
                                                        have p256 : 0 ≤ (x6_1 : Int) := of_decide_eq_true (by first | (with_reducible assumption) | assumption)
                                                        have q256 : x6_1 < (l0.length : Int) := of_decide_eq_true (by first | (with_reducible assumption) | assumption)
                                                        obtain ⟨ad256, e256, hx256_0⟩ := Kd.at_string HR0.out x6_1 p256 q256
                                                        cases e256
                                                        replace hx256_0 := (HB.out.cell (World.block_lt_of_cell? w _ hx256_0)).trans hx256_0
                                                        replace p256 := eq_true p256
                                                        replace q256 := eq_true q256
                                                        have p257 : 0 ≤ (x7_2 : Int) := of_decide_eq_true (by first | (with_reducible assumption) | assumption)
                                                        have q257 : x7_2 < (l1.length : Int) := of_decide_eq_true (by first | (with_reducible assumption) | assumption)
                                                        obtain ⟨ad257, e257, hx257_0⟩ := Kd.at_string HR1.out x7_2 p257 q257
                                                        cases e257
                                                        replace hx257_0 := (HB.out.cell (World.block_lt_of_cell? w _ hx257_0)).trans hx257_0
                                                        replace p257 := eq_true p257
                                                        replace q257 := eq_true q257
                                                        have p264 : 0 ≤ (x6_1 : Int) := of_decide_eq_true (by first | (with_reducible assumption) | assumption)
                                                        have q264 : x6_1 < (x5_2.length : Int) := of_decide_eq_true (by first | (with_reducible assumption) | assumption)
                                                        obtain ⟨ad264, A264_0, c264_0, e264, hx264_0, hl264_0, hi264_0⟩ := at_L3 (Kd.S_reads' HO_5.out).2.2 x6_1 p264 q264
                                                        obtain rfl : (⟨go14, 0, none⟩ : Addr) = ad264 := (by injection e264)
                                                        obtain ⟨ce264, hce264, hMe264, hcc264⟩ := Kd.S_get HO_5.out [] x6_1 p264 (by first | exact q264 | exact of_decide_eq_true (by first | (with_reducible assumption) | assumption) | (have e_ := (Kd.S_reads' HO_5.out).1; omega))
                                                        obtain ⟨ve264_0, rfl, ge264_0⟩ := hMe264
                                                        have hv264_0 := hcc264 0 _ rfl
                                                        rw [Nat.add_zero, show ((Kd.slice 3 (Kd.int .i64))).sz = 1 from rfl, Nat.mul_one] at hv264_0
                                                        replace hv264_0 := Option.some.inj (hv264_0.symm.trans hx264_0)
                                                        rw [hv264_0] at ge264_0
                                                        have HL264_0 := Aside0.mk (show Kd.R (Kd.int .i64) 3 _ _ _ _ (rd_L3 x5_2 x6_1) from ge264_0)
                                                        clear hv264_0 ge264_0
                                                        have HX264_0 := Aside0.mk hx264_0
                                                        clear hcc264 hce264
                                                        (first | simp only [add_plain] at hx264_0 | simp only [add_at] at hx264_0 | simp only [Addr.add, Nat.zero_add] at hx264_0 | skip)
                                                        have HR264_0 := Aside0.mk hi264_0
                                                        have HC264_0 := Aside0.mk hl264_0
                                                        clear hi264_0 hl264_0
                                                        replace p264 := eq_true p264
                                                        replace q264 := eq_true q264
                                                        have ea_ := Option.some.inj (hx252_0.symm.trans hx264_0)
                                                        injection ea_ with ea_ en_ ec_
                                                        subst ea_
                                                        subst ec_
                                                        clear en_
                                                        have p42 : 0 ≤ (x7_2 : Int) := of_decide_eq_true (by first | (with_reducible assumption) | assumption)
                                                        have q42 : (x7_2 : Int) < (((rd_L3 x5_2 x6_1).length : Int) : Int) := of_decide_eq_true (by first | (with_reducible assumption) | assumption)
                                                        obtain ⟨go42, co42, eo42, gb42, gl42, cl42, HG42⟩ := Kd.R_form HL264_0.out (by omega)
                                                        (first | cases eo42 | (injection eo42 with ea_ en_ ec_; (first | subst ea_ | (injection ea_ with ea_; subst ea_)); subst ec_; clear en_))
                                                        have GB42 := Aside0.mk gb42
                                                        have GG42 := Aside0.mk HG42
                                                        clear gb42 gl42 HG42
                                                        (first | simp only [add_plain] at hx255_0 | skip)
                                                        obtain ⟨hx42_0, hf42_0⟩ := Kd.R_celln 0 HL264_0.out (x7_2 : Int) p42 q42
                                                        replace p42 := eq_true p42
                                                        replace q42 := eq_true q42
                                                        have hq43 : (x6_1 : Int) < (x5_2.length : Int) := (by have h_ : (x6_1 : Int) < ((x5_2.length : Int) : Int) := of_decide_eq_true (by first | (with_reducible assumption) | assumption); first | exact h_ | (have e_ := (Kd.S_reads' HO_5.out).1; omega) | simpa only [List.length_set, List.length_set] using h_)
                                                        obtain ⟨oki43, ce43, hcl43, hM43, hcc43, hok43, hbk43⟩ := Kd.S_borrow HO_5.out [] (x6_1 : Int) (of_decide_eq_true (by first | (with_reducible assumption) | assumption)) hq43
                                                        obtain ⟨ve43_0, rfl, ge43_0⟩ := hM43
                                                        have hv43 := hcc43 0 _ rfl
                                                        rw [Nat.add_zero, show ((Kd.slice 3 (Kd.int .i64))).sz = 1 from rfl, Nat.mul_one] at hv43
                                                        replace hv43 := Option.some.inj (hv43.symm.trans HX264_0.out)
                                                        subst hv43
                                                        clear hcc43 hcl43
                                                        replace ge43_0 := (show Kd.R (Kd.int .i64) 3 _ _ _ _ (rd_L3 x5_2 x6_1) from ge43_0)
                                                        have HP43 := Kd.R_putg ge43_0 (x7_2 : Int) (rd (rd_L3 x5_2 x6_1) (ji29))
                                                        go_wp2_with (first | ((with_reducible refine gate_store (t := 3) (p := 90) rfl ?_); (try (rw [drewN_self wc]; generalize hq_ : World.drewN wc _ = wc; (try (replace hx250_0 := cell_at hq_ hx250_0)); (try (replace hx251_0 := cell_at hq_ hx251_0)); (try (replace hx252_0 := cell_at hq_ hx252_0)); (try (replace hx253_0 := cell_at hq_ hx253_0)); (try (replace hx254_0 := cell_at hq_ hx254_0)); (try (replace hx255_0 := cell_at hq_ hx255_0)); (try (replace hx256_0 := cell_at hq_ hx256_0)); (try (replace hx257_0 := cell_at hq_ hx257_0)); (try (replace hx264_0 := cell_at hq_ hx264_0)); (try (replace hx42_0 := cell_at hq_ hx42_0)); (try (replace hf42_0 := frozen_at hq_ hf42_0)); (try (replace HX250_0 := Aside0.mk (cell_at hq_ HX250_0.out))); (try (replace HX252_0 := Aside0.mk (cell_at hq_ HX252_0.out))); (try (replace HX254_0 := Aside0.mk (cell_at hq_ HX254_0.out))); (try (replace HX260_0 := Aside0.mk (cell_at hq_ HX260_0.out))); (try (replace HX264_0 := Aside0.mk (cell_at hq_ HX264_0.out))); have n0_ := Aside0.mk (Kd.S_at hq_ HO_5.out); (try have n1_ := Aside0.mk (Kd.R_at hq_ HL281.out)); have n2_ := Aside0.mk (below_at hq_ HB.out); (try clear HL281); clear hq_ HO_5 HB; have HO_5 := n0_; (try have HL281 := n1_); have HB := n2_; (try clear n1_); clear n0_ n2_; (try (have hq43 : (x6_1 : Int) < (x5_2.length : Int) := (by have h_ : (x6_1 : Int) < ((x5_2.length : Int) : Int) := of_decide_eq_true (by first | (with_reducible assumption) | assumption); first | exact h_ | (have e_ := (Kd.S_reads' HO_5.out).1; omega) | simpa only [List.length_set, List.length_set] using h_))); (try (obtain ⟨oki43, ce43, hcl43, hM43, hcc43, hok43, hbk43⟩ := Kd.S_borrow HO_5.out [] (x6_1 : Int) (of_decide_eq_true (by first | (with_reducible assumption) | assumption)) hq43)); (try (obtain ⟨ve43_0, rfl, ge43_0⟩ := hM43)); (try (have hv43 := hcc43 0 _ rfl)); (try (rw [Nat.add_zero, show ((Kd.slice 3 (Kd.int .i64))).sz = 1 from rfl, Nat.mul_one] at hv43)); (try (replace hv43 := Option.some.inj (hv43.symm.trans HX264_0.out))); (try (subst hv43)); (try (clear hcc43 hcl43)); (try (replace ge43_0 := (show Kd.R (Kd.int .i64) 3 _ _ _ _ (rd_L3 x5_2 x6_1) from ge43_0))); (try (have HP43 := Kd.R_putg ge43_0 (x7_2 : Int) (rd (rd_L3 x5_2 x6_1) (ji29)))))); refine store_event (t := 3) (p := 90) (v := ?vo_w44) (w1 := (wc.setCell ⟨go42, (x7_2 : Int).toNat, none⟩ (.int .i64 (rd (rd_L3 x5_2 x6_1) (ji29))))) ?hg ?ho ?hn ?hr ?_; (case ho => rfl); (case hg => rfl); (case hn => rfl); (case hr => first | (go_simp; done) | (go_simp; rfl)); intro w44 hw; have hg : wc.grownBy w44 (some go42) := (by rw [hw]; exact HP43.2); have hz_ : Kd.R (Kd.int .i64) 3 w44 w.heap.size oki43 (.slice (some ⟨go42, 0, none⟩) (rd_L3 x5_2 x6_1).length c252_0) y265 := (by rw [hw, Ny265.out]; exact HP43.1); have hp_ : Kd.S (Kd.slice 3 (Kd.int .i64)) 35 w44 w.heap.size (fun _ => True) (.slice (some ⟨go14, 0, none⟩) x5_2.length co14) y267 := (by rw [Ny267.out]; exact hbk43 hg (fun k_ e_ => by injection e_ with e_; subst e_; exact ge43_0.1 _ rfl) (Kd.M_row hz_)); have hm_ := Kd.R_mono hz_ hok43; clear HP43 hbk43; have n0_ := Aside0.mk (hp_); have n1_ := Aside0.mk ((by rw [hw]; exact below_set (HB.out) GB42.out : Below w.heap.size w w44)); have n2_ := Aside0.mk (hm_); have n3_ := Aside0.mk ((Kd.R_reads' hm_).2.1); clear HO_5; clear HB; clear HL250_0; clear HL252_0; clear HL254_0; clear HL264_0; have HO_5 := n0_; have HB := n1_; have HL281 := n2_; have HC266 := n3_; clear n0_ n1_ n2_ n3_; clear hg hw hp_ hz_ hm_ hok43))
                                                        repeat (go_quiet (first | ((with_reducible refine gate_store (t := 3) (p := 90) rfl ?_); (try (rw [drewN_self wc]; generalize hq_ : World.drewN wc _ = wc; (try (replace hx250_0 := cell_at hq_ hx250_0)); (try (replace hx251_0 := cell_at hq_ hx251_0)); (try (replace hx252_0 := cell_at hq_ hx252_0)); (try (replace hx253_0 := cell_at hq_ hx253_0)); (try (replace hx254_0 := cell_at hq_ hx254_0)); (try (replace hx255_0 := cell_at hq_ hx255_0)); (try (replace hx256_0 := cell_at hq_ hx256_0)); (try (replace hx257_0 := cell_at hq_ hx257_0)); (try (replace hx264_0 := cell_at hq_ hx264_0)); (try (replace hx42_0 := cell_at hq_ hx42_0)); (try (replace hf42_0 := frozen_at hq_ hf42_0)); (try (replace HX250_0 := Aside0.mk (cell_at hq_ HX250_0.out))); (try (replace HX252_0 := Aside0.mk (cell_at hq_ HX252_0.out))); (try (replace HX254_0 := Aside0.mk (cell_at hq_ HX254_0.out))); (try (replace HX260_0 := Aside0.mk (cell_at hq_ HX260_0.out))); (try (replace HX264_0 := Aside0.mk (cell_at hq_ HX264_0.out))); have n0_ := Aside0.mk (Kd.S_at hq_ HO_5.out); (try have n1_ := Aside0.mk (Kd.R_at hq_ HL281.out)); have n2_ := Aside0.mk (below_at hq_ HB.out); (try clear HL281); clear hq_ HO_5 HB; have HO_5 := n0_; (try have HL281 := n1_); have HB := n2_; (try clear n1_); clear n0_ n2_; (try (have hq43 : (x6_1 : Int) < (x5_2.length : Int) := (by have h_ : (x6_1 : Int) < ((x5_2.length : Int) : Int) := of_decide_eq_true (by first | (with_reducible assumption) | assumption); first | exact h_ | (have e_ := (Kd.S_reads' HO_5.out).1; omega) | simpa only [List.length_set, List.length_set] using h_))); (try (obtain ⟨oki43, ce43, hcl43, hM43, hcc43, hok43, hbk43⟩ := Kd.S_borrow HO_5.out [] (x6_1 : Int) (of_decide_eq_true (by first | (with_reducible assumption) | assumption)) hq43)); (try (obtain ⟨ve43_0, rfl, ge43_0⟩ := hM43)); (try (have hv43 := hcc43 0 _ rfl)); (try (rw [Nat.add_zero, show ((Kd.slice 3 (Kd.int .i64))).sz = 1 from rfl, Nat.mul_one] at hv43)); (try (replace hv43 := Option.some.inj (hv43.symm.trans HX264_0.out))); (try (subst hv43)); (try (clear hcc43 hcl43)); (try (replace ge43_0 := (show Kd.R (Kd.int .i64) 3 _ _ _ _ (rd_L3 x5_2 x6_1) from ge43_0))); (try (have HP43 := Kd.R_putg ge43_0 (x7_2 : Int) (rd (rd_L3 x5_2 x6_1) (ji29)))))); refine store_event (t := 3) (p := 90) (v := ?vo_w44) (w1 := (wc.setCell ⟨go42, (x7_2 : Int).toNat, none⟩ (.int .i64 (rd (rd_L3 x5_2 x6_1) (ji29))))) ?hg ?ho ?hn ?hr ?_; (case ho => rfl); (case hg => rfl); (case hn => rfl); (case hr => first | (go_simp; done) | (go_simp; rfl)); intro w44 hw; have hg : wc.grownBy w44 (some go42) := (by rw [hw]; exact HP43.2); have hz_ : Kd.R (Kd.int .i64) 3 w44 w.heap.size oki43 (.slice (some ⟨go42, 0, none⟩) (rd_L3 x5_2 x6_1).length c252_0) y265 := (by rw [hw, Ny265.out]; exact HP43.1); have hp_ : Kd.S (Kd.slice 3 (Kd.int .i64)) 35 w44 w.heap.size (fun _ => True) (.slice (some ⟨go14, 0, none⟩) x5_2.length co14) y267 := (by rw [Ny267.out]; exact hbk43 hg (fun k_ e_ => by injection e_ with e_; subst e_; exact ge43_0.1 _ rfl) (Kd.M_row hz_)); have hm_ := Kd.R_mono hz_ hok43; clear HP43 hbk43; have n0_ := Aside0.mk (hp_); have n1_ := Aside0.mk ((by rw [hw]; exact below_set (HB.out) GB42.out : Below w.heap.size w w44)); have n2_ := Aside0.mk (hm_); have n3_ := Aside0.mk ((Kd.R_reads' hm_).2.1); clear HO_5; clear HB; clear HL250_0; clear HL252_0; clear HL254_0; clear HL264_0; have HO_5 := n0_; have HB := n1_; have HL281 := n2_; have HC266 := n3_; clear n0_ n1_ n2_ n3_; clear hg hw hp_ hz_ hm_ hok43)); try go_wp2_with (first | ((with_reducible refine gate_store (t := 3) (p := 90) rfl ?_); (try (rw [drewN_self wc]; generalize hq_ : World.drewN wc _ = wc; (try (replace hx250_0 := cell_at hq_ hx250_0)); (try (replace hx251_0 := cell_at hq_ hx251_0)); (try (replace hx252_0 := cell_at hq_ hx252_0)); (try (replace hx253_0 := cell_at hq_ hx253_0)); (try (replace hx254_0 := cell_at hq_ hx254_0)); (try (replace hx255_0 := cell_at hq_ hx255_0)); (try (replace hx256_0 := cell_at hq_ hx256_0)); (try (replace hx257_0 := cell_at hq_ hx257_0)); (try (replace hx264_0 := cell_at hq_ hx264_0)); (try (replace hx42_0 := cell_at hq_ hx42_0)); (try (replace hf42_0 := frozen_at hq_ hf42_0)); (try (replace HX250_0 := Aside0.mk (cell_at hq_ HX250_0.out))); (try (replace HX252_0 := Aside0.mk (cell_at hq_ HX252_0.out))); (try (replace HX254_0 := Aside0.mk (cell_at hq_ HX254_0.out))); (try (replace HX260_0 := Aside0.mk (cell_at hq_ HX260_0.out))); (try (replace HX264_0 := Aside0.mk (cell_at hq_ HX264_0.out))); have n0_ := Aside0.mk (Kd.S_at hq_ HO_5.out); (try have n1_ := Aside0.mk (Kd.R_at hq_ HL281.out)); have n2_ := Aside0.mk (below_at hq_ HB.out); (try clear HL281); clear hq_ HO_5 HB; have HO_5 := n0_; (try have HL281 := n1_); have HB := n2_; (try clear n1_); clear n0_ n2_; (try (have hq43 : (x6_1 : Int) < (x5_2.length : Int) := (by have h_ : (x6_1 : Int) < ((x5_2.length : Int) : Int) := of_decide_eq_true (by first | (with_reducible assumption) | assumption); first | exact h_ | (have e_ := (Kd.S_reads' HO_5.out).1; omega) | simpa only [List.length_set, List.length_set] using h_))); (try (obtain ⟨oki43, ce43, hcl43, hM43, hcc43, hok43, hbk43⟩ := Kd.S_borrow HO_5.out [] (x6_1 : Int) (of_decide_eq_true (by first | (with_reducible assumption) | assumption)) hq43)); (try (obtain ⟨ve43_0, rfl, ge43_0⟩ := hM43)); (try (have hv43 := hcc43 0 _ rfl)); (try (rw [Nat.add_zero, show ((Kd.slice 3 (Kd.int .i64))).sz = 1 from rfl, Nat.mul_one] at hv43)); (try (replace hv43 := Option.some.inj (hv43.symm.trans HX264_0.out))); (try (subst hv43)); (try (clear hcc43 hcl43)); (try (replace ge43_0 := (show Kd.R (Kd.int .i64) 3 _ _ _ _ (rd_L3 x5_2 x6_1) from ge43_0))); (try (have HP43 := Kd.R_putg ge43_0 (x7_2 : Int) (rd (rd_L3 x5_2 x6_1) (ji29)))))); refine store_event (t := 3) (p := 90) (v := ?vo_w44) (w1 := (wc.setCell ⟨go42, (x7_2 : Int).toNat, none⟩ (.int .i64 (rd (rd_L3 x5_2 x6_1) (ji29))))) ?hg ?ho ?hn ?hr ?_; (case ho => rfl); (case hg => rfl); (case hn => rfl); (case hr => first | (go_simp; done) | (go_simp; rfl)); intro w44 hw; have hg : wc.grownBy w44 (some go42) := (by rw [hw]; exact HP43.2); have hz_ : Kd.R (Kd.int .i64) 3 w44 w.heap.size oki43 (.slice (some ⟨go42, 0, none⟩) (rd_L3 x5_2 x6_1).length c252_0) y265 := (by rw [hw, Ny265.out]; exact HP43.1); have hp_ : Kd.S (Kd.slice 3 (Kd.int .i64)) 35 w44 w.heap.size (fun _ => True) (.slice (some ⟨go14, 0, none⟩) x5_2.length co14) y267 := (by rw [Ny267.out]; exact hbk43 hg (fun k_ e_ => by injection e_ with e_; subst e_; exact ge43_0.1 _ rfl) (Kd.M_row hz_)); have hm_ := Kd.R_mono hz_ hok43; clear HP43 hbk43; have n0_ := Aside0.mk (hp_); have n1_ := Aside0.mk ((by rw [hw]; exact below_set (HB.out) GB42.out : Below w.heap.size w w44)); have n2_ := Aside0.mk (hm_); have n3_ := Aside0.mk ((Kd.R_reads' hm_).2.1); clear HO_5; clear HB; clear HL250_0; clear HL252_0; clear HL254_0; clear HL264_0; have HO_5 := n0_; have HB := n1_; have HL281 := n2_; have HC266 := n3_; clear n0_ n1_ n2_ n3_; clear hg hw hp_ hz_ hm_ hok43)))
                                                        (try simp only [← hl5_2])
                                                        go_roundg kj18
                                                        case measure => have := HK1.out; have := HK2.out; have := HJ18.out; omega
                                                        case rel => exact ⟨(y267), (wrap64 (x7_2 - 1)), (by first | rfl | (simp; done) | (simp [*]; done)), H', ⟨by have := HK1.out; have := HK2.out; have := HJ18.out; omega⟩, ⟨by (try simp only [hl5_2]); (with_reducible repeat (first | apply Kd.S_alloc | apply Kd.S_drewN | apply Kd.S_drew)); exact HO_5.out⟩, ⟨by repeat (first | (with_reducible first | exact HB.out | apply below_alloc | apply pw_below_drewN | apply below_drew1) | exact HB.out)⟩⟩
                                                      · rw [if_neg c41] at H
                                                        exact absurd H (by simp)
                                                  · rw [if_neg c34] at H
                                                    exact absurd H (by simp)
                                                · rw [if_neg c33] at H
                                                  exact absurd H (by simp)
                                              · rw [if_neg c32] at H
                                                have c32b0 : decide ((rd (rd_L3 x5_2 (ji22)) x7_2) < (rd (rd_L3 x5_2 x6_1) (ji29))) = false := decide_eq_false c32
                                                clear c32
                                                by_cases c45 : x6_1 < (l0.length : Int)
                                                · rw [if_pos c45] at H
                                                  have c45b0 : decide (x6_1 < (l0.length : Int)) = true := decide_eq_true c45
                                                  clear c45
                                                  by_cases c46 : x7_2 < (l1.length : Int)
                                                  · rw [if_pos c46] at H
                                                    have c46b0 : decide (x7_2 < (l1.length : Int)) = true := decide_eq_true c46
                                                    clear c46
                                                    by_cases c47 : (rdOf ByteArray.empty l0 x6_1).toList = (rdOf ByteArray.empty l1 x7_2).toList
                                                    · rw [if_pos c47] at H
                                                      have c47b0 : ((rdOf ByteArray.empty l0 x6_1).toList == (rdOf ByteArray.empty l1 x7_2).toList) = true := beq_iff_eq.mpr c47
                                                      have c47b1 : ((rdOf ByteArray.empty l0 x6_1).toList != (rdOf ByteArray.empty l1 x7_2).toList) = false := bne_eq_false_iff_eq.mpr c47
                                                      clear c47
                                                      by_cases c48 : (ji29) < ((rd_L3 x5_2 (ji22)).length : Int)
                                                      · rw [if_pos c48] at H
                                                        have c48b0 : decide ((ji29) < ((rd_L3 x5_2 (ji22)).length : Int)) = true := decide_eq_true c48
                                                        clear c48
                                                        by_cases c49 : x7_2 < ((rd_L3 x5_2 x6_1).length : Int)
                                                        · rw [if_pos c49] at H
                                                          have c49b0 : decide (x7_2 < ((rd_L3 x5_2 x6_1).length : Int)) = true := decide_eq_true c49
                                                          clear c49
                                                          obtain ⟨y273, hy273⟩ : ∃ y_ : List Int, y_ = ((rd_L3 x5_2 x6_1).set (x7_2 : Int).toNat (wrap64 ((rd (rd_L3 x5_2 (ji22)) (ji29)) + 1))) := ⟨_, rfl⟩
                                                          replace H : (spec_l04Table.l1 kj18 l0 l1 (x5_2.set (x6_1 : Int).toNat y273) x6_1 (wrap64 (x7_2 - 1))) = some r := by first | (rw [hy273]; with_reducible exact H) | (have H2_ := (Option.bind_some _ _).symm.trans H; rw [hy273]; with_reducible exact H2_) | (have H2_ := (Option.bind_some _ _).symm.trans H; with_reducible exact H2_) | with_reducible exact H | (rw [hy273]; exact H) | exact H
                                                          have Ny273 := Aside0.mk hy273
                                                          clear hy273
                                                          obtain ⟨y275, hy275⟩ : ∃ y_ : List (List Int), y_ = (x5_2.set (x6_1 : Int).toNat y273) := ⟨_, rfl⟩
                                                          replace H : (spec_l04Table.l1 kj18 l0 l1 y275 x6_1 (wrap64 (x7_2 - 1))) = some r := by first | (rw [hy275]; with_reducible exact H) | (have H2_ := (Option.bind_some _ _).symm.trans H; rw [hy275]; with_reducible exact H2_) | (have H2_ := (Option.bind_some _ _).symm.trans H; with_reducible exact H2_) | with_reducible exact H | (rw [hy275]; exact H) | exact H
                                                          have Ny275 := Aside0.mk hy275
                                                          clear hy275
                                                          have H' := Aside0.mk H
                                                          clear H
                                                          have p250 : 0 ≤ ((ji22) : Int) := of_decide_eq_true (by first | (with_reducible assumption) | assumption)
                                                          have q250 : (ji22) < (x5_2.length : Int) := of_decide_eq_true (by first | (with_reducible assumption) | assumption)
                                                          obtain ⟨ad250, A250_0, c250_0, e250, hx250_0, hl250_0, hi250_0⟩ := at_L3 (Kd.S_reads' HO_5.out).2.2 (ji22) p250 q250
                                                          obtain rfl : (⟨go14, 0, none⟩ : Addr) = ad250 := (by injection e250)
                                                          obtain ⟨ce250, hce250, hMe250, hcc250⟩ := Kd.S_get HO_5.out [] (ji22) p250 (by first | exact q250 | exact of_decide_eq_true (by first | (with_reducible assumption) | assumption) | (have e_ := (Kd.S_reads' HO_5.out).1; omega))
                                                          obtain ⟨ve250_0, rfl, ge250_0⟩ := hMe250
                                                          have hv250_0 := hcc250 0 _ rfl
                                                          rw [Nat.add_zero, show ((Kd.slice 3 (Kd.int .i64))).sz = 1 from rfl, Nat.mul_one] at hv250_0
                                                          replace hv250_0 := Option.some.inj (hv250_0.symm.trans hx250_0)
                                                          rw [hv250_0] at ge250_0
                                                          have HL250_0 := Aside0.mk (show Kd.R (Kd.int .i64) 3 _ _ _ _ (rd_L3 x5_2 (ji22)) from ge250_0)
                                                          clear hv250_0 ge250_0
                                                          have HX250_0 := Aside0.mk hx250_0
                                                          clear hcc250 hce250
                                                          (first | simp only [add_plain] at hx250_0 | simp only [add_at] at hx250_0 | simp only [Addr.add, Nat.zero_add] at hx250_0 | skip)
                                                          have HR250_0 := Aside0.mk hi250_0
                                                          have HC250_0 := Aside0.mk hl250_0
                                                          clear hi250_0 hl250_0
                                                          replace p250 := eq_true p250
                                                          replace q250 := eq_true q250
                                                          have p251 : 0 ≤ (x7_2 : Int) := of_decide_eq_true (by first | (with_reducible assumption) | assumption)
                                                          have q251 : x7_2 < ((rd_L3 x5_2 (ji22)).length : Int) := of_decide_eq_true (by first | (with_reducible assumption) | assumption)
                                                          obtain ⟨ad251, e251, hx251_0⟩ := Kd.at_int (by repeat (first | (with_reducible exact HR250_0.out) | (with_reducible refine Kd.C_alloc ?_ _) | (with_reducible refine Kd.C_drewN ?_ _) | (with_reducible refine Kd.C_drew ?_) | exact HR250_0.out)) x7_2 p251 q251
                                                          cases e251
                                                          replace p251 := eq_true p251
                                                          replace q251 := eq_true q251
                                                          have p252 : 0 ≤ (x6_1 : Int) := of_decide_eq_true (by first | (with_reducible assumption) | assumption)
                                                          have q252 : x6_1 < (x5_2.length : Int) := of_decide_eq_true (by first | (with_reducible assumption) | assumption)
                                                          obtain ⟨ad252, A252_0, c252_0, e252, hx252_0, hl252_0, hi252_0⟩ := at_L3 (Kd.S_reads' HO_5.out).2.2 x6_1 p252 q252
                                                          obtain rfl : (⟨go14, 0, none⟩ : Addr) = ad252 := (by injection e252)
                                                          obtain ⟨ce252, hce252, hMe252, hcc252⟩ := Kd.S_get HO_5.out [] x6_1 p252 (by first | exact q252 | exact of_decide_eq_true (by first | (with_reducible assumption) | assumption) | (have e_ := (Kd.S_reads' HO_5.out).1; omega))
                                                          obtain ⟨ve252_0, rfl, ge252_0⟩ := hMe252
                                                          have hv252_0 := hcc252 0 _ rfl
                                                          rw [Nat.add_zero, show ((Kd.slice 3 (Kd.int .i64))).sz = 1 from rfl, Nat.mul_one] at hv252_0
                                                          replace hv252_0 := Option.some.inj (hv252_0.symm.trans hx252_0)
                                                          rw [hv252_0] at ge252_0
                                                          have HL252_0 := Aside0.mk (show Kd.R (Kd.int .i64) 3 _ _ _ _ (rd_L3 x5_2 x6_1) from ge252_0)
                                                          clear hv252_0 ge252_0
                                                          have HX252_0 := Aside0.mk hx252_0
                                                          clear hcc252 hce252
                                                          (first | simp only [add_plain] at hx252_0 | simp only [add_at] at hx252_0 | simp only [Addr.add, Nat.zero_add] at hx252_0 | skip)
                                                          have HR252_0 := Aside0.mk hi252_0
                                                          have HC252_0 := Aside0.mk hl252_0
                                                          clear hi252_0 hl252_0
                                                          replace p252 := eq_true p252
                                                          replace q252 := eq_true q252
                                                          have p253 : 0 ≤ ((ji29) : Int) := of_decide_eq_true (by first | (with_reducible assumption) | assumption)
                                                          have q253 : (ji29) < ((rd_L3 x5_2 x6_1).length : Int) := of_decide_eq_true (by first | (with_reducible assumption) | assumption)
                                                          obtain ⟨ad253, e253, hx253_0⟩ := Kd.at_int (by repeat (first | (with_reducible exact HR252_0.out) | (with_reducible refine Kd.C_alloc ?_ _) | (with_reducible refine Kd.C_drewN ?_ _) | (with_reducible refine Kd.C_drew ?_) | exact HR252_0.out)) (ji29) p253 q253
                                                          cases e253
                                                          replace p253 := eq_true p253
                                                          replace q253 := eq_true q253
                                                          have p268 : 0 ≤ (x6_1 : Int) := of_decide_eq_true (by first | (with_reducible assumption) | assumption)
                                                          have q268 : x6_1 < (l0.length : Int) := of_decide_eq_true (by first | (with_reducible assumption) | assumption)
                                                          obtain ⟨ad268, e268, hx268_0⟩ := Kd.at_string HR0.out x6_1 p268 q268
                                                          cases e268
                                                          replace hx268_0 := (HB.out.cell (World.block_lt_of_cell? w _ hx268_0)).trans hx268_0
                                                          replace p268 := eq_true p268
                                                          replace q268 := eq_true q268
                                                          have p269 : 0 ≤ (x7_2 : Int) := of_decide_eq_true (by first | (with_reducible assumption) | assumption)
                                                          have q269 : x7_2 < (l1.length : Int) := of_decide_eq_true (by first | (with_reducible assumption) | assumption)
                                                          obtain ⟨ad269, e269, hx269_0⟩ := Kd.at_string HR1.out x7_2 p269 q269
                                                          cases e269
                                                          replace hx269_0 := (HB.out.cell (World.block_lt_of_cell? w _ hx269_0)).trans hx269_0
                                                          replace p269 := eq_true p269
                                                          replace q269 := eq_true q269
                                                          have p270 : 0 ≤ ((ji22) : Int) := of_decide_eq_true (by first | (with_reducible assumption) | assumption)
                                                          have q270 : (ji22) < (x5_2.length : Int) := of_decide_eq_true (by first | (with_reducible assumption) | assumption)
                                                          obtain ⟨ad270, A270_0, c270_0, e270, hx270_0, hl270_0, hi270_0⟩ := at_L3 (Kd.S_reads' HO_5.out).2.2 (ji22) p270 q270
                                                          obtain rfl : (⟨go14, 0, none⟩ : Addr) = ad270 := (by injection e270)
                                                          obtain ⟨ce270, hce270, hMe270, hcc270⟩ := Kd.S_get HO_5.out [] (ji22) p270 (by first | exact q270 | exact of_decide_eq_true (by first | (with_reducible assumption) | assumption) | (have e_ := (Kd.S_reads' HO_5.out).1; omega))
                                                          obtain ⟨ve270_0, rfl, ge270_0⟩ := hMe270
                                                          have hv270_0 := hcc270 0 _ rfl
                                                          rw [Nat.add_zero, show ((Kd.slice 3 (Kd.int .i64))).sz = 1 from rfl, Nat.mul_one] at hv270_0
                                                          replace hv270_0 := Option.some.inj (hv270_0.symm.trans hx270_0)
                                                          rw [hv270_0] at ge270_0
                                                          have HL270_0 := Aside0.mk (show Kd.R (Kd.int .i64) 3 _ _ _ _ (rd_L3 x5_2 (ji22)) from ge270_0)
                                                          clear hv270_0 ge270_0
                                                          have HX270_0 := Aside0.mk hx270_0
                                                          clear hcc270 hce270
                                                          (first | simp only [add_plain] at hx270_0 | simp only [add_at] at hx270_0 | simp only [Addr.add, Nat.zero_add] at hx270_0 | skip)
                                                          have HR270_0 := Aside0.mk hi270_0
                                                          have HC270_0 := Aside0.mk hl270_0
                                                          clear hi270_0 hl270_0
                                                          replace p270 := eq_true p270
                                                          replace q270 := eq_true q270
                                                          have ea_ := Option.some.inj (hx250_0.symm.trans hx270_0)
                                                          injection ea_ with ea_ en_ ec_
                                                          subst ea_
                                                          subst ec_
                                                          clear en_
                                                          have p271 : 0 ≤ ((ji29) : Int) := of_decide_eq_true (by first | (with_reducible assumption) | assumption)
                                                          have q271 : (ji29) < ((rd_L3 x5_2 (ji22)).length : Int) := of_decide_eq_true (by first | (with_reducible assumption) | assumption)
                                                          obtain ⟨ad271, e271, hx271_0⟩ := Kd.at_int (by repeat (first | (with_reducible exact HR270_0.out) | (with_reducible refine Kd.C_alloc ?_ _) | (with_reducible refine Kd.C_drewN ?_ _) | (with_reducible refine Kd.C_drew ?_) | exact HR270_0.out)) (ji29) p271 q271
                                                          cases e271
                                                          replace p271 := eq_true p271
                                                          replace q271 := eq_true q271
                                                          have p272 : 0 ≤ (x6_1 : Int) := of_decide_eq_true (by first | (with_reducible assumption) | assumption)
                                                          have q272 : x6_1 < (x5_2.length : Int) := of_decide_eq_true (by first | (with_reducible assumption) | assumption)
                                                          obtain ⟨ad272, A272_0, c272_0, e272, hx272_0, hl272_0, hi272_0⟩ := at_L3 (Kd.S_reads' HO_5.out).2.2 x6_1 p272 q272
                                                          obtain rfl : (⟨go14, 0, none⟩ : Addr) = ad272 := (by injection e272)
                                                          obtain ⟨ce272, hce272, hMe272, hcc272⟩ := Kd.S_get HO_5.out [] x6_1 p272 (by first | exact q272 | exact of_decide_eq_true (by first | (with_reducible assumption) | assumption) | (have e_ := (Kd.S_reads' HO_5.out).1; omega))
                                                          obtain ⟨ve272_0, rfl, ge272_0⟩ := hMe272
                                                          have hv272_0 := hcc272 0 _ rfl
                                                          rw [Nat.add_zero, show ((Kd.slice 3 (Kd.int .i64))).sz = 1 from rfl, Nat.mul_one] at hv272_0
                                                          replace hv272_0 := Option.some.inj (hv272_0.symm.trans hx272_0)
                                                          rw [hv272_0] at ge272_0
                                                          have HL272_0 := Aside0.mk (show Kd.R (Kd.int .i64) 3 _ _ _ _ (rd_L3 x5_2 x6_1) from ge272_0)
                                                          clear hv272_0 ge272_0
                                                          have HX272_0 := Aside0.mk hx272_0
                                                          clear hcc272 hce272
                                                          (first | simp only [add_plain] at hx272_0 | simp only [add_at] at hx272_0 | simp only [Addr.add, Nat.zero_add] at hx272_0 | skip)
                                                          have HR272_0 := Aside0.mk hi272_0
                                                          have HC272_0 := Aside0.mk hl272_0
                                                          clear hi272_0 hl272_0
                                                          replace p272 := eq_true p272
                                                          replace q272 := eq_true q272
                                                          have ea_ := Option.some.inj (hx252_0.symm.trans hx272_0)
                                                          injection ea_ with ea_ en_ ec_
                                                          subst ea_
                                                          subst ec_
                                                          clear en_
                                                          have p50 : 0 ≤ (x7_2 : Int) := of_decide_eq_true (by first | (with_reducible assumption) | assumption)
                                                          have q50 : (x7_2 : Int) < (((rd_L3 x5_2 x6_1).length : Int) : Int) := of_decide_eq_true (by first | (with_reducible assumption) | assumption)
                                                          obtain ⟨go50, co50, eo50, gb50, gl50, cl50, HG50⟩ := Kd.R_form HL272_0.out (by omega)
                                                          (first | cases eo50 | (injection eo50 with ea_ en_ ec_; (first | subst ea_ | (injection ea_ with ea_; subst ea_)); subst ec_; clear en_))
                                                          have GB50 := Aside0.mk gb50
                                                          have GG50 := Aside0.mk HG50
                                                          clear gb50 gl50 HG50
                                                          (first | simp only [add_plain] at hx253_0 | skip)
                                                          obtain ⟨hx50_0, hf50_0⟩ := Kd.R_celln 0 HL272_0.out (x7_2 : Int) p50 q50
                                                          replace p50 := eq_true p50
                                                          replace q50 := eq_true q50
                                                          have hq51 : (x6_1 : Int) < (x5_2.length : Int) := (by have h_ : (x6_1 : Int) < ((x5_2.length : Int) : Int) := of_decide_eq_true (by first | (with_reducible assumption) | assumption); first | exact h_ | (have e_ := (Kd.S_reads' HO_5.out).1; omega) | simpa only [List.length_set, List.length_set] using h_)
                                                          obtain ⟨oki51, ce51, hcl51, hM51, hcc51, hok51, hbk51⟩ := Kd.S_borrow HO_5.out [] (x6_1 : Int) (of_decide_eq_true (by first | (with_reducible assumption) | assumption)) hq51
                                                          obtain ⟨ve51_0, rfl, ge51_0⟩ := hM51
                                                          have hv51 := hcc51 0 _ rfl
                                                          rw [Nat.add_zero, show ((Kd.slice 3 (Kd.int .i64))).sz = 1 from rfl, Nat.mul_one] at hv51
                                                          replace hv51 := Option.some.inj (hv51.symm.trans HX272_0.out)
                                                          subst hv51
                                                          clear hcc51 hcl51
                                                          replace ge51_0 := (show Kd.R (Kd.int .i64) 3 _ _ _ _ (rd_L3 x5_2 x6_1) from ge51_0)
                                                          have HP51 := Kd.R_putg ge51_0 (x7_2 : Int) (wrap64 ((rd (rd_L3 x5_2 (ji22)) (ji29)) + 1))
                                                          go_wp2_with (first | ((with_reducible refine gate_store (t := 3) (p := 90) rfl ?_); (try (rw [drewN_self wc]; generalize hq_ : World.drewN wc _ = wc; (try (replace hx250_0 := cell_at hq_ hx250_0)); (try (replace hx251_0 := cell_at hq_ hx251_0)); (try (replace hx252_0 := cell_at hq_ hx252_0)); (try (replace hx253_0 := cell_at hq_ hx253_0)); (try (replace hx268_0 := cell_at hq_ hx268_0)); (try (replace hx269_0 := cell_at hq_ hx269_0)); (try (replace hx270_0 := cell_at hq_ hx270_0)); (try (replace hx271_0 := cell_at hq_ hx271_0)); (try (replace hx272_0 := cell_at hq_ hx272_0)); (try (replace hx50_0 := cell_at hq_ hx50_0)); (try (replace hf50_0 := frozen_at hq_ hf50_0)); (try (replace HX250_0 := Aside0.mk (cell_at hq_ HX250_0.out))); (try (replace HX252_0 := Aside0.mk (cell_at hq_ HX252_0.out))); (try (replace HX264_0 := Aside0.mk (cell_at hq_ HX264_0.out))); (try (replace HX270_0 := Aside0.mk (cell_at hq_ HX270_0.out))); (try (replace HX272_0 := Aside0.mk (cell_at hq_ HX272_0.out))); have n0_ := Aside0.mk (Kd.S_at hq_ HO_5.out); (try have n1_ := Aside0.mk (Kd.R_at hq_ HL282.out)); have n2_ := Aside0.mk (below_at hq_ HB.out); (try clear HL282); clear hq_ HO_5 HB; have HO_5 := n0_; (try have HL282 := n1_); have HB := n2_; (try clear n1_); clear n0_ n2_; (try (have hq51 : (x6_1 : Int) < (x5_2.length : Int) := (by have h_ : (x6_1 : Int) < ((x5_2.length : Int) : Int) := of_decide_eq_true (by first | (with_reducible assumption) | assumption); first | exact h_ | (have e_ := (Kd.S_reads' HO_5.out).1; omega) | simpa only [List.length_set, List.length_set] using h_))); (try (obtain ⟨oki51, ce51, hcl51, hM51, hcc51, hok51, hbk51⟩ := Kd.S_borrow HO_5.out [] (x6_1 : Int) (of_decide_eq_true (by first | (with_reducible assumption) | assumption)) hq51)); (try (obtain ⟨ve51_0, rfl, ge51_0⟩ := hM51)); (try (have hv51 := hcc51 0 _ rfl)); (try (rw [Nat.add_zero, show ((Kd.slice 3 (Kd.int .i64))).sz = 1 from rfl, Nat.mul_one] at hv51)); (try (replace hv51 := Option.some.inj (hv51.symm.trans HX272_0.out))); (try (subst hv51)); (try (clear hcc51 hcl51)); (try (replace ge51_0 := (show Kd.R (Kd.int .i64) 3 _ _ _ _ (rd_L3 x5_2 x6_1) from ge51_0))); (try (have HP51 := Kd.R_putg ge51_0 (x7_2 : Int) (wrap64 ((rd (rd_L3 x5_2 (ji22)) (ji29)) + 1)))))); refine store_event (t := 3) (p := 90) (v := ?vo_w52) (w1 := (wc.setCell ⟨go50, (x7_2 : Int).toNat, none⟩ (.int .i64 (wrap64 ((rd (rd_L3 x5_2 (ji22)) (ji29)) + 1))))) ?hg ?ho ?hn ?hr ?_; (case ho => rfl); (case hg => rfl); (case hn => rfl); (case hr => first | (go_simp; done) | (go_simp; rfl)); intro w52 hw; have hg : wc.grownBy w52 (some go50) := (by rw [hw]; exact HP51.2); have hz_ : Kd.R (Kd.int .i64) 3 w52 w.heap.size oki51 (.slice (some ⟨go50, 0, none⟩) (rd_L3 x5_2 x6_1).length c252_0) y273 := (by rw [hw, Ny273.out]; exact HP51.1); have hp_ : Kd.S (Kd.slice 3 (Kd.int .i64)) 35 w52 w.heap.size (fun _ => True) (.slice (some ⟨go14, 0, none⟩) x5_2.length co14) y275 := (by rw [Ny275.out]; exact hbk51 hg (fun k_ e_ => by injection e_ with e_; subst e_; exact ge51_0.1 _ rfl) (Kd.M_row hz_)); have hm_ := Kd.R_mono hz_ hok51; clear HP51 hbk51; have n0_ := Aside0.mk (hp_); have n1_ := Aside0.mk ((by rw [hw]; exact below_set (HB.out) GB50.out : Below w.heap.size w w52)); have n2_ := Aside0.mk (hm_); have n3_ := Aside0.mk ((Kd.R_reads' hm_).2.1); clear HO_5; clear HB; clear HL250_0; clear HL252_0; clear HL270_0; clear HL272_0; have HO_5 := n0_; have HB := n1_; have HL282 := n2_; have HC274 := n3_; clear n0_ n1_ n2_ n3_; clear hg hw hp_ hz_ hm_ hok51))
                                                          repeat (go_quiet (first | ((with_reducible refine gate_store (t := 3) (p := 90) rfl ?_); (try (rw [drewN_self wc]; generalize hq_ : World.drewN wc _ = wc; (try (replace hx250_0 := cell_at hq_ hx250_0)); (try (replace hx251_0 := cell_at hq_ hx251_0)); (try (replace hx252_0 := cell_at hq_ hx252_0)); (try (replace hx253_0 := cell_at hq_ hx253_0)); (try (replace hx268_0 := cell_at hq_ hx268_0)); (try (replace hx269_0 := cell_at hq_ hx269_0)); (try (replace hx270_0 := cell_at hq_ hx270_0)); (try (replace hx271_0 := cell_at hq_ hx271_0)); (try (replace hx272_0 := cell_at hq_ hx272_0)); (try (replace hx50_0 := cell_at hq_ hx50_0)); (try (replace hf50_0 := frozen_at hq_ hf50_0)); (try (replace HX250_0 := Aside0.mk (cell_at hq_ HX250_0.out))); (try (replace HX252_0 := Aside0.mk (cell_at hq_ HX252_0.out))); (try (replace HX264_0 := Aside0.mk (cell_at hq_ HX264_0.out))); (try (replace HX270_0 := Aside0.mk (cell_at hq_ HX270_0.out))); (try (replace HX272_0 := Aside0.mk (cell_at hq_ HX272_0.out))); have n0_ := Aside0.mk (Kd.S_at hq_ HO_5.out); (try have n1_ := Aside0.mk (Kd.R_at hq_ HL282.out)); have n2_ := Aside0.mk (below_at hq_ HB.out); (try clear HL282); clear hq_ HO_5 HB; have HO_5 := n0_; (try have HL282 := n1_); have HB := n2_; (try clear n1_); clear n0_ n2_; (try (have hq51 : (x6_1 : Int) < (x5_2.length : Int) := (by have h_ : (x6_1 : Int) < ((x5_2.length : Int) : Int) := of_decide_eq_true (by first | (with_reducible assumption) | assumption); first | exact h_ | (have e_ := (Kd.S_reads' HO_5.out).1; omega) | simpa only [List.length_set, List.length_set] using h_))); (try (obtain ⟨oki51, ce51, hcl51, hM51, hcc51, hok51, hbk51⟩ := Kd.S_borrow HO_5.out [] (x6_1 : Int) (of_decide_eq_true (by first | (with_reducible assumption) | assumption)) hq51)); (try (obtain ⟨ve51_0, rfl, ge51_0⟩ := hM51)); (try (have hv51 := hcc51 0 _ rfl)); (try (rw [Nat.add_zero, show ((Kd.slice 3 (Kd.int .i64))).sz = 1 from rfl, Nat.mul_one] at hv51)); (try (replace hv51 := Option.some.inj (hv51.symm.trans HX272_0.out))); (try (subst hv51)); (try (clear hcc51 hcl51)); (try (replace ge51_0 := (show Kd.R (Kd.int .i64) 3 _ _ _ _ (rd_L3 x5_2 x6_1) from ge51_0))); (try (have HP51 := Kd.R_putg ge51_0 (x7_2 : Int) (wrap64 ((rd (rd_L3 x5_2 (ji22)) (ji29)) + 1)))))); refine store_event (t := 3) (p := 90) (v := ?vo_w52) (w1 := (wc.setCell ⟨go50, (x7_2 : Int).toNat, none⟩ (.int .i64 (wrap64 ((rd (rd_L3 x5_2 (ji22)) (ji29)) + 1))))) ?hg ?ho ?hn ?hr ?_; (case ho => rfl); (case hg => rfl); (case hn => rfl); (case hr => first | (go_simp; done) | (go_simp; rfl)); intro w52 hw; have hg : wc.grownBy w52 (some go50) := (by rw [hw]; exact HP51.2); have hz_ : Kd.R (Kd.int .i64) 3 w52 w.heap.size oki51 (.slice (some ⟨go50, 0, none⟩) (rd_L3 x5_2 x6_1).length c252_0) y273 := (by rw [hw, Ny273.out]; exact HP51.1); have hp_ : Kd.S (Kd.slice 3 (Kd.int .i64)) 35 w52 w.heap.size (fun _ => True) (.slice (some ⟨go14, 0, none⟩) x5_2.length co14) y275 := (by rw [Ny275.out]; exact hbk51 hg (fun k_ e_ => by injection e_ with e_; subst e_; exact ge51_0.1 _ rfl) (Kd.M_row hz_)); have hm_ := Kd.R_mono hz_ hok51; clear HP51 hbk51; have n0_ := Aside0.mk (hp_); have n1_ := Aside0.mk ((by rw [hw]; exact below_set (HB.out) GB50.out : Below w.heap.size w w52)); have n2_ := Aside0.mk (hm_); have n3_ := Aside0.mk ((Kd.R_reads' hm_).2.1); clear HO_5; clear HB; clear HL250_0; clear HL252_0; clear HL270_0; clear HL272_0; have HO_5 := n0_; have HB := n1_; have HL282 := n2_; have HC274 := n3_; clear n0_ n1_ n2_ n3_; clear hg hw hp_ hz_ hm_ hok51)); try go_wp2_with (first | ((with_reducible refine gate_store (t := 3) (p := 90) rfl ?_); (try (rw [drewN_self wc]; generalize hq_ : World.drewN wc _ = wc; (try (replace hx250_0 := cell_at hq_ hx250_0)); (try (replace hx251_0 := cell_at hq_ hx251_0)); (try (replace hx252_0 := cell_at hq_ hx252_0)); (try (replace hx253_0 := cell_at hq_ hx253_0)); (try (replace hx268_0 := cell_at hq_ hx268_0)); (try (replace hx269_0 := cell_at hq_ hx269_0)); (try (replace hx270_0 := cell_at hq_ hx270_0)); (try (replace hx271_0 := cell_at hq_ hx271_0)); (try (replace hx272_0 := cell_at hq_ hx272_0)); (try (replace hx50_0 := cell_at hq_ hx50_0)); (try (replace hf50_0 := frozen_at hq_ hf50_0)); (try (replace HX250_0 := Aside0.mk (cell_at hq_ HX250_0.out))); (try (replace HX252_0 := Aside0.mk (cell_at hq_ HX252_0.out))); (try (replace HX270_0 := Aside0.mk (cell_at hq_ HX270_0.out))); (try (replace HX272_0 := Aside0.mk (cell_at hq_ HX272_0.out))); have n0_ := Aside0.mk (Kd.S_at hq_ HO_5.out); (try have n1_ := Aside0.mk (Kd.R_at hq_ HL282.out)); have n2_ := Aside0.mk (below_at hq_ HB.out); (try clear HL282); clear hq_ HO_5 HB; have HO_5 := n0_; (try have HL282 := n1_); have HB := n2_; (try clear n1_); clear n0_ n2_; (try (have hq51 : (x6_1 : Int) < (x5_2.length : Int) := (by have h_ : (x6_1 : Int) < ((x5_2.length : Int) : Int) := of_decide_eq_true (by first | (with_reducible assumption) | assumption); first | exact h_ | (have e_ := (Kd.S_reads' HO_5.out).1; omega) | simpa only [List.length_set, List.length_set] using h_))); (try (obtain ⟨oki51, ce51, hcl51, hM51, hcc51, hok51, hbk51⟩ := Kd.S_borrow HO_5.out [] (x6_1 : Int) (of_decide_eq_true (by first | (with_reducible assumption) | assumption)) hq51)); (try (obtain ⟨ve51_0, rfl, ge51_0⟩ := hM51)); (try (have hv51 := hcc51 0 _ rfl)); (try (rw [Nat.add_zero, show ((Kd.slice 3 (Kd.int .i64))).sz = 1 from rfl, Nat.mul_one] at hv51)); (try (replace hv51 := Option.some.inj (hv51.symm.trans HX272_0.out))); (try (subst hv51)); (try (clear hcc51 hcl51)); (try (replace ge51_0 := (show Kd.R (Kd.int .i64) 3 _ _ _ _ (rd_L3 x5_2 x6_1) from ge51_0))); (try (have HP51 := Kd.R_putg ge51_0 (x7_2 : Int) (wrap64 ((rd (rd_L3 x5_2 (ji22)) (ji29)) + 1)))))); refine store_event (t := 3) (p := 90) (v := ?vo_w52) (w1 := (wc.setCell ⟨go50, (x7_2 : Int).toNat, none⟩ (.int .i64 (wrap64 ((rd (rd_L3 x5_2 (ji22)) (ji29)) + 1))))) ?hg ?ho ?hn ?hr ?_; (case ho => rfl); (case hg => rfl); (case hn => rfl); (case hr => first | (go_simp; done) | (go_simp; rfl)); intro w52 hw; have hg : wc.grownBy w52 (some go50) := (by rw [hw]; exact HP51.2); have hz_ : Kd.R (Kd.int .i64) 3 w52 w.heap.size oki51 (.slice (some ⟨go50, 0, none⟩) (rd_L3 x5_2 x6_1).length c252_0) y273 := (by rw [hw, Ny273.out]; exact HP51.1); have hp_ : Kd.S (Kd.slice 3 (Kd.int .i64)) 35 w52 w.heap.size (fun _ => True) (.slice (some ⟨go14, 0, none⟩) x5_2.length co14) y275 := (by rw [Ny275.out]; exact hbk51 hg (fun k_ e_ => by injection e_ with e_; subst e_; exact ge51_0.1 _ rfl) (Kd.M_row hz_)); have hm_ := Kd.R_mono hz_ hok51; clear HP51 hbk51; have n0_ := Aside0.mk (hp_); have n1_ := Aside0.mk ((by rw [hw]; exact below_set (HB.out) GB50.out : Below w.heap.size w w52)); have n2_ := Aside0.mk (hm_); have n3_ := Aside0.mk ((Kd.R_reads' hm_).2.1); clear HO_5; clear HB; clear HL250_0; clear HL252_0; clear HL270_0; clear HL272_0; have HO_5 := n0_; have HB := n1_; have HL282 := n2_; have HC274 := n3_; clear n0_ n1_ n2_ n3_; clear hg hw hp_ hz_ hm_ hok51)))
                                                          (try simp only [← hl5_2])
                                                          go_roundg kj18
                                                          case measure => have := HK1.out; have := HK2.out; have := HJ18.out; omega
                                                          case rel => exact ⟨(y275), (wrap64 (x7_2 - 1)), (by first | rfl | (simp; done) | (simp [*]; done)), H', ⟨by have := HK1.out; have := HK2.out; have := HJ18.out; omega⟩, ⟨by (try simp only [hl5_2]); (with_reducible repeat (first | apply Kd.S_alloc | apply Kd.S_drewN | apply Kd.S_drew)); exact HO_5.out⟩, ⟨by repeat (first | (with_reducible first | exact HB.out | apply below_alloc | apply pw_below_drewN | apply below_drew1) | exact HB.out)⟩⟩
                                                        · rw [if_neg c49] at H
                                                          exact absurd H (by simp)
                                                      · rw [if_neg c48] at H
                                                        exact absurd H (by simp)
                                                    · rw [if_neg c47] at H
                                                      have c47b0 : ((rdOf ByteArray.empty l0 x6_1).toList == (rdOf ByteArray.empty l1 x7_2).toList) = false := beq_eq_false_iff_ne.mpr c47
                                                      have c47b1 : ((rdOf ByteArray.empty l0 x6_1).toList != (rdOf ByteArray.empty l1 x7_2).toList) = true := bne_iff_ne.mpr c47
                                                      by_cases c53 : x7_2 < ((rd_L3 x5_2 x6_1).length : Int)
                                                      · rw [if_pos c53] at H
                                                        have c53b0 : decide (x7_2 < ((rd_L3 x5_2 x6_1).length : Int)) = true := decide_eq_true c53
                                                        clear c53
                                                        obtain ⟨y277, hy277⟩ : ∃ y_ : List Int, y_ = ((rd_L3 x5_2 x6_1).set (x7_2 : Int).toNat (rd (rd_L3 x5_2 (ji22)) x7_2)) := ⟨_, rfl⟩
                                                        replace H : (spec_l04Table.l1 kj18 l0 l1 (x5_2.set (x6_1 : Int).toNat y277) x6_1 (wrap64 (x7_2 - 1))) = some r := by first | (rw [hy277]; with_reducible exact H) | (have H2_ := (Option.bind_some _ _).symm.trans H; rw [hy277]; with_reducible exact H2_) | (have H2_ := (Option.bind_some _ _).symm.trans H; with_reducible exact H2_) | with_reducible exact H | (rw [hy277]; exact H) | exact H
                                                        have Ny277 := Aside0.mk hy277
                                                        clear hy277
                                                        obtain ⟨y279, hy279⟩ : ∃ y_ : List (List Int), y_ = (x5_2.set (x6_1 : Int).toNat y277) := ⟨_, rfl⟩
                                                        replace H : (spec_l04Table.l1 kj18 l0 l1 y279 x6_1 (wrap64 (x7_2 - 1))) = some r := by first | (rw [hy279]; with_reducible exact H) | (have H2_ := (Option.bind_some _ _).symm.trans H; rw [hy279]; with_reducible exact H2_) | (have H2_ := (Option.bind_some _ _).symm.trans H; with_reducible exact H2_) | with_reducible exact H | (rw [hy279]; exact H) | exact H
                                                        have Ny279 := Aside0.mk hy279
                                                        clear hy279
                                                        have H' := Aside0.mk H
                                                        clear H
                                                        have p250 : 0 ≤ ((ji22) : Int) := of_decide_eq_true (by first | (with_reducible assumption) | assumption)
                                                        have q250 : (ji22) < (x5_2.length : Int) := of_decide_eq_true (by first | (with_reducible assumption) | assumption)
                                                        obtain ⟨ad250, A250_0, c250_0, e250, hx250_0, hl250_0, hi250_0⟩ := at_L3 (Kd.S_reads' HO_5.out).2.2 (ji22) p250 q250
                                                        obtain rfl : (⟨go14, 0, none⟩ : Addr) = ad250 := (by injection e250)
                                                        obtain ⟨ce250, hce250, hMe250, hcc250⟩ := Kd.S_get HO_5.out [] (ji22) p250 (by first | exact q250 | exact of_decide_eq_true (by first | (with_reducible assumption) | assumption) | (have e_ := (Kd.S_reads' HO_5.out).1; omega))
                                                        obtain ⟨ve250_0, rfl, ge250_0⟩ := hMe250
                                                        have hv250_0 := hcc250 0 _ rfl
                                                        rw [Nat.add_zero, show ((Kd.slice 3 (Kd.int .i64))).sz = 1 from rfl, Nat.mul_one] at hv250_0
                                                        replace hv250_0 := Option.some.inj (hv250_0.symm.trans hx250_0)
                                                        rw [hv250_0] at ge250_0
                                                        have HL250_0 := Aside0.mk (show Kd.R (Kd.int .i64) 3 _ _ _ _ (rd_L3 x5_2 (ji22)) from ge250_0)
                                                        clear hv250_0 ge250_0
                                                        have HX250_0 := Aside0.mk hx250_0
                                                        clear hcc250 hce250
                                                        (first | simp only [add_plain] at hx250_0 | simp only [add_at] at hx250_0 | simp only [Addr.add, Nat.zero_add] at hx250_0 | skip)
                                                        have HR250_0 := Aside0.mk hi250_0
                                                        have HC250_0 := Aside0.mk hl250_0
                                                        clear hi250_0 hl250_0
                                                        replace p250 := eq_true p250
                                                        replace q250 := eq_true q250
                                                        have p251 : 0 ≤ (x7_2 : Int) := of_decide_eq_true (by first | (with_reducible assumption) | assumption)
                                                        have q251 : x7_2 < ((rd_L3 x5_2 (ji22)).length : Int) := of_decide_eq_true (by first | (with_reducible assumption) | assumption)
                                                        obtain ⟨ad251, e251, hx251_0⟩ := Kd.at_int (by repeat (first | (with_reducible exact HR250_0.out) | (with_reducible refine Kd.C_alloc ?_ _) | (with_reducible refine Kd.C_drewN ?_ _) | (with_reducible refine Kd.C_drew ?_) | exact HR250_0.out)) x7_2 p251 q251
                                                        cases e251
                                                        replace p251 := eq_true p251
                                                        replace q251 := eq_true q251
                                                        have p252 : 0 ≤ (x6_1 : Int) := of_decide_eq_true (by first | (with_reducible assumption) | assumption)
                                                        have q252 : x6_1 < (x5_2.length : Int) := of_decide_eq_true (by first | (with_reducible assumption) | assumption)
                                                        obtain ⟨ad252, A252_0, c252_0, e252, hx252_0, hl252_0, hi252_0⟩ := at_L3 (Kd.S_reads' HO_5.out).2.2 x6_1 p252 q252
                                                        obtain rfl : (⟨go14, 0, none⟩ : Addr) = ad252 := (by injection e252)
                                                        obtain ⟨ce252, hce252, hMe252, hcc252⟩ := Kd.S_get HO_5.out [] x6_1 p252 (by first | exact q252 | exact of_decide_eq_true (by first | (with_reducible assumption) | assumption) | (have e_ := (Kd.S_reads' HO_5.out).1; omega))
                                                        obtain ⟨ve252_0, rfl, ge252_0⟩ := hMe252
                                                        have hv252_0 := hcc252 0 _ rfl
                                                        rw [Nat.add_zero, show ((Kd.slice 3 (Kd.int .i64))).sz = 1 from rfl, Nat.mul_one] at hv252_0
                                                        replace hv252_0 := Option.some.inj (hv252_0.symm.trans hx252_0)
                                                        rw [hv252_0] at ge252_0
                                                        have HL252_0 := Aside0.mk (show Kd.R (Kd.int .i64) 3 _ _ _ _ (rd_L3 x5_2 x6_1) from ge252_0)
                                                        clear hv252_0 ge252_0
                                                        have HX252_0 := Aside0.mk hx252_0
                                                        clear hcc252 hce252
                                                        (first | simp only [add_plain] at hx252_0 | simp only [add_at] at hx252_0 | simp only [Addr.add, Nat.zero_add] at hx252_0 | skip)
                                                        have HR252_0 := Aside0.mk hi252_0
                                                        have HC252_0 := Aside0.mk hl252_0
                                                        clear hi252_0 hl252_0
                                                        replace p252 := eq_true p252
                                                        replace q252 := eq_true q252
                                                        have p253 : 0 ≤ ((ji29) : Int) := of_decide_eq_true (by first | (with_reducible assumption) | assumption)
                                                        have q253 : (ji29) < ((rd_L3 x5_2 x6_1).length : Int) := of_decide_eq_true (by first | (with_reducible assumption) | assumption)
                                                        obtain ⟨ad253, e253, hx253_0⟩ := Kd.at_int (by repeat (first | (with_reducible exact HR252_0.out) | (with_reducible refine Kd.C_alloc ?_ _) | (with_reducible refine Kd.C_drewN ?_ _) | (with_reducible refine Kd.C_drew ?_) | exact HR252_0.out)) (ji29) p253 q253
                                                        cases e253
                                                        replace p253 := eq_true p253
                                                        replace q253 := eq_true q253
                                                        have p268 : 0 ≤ (x6_1 : Int) := of_decide_eq_true (by first | (with_reducible assumption) | assumption)
                                                        have q268 : x6_1 < (l0.length : Int) := of_decide_eq_true (by first | (with_reducible assumption) | assumption)
                                                        obtain ⟨ad268, e268, hx268_0⟩ := Kd.at_string HR0.out x6_1 p268 q268
                                                        cases e268
                                                        replace hx268_0 := (HB.out.cell (World.block_lt_of_cell? w _ hx268_0)).trans hx268_0
                                                        replace p268 := eq_true p268
                                                        replace q268 := eq_true q268
                                                        have p269 : 0 ≤ (x7_2 : Int) := of_decide_eq_true (by first | (with_reducible assumption) | assumption)
                                                        have q269 : x7_2 < (l1.length : Int) := of_decide_eq_true (by first | (with_reducible assumption) | assumption)
                                                        obtain ⟨ad269, e269, hx269_0⟩ := Kd.at_string HR1.out x7_2 p269 q269
                                                        cases e269
                                                        replace hx269_0 := (HB.out.cell (World.block_lt_of_cell? w _ hx269_0)).trans hx269_0
                                                        replace p269 := eq_true p269
                                                        replace q269 := eq_true q269
                                                        have p276 : 0 ≤ (x6_1 : Int) := of_decide_eq_true (by first | (with_reducible assumption) | assumption)
                                                        have q276 : x6_1 < (x5_2.length : Int) := of_decide_eq_true (by first | (with_reducible assumption) | assumption)
                                                        obtain ⟨ad276, A276_0, c276_0, e276, hx276_0, hl276_0, hi276_0⟩ := at_L3 (Kd.S_reads' HO_5.out).2.2 x6_1 p276 q276
                                                        obtain rfl : (⟨go14, 0, none⟩ : Addr) = ad276 := (by injection e276)
                                                        obtain ⟨ce276, hce276, hMe276, hcc276⟩ := Kd.S_get HO_5.out [] x6_1 p276 (by first | exact q276 | exact of_decide_eq_true (by first | (with_reducible assumption) | assumption) | (have e_ := (Kd.S_reads' HO_5.out).1; omega))
                                                        obtain ⟨ve276_0, rfl, ge276_0⟩ := hMe276
                                                        have hv276_0 := hcc276 0 _ rfl
                                                        rw [Nat.add_zero, show ((Kd.slice 3 (Kd.int .i64))).sz = 1 from rfl, Nat.mul_one] at hv276_0
                                                        replace hv276_0 := Option.some.inj (hv276_0.symm.trans hx276_0)
                                                        rw [hv276_0] at ge276_0
                                                        have HL276_0 := Aside0.mk (show Kd.R (Kd.int .i64) 3 _ _ _ _ (rd_L3 x5_2 x6_1) from ge276_0)
                                                        clear hv276_0 ge276_0
                                                        have HX276_0 := Aside0.mk hx276_0
                                                        clear hcc276 hce276
                                                        (first | simp only [add_plain] at hx276_0 | simp only [add_at] at hx276_0 | simp only [Addr.add, Nat.zero_add] at hx276_0 | skip)
                                                        have HR276_0 := Aside0.mk hi276_0
                                                        have HC276_0 := Aside0.mk hl276_0
                                                        clear hi276_0 hl276_0
                                                        replace p276 := eq_true p276
                                                        replace q276 := eq_true q276
                                                        have ea_ := Option.some.inj (hx252_0.symm.trans hx276_0)
                                                        injection ea_ with ea_ en_ ec_
                                                        subst ea_
                                                        subst ec_
                                                        clear en_
                                                        have p54 : 0 ≤ (x7_2 : Int) := of_decide_eq_true (by first | (with_reducible assumption) | assumption)
                                                        have q54 : (x7_2 : Int) < (((rd_L3 x5_2 x6_1).length : Int) : Int) := of_decide_eq_true (by first | (with_reducible assumption) | assumption)
                                                        obtain ⟨go54, co54, eo54, gb54, gl54, cl54, HG54⟩ := Kd.R_form HL276_0.out (by omega)
                                                        (first | cases eo54 | (injection eo54 with ea_ en_ ec_; (first | subst ea_ | (injection ea_ with ea_; subst ea_)); subst ec_; clear en_))
                                                        have GB54 := Aside0.mk gb54
                                                        have GG54 := Aside0.mk HG54
                                                        clear gb54 gl54 HG54
                                                        (first | simp only [add_plain] at hx253_0 | skip)
                                                        obtain ⟨hx54_0, hf54_0⟩ := Kd.R_celln 0 HL276_0.out (x7_2 : Int) p54 q54
                                                        replace p54 := eq_true p54
                                                        replace q54 := eq_true q54
                                                        have hq55 : (x6_1 : Int) < (x5_2.length : Int) := (by have h_ : (x6_1 : Int) < ((x5_2.length : Int) : Int) := of_decide_eq_true (by first | (with_reducible assumption) | assumption); first | exact h_ | (have e_ := (Kd.S_reads' HO_5.out).1; omega) | simpa only [List.length_set, List.length_set] using h_)
                                                        obtain ⟨oki55, ce55, hcl55, hM55, hcc55, hok55, hbk55⟩ := Kd.S_borrow HO_5.out [] (x6_1 : Int) (of_decide_eq_true (by first | (with_reducible assumption) | assumption)) hq55
                                                        obtain ⟨ve55_0, rfl, ge55_0⟩ := hM55
                                                        have hv55 := hcc55 0 _ rfl
                                                        rw [Nat.add_zero, show ((Kd.slice 3 (Kd.int .i64))).sz = 1 from rfl, Nat.mul_one] at hv55
                                                        replace hv55 := Option.some.inj (hv55.symm.trans HX276_0.out)
                                                        subst hv55
                                                        clear hcc55 hcl55
                                                        replace ge55_0 := (show Kd.R (Kd.int .i64) 3 _ _ _ _ (rd_L3 x5_2 x6_1) from ge55_0)
                                                        have HP55 := Kd.R_putg ge55_0 (x7_2 : Int) (rd (rd_L3 x5_2 (ji22)) x7_2)
                                                        go_wp2_with (first | ((with_reducible refine gate_store (t := 3) (p := 90) rfl ?_); (try (rw [drewN_self wc]; generalize hq_ : World.drewN wc _ = wc; (try (replace hx250_0 := cell_at hq_ hx250_0)); (try (replace hx251_0 := cell_at hq_ hx251_0)); (try (replace hx252_0 := cell_at hq_ hx252_0)); (try (replace hx253_0 := cell_at hq_ hx253_0)); (try (replace hx268_0 := cell_at hq_ hx268_0)); (try (replace hx269_0 := cell_at hq_ hx269_0)); (try (replace hx272_0 := cell_at hq_ hx272_0)); (try (replace hx276_0 := cell_at hq_ hx276_0)); (try (replace hx50_0 := cell_at hq_ hx50_0)); (try (replace hx54_0 := cell_at hq_ hx54_0)); (try (replace hf50_0 := frozen_at hq_ hf50_0)); (try (replace hf54_0 := frozen_at hq_ hf54_0)); (try (replace HX250_0 := Aside0.mk (cell_at hq_ HX250_0.out))); (try (replace HX252_0 := Aside0.mk (cell_at hq_ HX252_0.out))); (try (replace HX272_0 := Aside0.mk (cell_at hq_ HX272_0.out))); (try (replace HX276_0 := Aside0.mk (cell_at hq_ HX276_0.out))); have n0_ := Aside0.mk (Kd.S_at hq_ HO_5.out); (try have n1_ := Aside0.mk (Kd.R_at hq_ HL283.out)); have n2_ := Aside0.mk (below_at hq_ HB.out); (try clear HL283); clear hq_ HO_5 HB; have HO_5 := n0_; (try have HL283 := n1_); have HB := n2_; (try clear n1_); clear n0_ n2_; (try (have hq55 : (x6_1 : Int) < (x5_2.length : Int) := (by have h_ : (x6_1 : Int) < ((x5_2.length : Int) : Int) := of_decide_eq_true (by first | (with_reducible assumption) | assumption); first | exact h_ | (have e_ := (Kd.S_reads' HO_5.out).1; omega) | simpa only [List.length_set, List.length_set] using h_))); (try (obtain ⟨oki55, ce55, hcl55, hM55, hcc55, hok55, hbk55⟩ := Kd.S_borrow HO_5.out [] (x6_1 : Int) (of_decide_eq_true (by first | (with_reducible assumption) | assumption)) hq55)); (try (obtain ⟨ve55_0, rfl, ge55_0⟩ := hM55)); (try (have hv55 := hcc55 0 _ rfl)); (try (rw [Nat.add_zero, show ((Kd.slice 3 (Kd.int .i64))).sz = 1 from rfl, Nat.mul_one] at hv55)); (try (replace hv55 := Option.some.inj (hv55.symm.trans HX276_0.out))); (try (subst hv55)); (try (clear hcc55 hcl55)); (try (replace ge55_0 := (show Kd.R (Kd.int .i64) 3 _ _ _ _ (rd_L3 x5_2 x6_1) from ge55_0))); (try (have HP55 := Kd.R_putg ge55_0 (x7_2 : Int) (rd (rd_L3 x5_2 (ji22)) x7_2))))); refine store_event (t := 3) (p := 90) (v := ?vo_w56) (w1 := (wc.setCell ⟨go54, (x7_2 : Int).toNat, none⟩ (.int .i64 (rd (rd_L3 x5_2 (ji22)) x7_2)))) ?hg ?ho ?hn ?hr ?_; (case ho => rfl); (case hg => rfl); (case hn => rfl); (case hr => first | (go_simp; done) | (go_simp; rfl)); intro w56 hw; have hg : wc.grownBy w56 (some go54) := (by rw [hw]; exact HP55.2); have hz_ : Kd.R (Kd.int .i64) 3 w56 w.heap.size oki55 (.slice (some ⟨go54, 0, none⟩) (rd_L3 x5_2 x6_1).length c252_0) y277 := (by rw [hw, Ny277.out]; exact HP55.1); have hp_ : Kd.S (Kd.slice 3 (Kd.int .i64)) 35 w56 w.heap.size (fun _ => True) (.slice (some ⟨go14, 0, none⟩) x5_2.length co14) y279 := (by rw [Ny279.out]; exact hbk55 hg (fun k_ e_ => by injection e_ with e_; subst e_; exact ge55_0.1 _ rfl) (Kd.M_row hz_)); have hm_ := Kd.R_mono hz_ hok55; clear HP55 hbk55; have n0_ := Aside0.mk (hp_); have n1_ := Aside0.mk ((by rw [hw]; exact below_set (HB.out) GB54.out : Below w.heap.size w w56)); have n2_ := Aside0.mk (hm_); have n3_ := Aside0.mk ((Kd.R_reads' hm_).2.1); clear HO_5; clear HB; clear HL250_0; clear HL252_0; clear HL276_0; have HO_5 := n0_; have HB := n1_; have HL283 := n2_; have HC278 := n3_; clear n0_ n1_ n2_ n3_; clear hg hw hp_ hz_ hm_ hok55))
                                                        repeat (go_quiet (first | ((with_reducible refine gate_store (t := 3) (p := 90) rfl ?_); (try (rw [drewN_self wc]; generalize hq_ : World.drewN wc _ = wc; (try (replace hx250_0 := cell_at hq_ hx250_0)); (try (replace hx251_0 := cell_at hq_ hx251_0)); (try (replace hx252_0 := cell_at hq_ hx252_0)); (try (replace hx253_0 := cell_at hq_ hx253_0)); (try (replace hx268_0 := cell_at hq_ hx268_0)); (try (replace hx269_0 := cell_at hq_ hx269_0)); (try (replace hx276_0 := cell_at hq_ hx276_0)); (try (replace hx54_0 := cell_at hq_ hx54_0)); (try (replace hf54_0 := frozen_at hq_ hf54_0)); (try (replace HX250_0 := Aside0.mk (cell_at hq_ HX250_0.out))); (try (replace HX252_0 := Aside0.mk (cell_at hq_ HX252_0.out))); (try (replace HX272_0 := Aside0.mk (cell_at hq_ HX272_0.out))); (try (replace HX276_0 := Aside0.mk (cell_at hq_ HX276_0.out))); have n0_ := Aside0.mk (Kd.S_at hq_ HO_5.out); (try have n1_ := Aside0.mk (Kd.R_at hq_ HL283.out)); have n2_ := Aside0.mk (below_at hq_ HB.out); (try clear HL283); clear hq_ HO_5 HB; have HO_5 := n0_; (try have HL283 := n1_); have HB := n2_; (try clear n1_); clear n0_ n2_; (try (have hq55 : (x6_1 : Int) < (x5_2.length : Int) := (by have h_ : (x6_1 : Int) < ((x5_2.length : Int) : Int) := of_decide_eq_true (by first | (with_reducible assumption) | assumption); first | exact h_ | (have e_ := (Kd.S_reads' HO_5.out).1; omega) | simpa only [List.length_set, List.length_set] using h_))); (try (obtain ⟨oki55, ce55, hcl55, hM55, hcc55, hok55, hbk55⟩ := Kd.S_borrow HO_5.out [] (x6_1 : Int) (of_decide_eq_true (by first | (with_reducible assumption) | assumption)) hq55)); (try (obtain ⟨ve55_0, rfl, ge55_0⟩ := hM55)); (try (have hv55 := hcc55 0 _ rfl)); (try (rw [Nat.add_zero, show ((Kd.slice 3 (Kd.int .i64))).sz = 1 from rfl, Nat.mul_one] at hv55)); (try (replace hv55 := Option.some.inj (hv55.symm.trans HX276_0.out))); (try (subst hv55)); (try (clear hcc55 hcl55)); (try (replace ge55_0 := (show Kd.R (Kd.int .i64) 3 _ _ _ _ (rd_L3 x5_2 x6_1) from ge55_0))); (try (have HP55 := Kd.R_putg ge55_0 (x7_2 : Int) (rd (rd_L3 x5_2 (ji22)) x7_2))))); refine store_event (t := 3) (p := 90) (v := ?vo_w56) (w1 := (wc.setCell ⟨go54, (x7_2 : Int).toNat, none⟩ (.int .i64 (rd (rd_L3 x5_2 (ji22)) x7_2)))) ?hg ?ho ?hn ?hr ?_; (case ho => rfl); (case hg => rfl); (case hn => rfl); (case hr => first | (go_simp; done) | (go_simp; rfl)); intro w56 hw; have hg : wc.grownBy w56 (some go54) := (by rw [hw]; exact HP55.2); have hz_ : Kd.R (Kd.int .i64) 3 w56 w.heap.size oki55 (.slice (some ⟨go54, 0, none⟩) (rd_L3 x5_2 x6_1).length c252_0) y277 := (by rw [hw, Ny277.out]; exact HP55.1); have hp_ : Kd.S (Kd.slice 3 (Kd.int .i64)) 35 w56 w.heap.size (fun _ => True) (.slice (some ⟨go14, 0, none⟩) x5_2.length co14) y279 := (by rw [Ny279.out]; exact hbk55 hg (fun k_ e_ => by injection e_ with e_; subst e_; exact ge55_0.1 _ rfl) (Kd.M_row hz_)); have hm_ := Kd.R_mono hz_ hok55; clear HP55 hbk55; have n0_ := Aside0.mk (hp_); have n1_ := Aside0.mk ((by rw [hw]; exact below_set (HB.out) GB54.out : Below w.heap.size w w56)); have n2_ := Aside0.mk (hm_); have n3_ := Aside0.mk ((Kd.R_reads' hm_).2.1); clear HO_5; clear HB; clear HL250_0; clear HL252_0; clear HL276_0; have HO_5 := n0_; have HB := n1_; have HL283 := n2_; have HC278 := n3_; clear n0_ n1_ n2_ n3_; clear hg hw hp_ hz_ hm_ hok55)); try go_wp2_with (first | ((with_reducible refine gate_store (t := 3) (p := 90) rfl ?_); (try (rw [drewN_self wc]; generalize hq_ : World.drewN wc _ = wc; (try (replace hx250_0 := cell_at hq_ hx250_0)); (try (replace hx251_0 := cell_at hq_ hx251_0)); (try (replace hx252_0 := cell_at hq_ hx252_0)); (try (replace hx253_0 := cell_at hq_ hx253_0)); (try (replace hx268_0 := cell_at hq_ hx268_0)); (try (replace hx269_0 := cell_at hq_ hx269_0)); (try (replace hx276_0 := cell_at hq_ hx276_0)); (try (replace hx54_0 := cell_at hq_ hx54_0)); (try (replace hf54_0 := frozen_at hq_ hf54_0)); (try (replace HX250_0 := Aside0.mk (cell_at hq_ HX250_0.out))); (try (replace HX252_0 := Aside0.mk (cell_at hq_ HX252_0.out))); (try (replace HX272_0 := Aside0.mk (cell_at hq_ HX272_0.out))); (try (replace HX276_0 := Aside0.mk (cell_at hq_ HX276_0.out))); have n0_ := Aside0.mk (Kd.S_at hq_ HO_5.out); (try have n1_ := Aside0.mk (Kd.R_at hq_ HL283.out)); have n2_ := Aside0.mk (below_at hq_ HB.out); (try clear HL283); clear hq_ HO_5 HB; have HO_5 := n0_; (try have HL283 := n1_); have HB := n2_; (try clear n1_); clear n0_ n2_; (try (have hq55 : (x6_1 : Int) < (x5_2.length : Int) := (by have h_ : (x6_1 : Int) < ((x5_2.length : Int) : Int) := of_decide_eq_true (by first | (with_reducible assumption) | assumption); first | exact h_ | (have e_ := (Kd.S_reads' HO_5.out).1; omega) | simpa only [List.length_set, List.length_set] using h_))); (try (obtain ⟨oki55, ce55, hcl55, hM55, hcc55, hok55, hbk55⟩ := Kd.S_borrow HO_5.out [] (x6_1 : Int) (of_decide_eq_true (by first | (with_reducible assumption) | assumption)) hq55)); (try (obtain ⟨ve55_0, rfl, ge55_0⟩ := hM55)); (try (have hv55 := hcc55 0 _ rfl)); (try (rw [Nat.add_zero, show ((Kd.slice 3 (Kd.int .i64))).sz = 1 from rfl, Nat.mul_one] at hv55)); (try (replace hv55 := Option.some.inj (hv55.symm.trans HX276_0.out))); (try (subst hv55)); (try (clear hcc55 hcl55)); (try (replace ge55_0 := (show Kd.R (Kd.int .i64) 3 _ _ _ _ (rd_L3 x5_2 x6_1) from ge55_0))); (try (have HP55 := Kd.R_putg ge55_0 (x7_2 : Int) (rd (rd_L3 x5_2 (ji22)) x7_2))))); refine store_event (t := 3) (p := 90) (v := ?vo_w56) (w1 := (wc.setCell ⟨go54, (x7_2 : Int).toNat, none⟩ (.int .i64 (rd (rd_L3 x5_2 (ji22)) x7_2)))) ?hg ?ho ?hn ?hr ?_; (case ho => rfl); (case hg => rfl); (case hn => rfl); (case hr => first | (go_simp; done) | (go_simp; rfl)); intro w56 hw; have hg : wc.grownBy w56 (some go54) := (by rw [hw]; exact HP55.2); have hz_ : Kd.R (Kd.int .i64) 3 w56 w.heap.size oki55 (.slice (some ⟨go54, 0, none⟩) (rd_L3 x5_2 x6_1).length c252_0) y277 := (by rw [hw, Ny277.out]; exact HP55.1); have hp_ : Kd.S (Kd.slice 3 (Kd.int .i64)) 35 w56 w.heap.size (fun _ => True) (.slice (some ⟨go14, 0, none⟩) x5_2.length co14) y279 := (by rw [Ny279.out]; exact hbk55 hg (fun k_ e_ => by injection e_ with e_; subst e_; exact ge55_0.1 _ rfl) (Kd.M_row hz_)); have hm_ := Kd.R_mono hz_ hok55; clear HP55 hbk55; have n0_ := Aside0.mk (hp_); have n1_ := Aside0.mk ((by rw [hw]; exact below_set (HB.out) GB54.out : Below w.heap.size w w56)); have n2_ := Aside0.mk (hm_); have n3_ := Aside0.mk ((Kd.R_reads' hm_).2.1); clear HO_5; clear HB; clear HL250_0; clear HL252_0; clear HL276_0; have HO_5 := n0_; have HB := n1_; have HL283 := n2_; have HC278 := n3_; clear n0_ n1_ n2_ n3_; clear hg hw hp_ hz_ hm_ hok55)))
                                                        (try simp only [← hl5_2])
                                                        go_roundg kj18
                                                        case measure => have := HK1.out; have := HK2.out; have := HJ18.out; omega
                                                        case rel => exact ⟨(y279), (wrap64 (x7_2 - 1)), (by first | rfl | (simp; done) | (simp [*]; done)), H', ⟨by have := HK1.out; have := HK2.out; have := HJ18.out; omega⟩, ⟨by (try simp only [hl5_2]); (with_reducible repeat (first | apply Kd.S_alloc | apply Kd.S_drewN | apply Kd.S_drew)); exact HO_5.out⟩, ⟨by repeat (first | (with_reducible first | exact HB.out | apply below_alloc | apply pw_below_drewN | apply below_drew1) | exact HB.out)⟩⟩
                                                      · rw [if_neg c53] at H
                                                        exact absurd H (by simp)
                                                  · rw [if_neg c46] at H
                                                    exact absurd H (by simp)
                                                · rw [if_neg c45] at H
                                                  exact absurd H (by simp)
                                            · rw [if_neg c31] at H
                                              exact absurd H (by simp)
                                          · rw [if_neg c30] at H
                                            exact absurd H (by simp)
                                        · rw [if_neg c28] at H
                                          exact absurd H (by simp)
                                      · rw [if_neg c27] at H
                                        exact absurd H (by simp)
                                    · rw [if_neg c26] at H
                                      exact absurd H (by simp)
                                  · rw [if_neg c25] at H
                                    exact absurd H (by simp)
                                · rw [if_neg c24] at H
                                  exact absurd H (by simp)
                              · rw [if_neg c23] at H
                                exact absurd H (by simp)
                            · replace c21 := Bool.eq_false_iff.mpr c21
                              subst c21
                              have H1 : (spec_l04Table.l0 kj18 l0 l1 x5_2 (wrap64 (x6_1 - 1))) = some r := by rw [if_neg (show ¬ (false = true) by decide)] at H; exact H
                              clear H
                              have H := H1
                              clear H1
                              have H' := Aside0.mk H
                              clear H
                              go_wp2
                              repeat (go_quiet (fail); try go_wp2)
                              (try simp only [← hl5_2])
                              go_roundg kj18
                              case measure => have := HK1.out; have := HK2.out; have := HJ18.out; omega
                              case rel => exact ⟨(x5_2), (wrap64 (x6_1 - 1)), (by first | rfl | (simp; done) | (simp [*]; done)), H', ⟨by have := HK1.out; have := HK2.out; have := HJ18.out; omega⟩, ⟨by (try simp only [hl5_2]); (with_reducible repeat (first | apply Kd.S_alloc | apply Kd.S_drewN | apply Kd.S_drew)); exact HO_5.out⟩, ⟨by repeat (first | (with_reducible first | exact HB.out | apply below_alloc | apply pw_below_drewN | apply below_drew1) | exact HB.out)⟩⟩
                  · rw [if_neg c13] at H
                    exact absurd H (by simp)
                · rw [if_neg c12] at H
                  exact absurd H (by simp)
              · rw [if_neg c11] at H
                exact absurd H (by simp)
            · rw [if_neg c10] at H
              exact absurd H (by simp)
          · rw [if_neg c8] at H
            have c8b0 : decide (0 ≤ x6_1) = false := decide_eq_false c8
            clear c8
            obtain rfl := Option.some.inj H
            go_wp2
            repeat (go_quiet (fail); try go_wp2)
            go_ret
            exact ⟨_, by first | rfl | (simp [errW_none, errW_some] <;> rfl) | (simp only [← hji3]; first | rfl | (simp [errW_none, errW_some] <;> rfl)) | (simp [*, errW_none, errW_some] <;> rfl), by (with_reducible repeat (first | apply Kd.S_alloc | apply Kd.S_drewN | apply Kd.S_drew)); exact HO_5.out, by repeat (first | (with_reducible first | exact HB.out | apply below_alloc | apply pw_below_drewN | apply below_drew1) | exact HB.out)⟩
    · rw [if_neg c5] at H
      exact absurd H (by simp)
  · rw [if_neg c4] at H
    exact absurd H (by simp)

end Go.Proofs.Ytnimljoagcokaaa.PFnAligned
