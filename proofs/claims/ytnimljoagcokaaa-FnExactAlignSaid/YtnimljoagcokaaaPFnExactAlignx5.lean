-- Made by a program (the kit's print with additions of this session: wip/tools/patch_print.py, ext.py).
import Derived.Test.YtnimljoagcokaaaPFnExactAlignx0
namespace Go.Proofs.Ytnimljoagcokaaa.PFnExactAlign
open Go.RowKit Go.Proofs.YtnimljoagcokaaaW.PrintWords Go.Proofs.YtnimljoagcokaaaW.PrintLast Go.Proofs.YtnimljoagcokaaaW.PrintMore
attribute [local go_sem] max2_int min2_int max_two min_two max_three min_three max_four min_four   -- for this text's walks alone
set_option linter.unusedVariables false
set_option linter.unusedSimpArgs false

/-! ### spec_l04Table: function 56 -/
mutual
def spec_l04Table.l0 : Nat → List ByteArray → List ByteArray → List (List Int) → Int → Option ((List (List Int)))
  | 0, _, _, _, _ => none
  | k + 1, x0, x1, x5, x6 => if x6 ≥ 0 then (if 0 ≤ (wrap64 ((x1.length : Int) + 1)) then (if (wrap64 ((x1.length : Int) + 1) : Int).toNat ≤ 35184372088832 then (if 0 ≤ x6 then (if x6 < (x5.length : Int) then (spec_l04Table.l1 k x0 x1 (x5.set (x6 : Int).toNat (List.replicate (wrap64 ((x1.length : Int) + 1) : Int).toNat 0)) x6 (wrap64 ((x1.length : Int) - 1))) else (none)) else (none)) else (none)) else (none)) else (some x5)
def spec_l04Table.l1 : Nat → List ByteArray → List ByteArray → List (List Int) → Int → Int → Option ((List (List Int)))
  | 0, _, _, _, _, _ => none
  | k + 1, x0, x1, x5, x6, x7 => if x7 ≥ 0 then (spec_l04Table.j2 k x0 x1 x5 x6 x7 (decide (x6 < (x0.length : Int)))) else (spec_l04Table.j2 k x0 x1 x5 x6 x7 false)
def spec_l04Table.j2 : Nat → List ByteArray → List ByteArray → List (List Int) → Int → Int → Bool → Option ((List (List Int)))
  | 0, _, _, _, _, _, _ => none
  | k + 1, x0, x1, x5, x6, x7, x36 => if x36 = true then (if 0 ≤ (wrap64 (x6 + 1)) then (if (wrap64 (x6 + 1)) < (x5.length : Int) then (if 0 ≤ x7 then (if x7 < ((rd_L2 x5 (wrap64 (x6 + 1))).length : Int) then (if 0 ≤ x6 then (if x6 < (x5.length : Int) then (if 0 ≤ (wrap64 (x7 + 1)) then (if (wrap64 (x7 + 1)) < ((rd_L2 x5 x6).length : Int) then (if (rd (rd_L2 x5 x6) (wrap64 (x7 + 1))) > (rd (rd_L2 x5 (wrap64 (x6 + 1))) x7) then (if x6 < (x0.length : Int) then (if x7 < (x1.length : Int) then (if (rdOf ByteArray.empty x0 x6).toList = (rdOf ByteArray.empty x1 x7).toList then (if (wrap64 (x7 + 1)) < ((rd_L2 x5 (wrap64 (x6 + 1))).length : Int) then (if x7 < ((rd_L2 x5 x6).length : Int) then (spec_l04Table.l1 k x0 x1 (x5.set (x6 : Int).toNat ((rd_L2 x5 x6).set (x7 : Int).toNat (wrap64 ((rd (rd_L2 x5 (wrap64 (x6 + 1))) (wrap64 (x7 + 1))) + 1)))) x6 (wrap64 (x7 - 1))) else (none)) else (none)) else (if x7 < ((rd_L2 x5 x6).length : Int) then (spec_l04Table.l1 k x0 x1 (x5.set (x6 : Int).toNat ((rd_L2 x5 x6).set (x7 : Int).toNat (rd (rd_L2 x5 x6) (wrap64 (x7 + 1))))) x6 (wrap64 (x7 - 1))) else (none))) else (none)) else (none)) else (if x6 < (x0.length : Int) then (if x7 < (x1.length : Int) then (if (rdOf ByteArray.empty x0 x6).toList = (rdOf ByteArray.empty x1 x7).toList then (if (wrap64 (x7 + 1)) < ((rd_L2 x5 (wrap64 (x6 + 1))).length : Int) then (if x7 < ((rd_L2 x5 x6).length : Int) then (spec_l04Table.l1 k x0 x1 (x5.set (x6 : Int).toNat ((rd_L2 x5 x6).set (x7 : Int).toNat (wrap64 ((rd (rd_L2 x5 (wrap64 (x6 + 1))) (wrap64 (x7 + 1))) + 1)))) x6 (wrap64 (x7 - 1))) else (none)) else (none)) else (if x7 < ((rd_L2 x5 x6).length : Int) then (spec_l04Table.l1 k x0 x1 (x5.set (x6 : Int).toNat ((rd_L2 x5 x6).set (x7 : Int).toNat (rd (rd_L2 x5 (wrap64 (x6 + 1))) x7))) x6 (wrap64 (x7 - 1))) else (none))) else (none)) else (none))) else (none)) else (none)) else (none)) else (none)) else (none)) else (none)) else (none)) else (none)) else (spec_l04Table.l0 k x0 x1 x5 (wrap64 (x6 - 1)))
end
def spec_l04Table.f (k : Nat) (l0 : List ByteArray) (l1 : List ByteArray) : Option ((List (List Int))) := if 0 ≤ (wrap64 ((l0.length : Int) + 1)) then (if (wrap64 ((l0.length : Int) + 1) : Int).toNat ≤ 11728124029610 then (spec_l04Table.l0 k l0 l1 (List.replicate (wrap64 ((l0.length : Int) + 1) : Int).toNat []) (l0.length : Int)) else (none)) else (none)
theorem spec_l04Table.mono_l : ∀ k, (∀ y0 y1 y2 y3, LeO (spec_l04Table.l0 k y0 y1 y2 y3) (spec_l04Table.l0 (k + 1) y0 y1 y2 y3)) ∧ (∀ y0 y1 y2 y3 y4, LeO (spec_l04Table.l1 k y0 y1 y2 y3 y4) (spec_l04Table.l1 (k + 1) y0 y1 y2 y3 y4)) ∧ (∀ y0 y1 y2 y3 y4 y5, LeO (spec_l04Table.j2 k y0 y1 y2 y3 y4 y5) (spec_l04Table.j2 (k + 1) y0 y1 y2 y3 y4 y5))
  | 0 => ⟨fun _ _ _ _ r h => by simp [spec_l04Table.l0] at h, fun _ _ _ _ _ r h => by simp [spec_l04Table.l1] at h, fun _ _ _ _ _ _ r h => by simp [spec_l04Table.j2] at h⟩
  | k + 1 => by
    obtain ⟨ih0, ih1, ih2⟩ := spec_l04Table.mono_l k
    refine ⟨?_, ?_, ?_⟩
    · intro y0 y1 y2 y3
      unfold spec_l04Table.l0
      repeat' first
      | (with_reducible exact ih0 _ _ _ _)
      | (with_reducible exact ih1 _ _ _ _ _)
      | (with_reducible exact ih2 _ _ _ _ _ _)
      | (with_reducible exact LeO.refl _)
      | (with_reducible exact LeO.none _)
      | (with_reducible refine LeO.ite ?_ ?_)
      | (with_reducible refine LeO.bind ?_ (fun _ => ?_))
      | exact ih0 _ _ _ _
      | exact ih1 _ _ _ _ _
      | exact ih2 _ _ _ _ _ _
      | exact LeO.none _
      | refine LeO.ite ?_ ?_
      | refine LeO.bind ?_ (fun _ => ?_)
    · intro y0 y1 y2 y3 y4
      unfold spec_l04Table.l1
      repeat' first
      | (with_reducible exact ih0 _ _ _ _)
      | (with_reducible exact ih1 _ _ _ _ _)
      | (with_reducible exact ih2 _ _ _ _ _ _)
      | (with_reducible exact LeO.refl _)
      | (with_reducible exact LeO.none _)
      | (with_reducible refine LeO.ite ?_ ?_)
      | (with_reducible refine LeO.bind ?_ (fun _ => ?_))
      | exact ih0 _ _ _ _
      | exact ih1 _ _ _ _ _
      | exact ih2 _ _ _ _ _ _
      | exact LeO.none _
      | refine LeO.ite ?_ ?_
      | refine LeO.bind ?_ (fun _ => ?_)
    · intro y0 y1 y2 y3 y4 y5
      unfold spec_l04Table.j2
      repeat' first
      | (with_reducible exact ih0 _ _ _ _)
      | (with_reducible exact ih1 _ _ _ _ _)
      | (with_reducible exact ih2 _ _ _ _ _ _)
      | (with_reducible exact LeO.refl _)
      | (with_reducible exact LeO.none _)
      | (with_reducible refine LeO.ite ?_ ?_)
      | (with_reducible refine LeO.bind ?_ (fun _ => ?_))
      | exact ih0 _ _ _ _
      | exact ih1 _ _ _ _ _
      | exact ih2 _ _ _ _ _ _
      | exact LeO.none _
      | refine LeO.ite ?_ ?_
      | refine LeO.bind ?_ (fun _ => ?_)
theorem spec_l04Table.mono : ∀ a0 a1 k, LeO (spec_l04Table.f k a0 a1) (spec_l04Table.f (k + 1) a0 a1) := by
  intro a0 a1 k
  obtain ⟨ih0, ih1, ih2⟩ := spec_l04Table.mono_l k
  unfold spec_l04Table.f
  repeat' first
      | (with_reducible exact ih0 _ _ _ _)
      | (with_reducible exact ih1 _ _ _ _ _)
      | (with_reducible exact ih2 _ _ _ _ _ _)
      | (with_reducible exact LeO.refl _)
      | (with_reducible exact LeO.none _)
      | (with_reducible refine LeO.ite ?_ ?_)
      | (with_reducible refine LeO.bind ?_ (fun _ => ?_))
      | exact ih0 _ _ _ _
      | exact ih1 _ _ _ _ _
      | exact ih2 _ _ _ _ _ _
      | exact LeO.none _
      | refine LeO.ite ?_ ?_
      | refine LeO.bind ?_ (fun _ => ?_)
set_option maxHeartbeats 8000000 in
set_option maxRecDepth 100000 in
theorem spec_l04Table.calls (k : Nat) (A0 : Option Addr) (c0 : Nat) (l0 : List ByteArray) (A1 : Option Addr) (c1 : Nat) (l1 : List ByteArray) (r : List (List Int)) (w : World) (hr0 : Kd.C Kd.string w A0 l0.length l0) (hc0 : l0.length ≤ c0) (hr1 : Kd.C Kd.string w A1 l1.length l1) (hc1 : l1.length ≤ c1) (h : spec_l04Table.f k l0 l1 = some r) :
    Calls Try.prog 56 #[.slice A0 l0.length c0, .slice A1 l1.length c1] w fun e w' => ∃ v0_ : Value, e = .returned (v0_) ∧ Kd.S (Kd.slice 3 (Kd.int .i64)) 35 w' w.heap.size (fun _ => True) v0_ r ∧ Below w.heap.size w w' := by
  have HR0 := Aside0.mk hr0
  have HC0 := Aside0.mk hc0
  clear hr0 hc0
  have HR1 := Aside0.mk hr1
  have HC1 := Aside0.mk hc1
  clear hr1 hc1
  have HB := Aside0.mk (Below.refl w.heap.size w)
  have H : (if 0 ≤ (wrap64 ((l0.length : Int) + 1)) then (if (wrap64 ((l0.length : Int) + 1) : Int).toNat ≤ 11728124029610 then (spec_l04Table.l0 k l0 l1 (List.replicate (wrap64 ((l0.length : Int) + 1) : Int).toNat []) (l0.length : Int)) else (none)) else (none)) = some r := h
  clear h
  obtain ⟨ji3, hji3⟩ : ∃ j_ : Int, (wrap64 ((l0.length : Int) + 1)) = j_ := ⟨_, rfl⟩
  replace H : (if 0 ≤ (ji3) then (if (ji3 : Int).toNat ≤ 11728124029610 then (spec_l04Table.l0 k l0 l1 (List.replicate (ji3 : Int).toNat []) (l0.length : Int)) else (none)) else (none)) = some r := by first | (rw [hji3] at H; exact H) | (simp only [hji3] at H ⊢; exact H)
  have hji3w : (IntKind.i64.wrap ((l0.length : Int) + 1)) = ji3 := (i64_w _).trans hji3
  by_cases c4 : 0 ≤ (ji3)
  · rw [if_pos c4] at H
    have c4b0 := eq_true c4
    have c4b1 : decide (0 ≤ (ji3)) = true := decide_eq_true c4
    clear c4
    by_cases c5 : (ji3 : Int).toNat ≤ 11728124029610
    · rw [if_pos c5] at H
      have c5b0 := eq_true c5
      have c5b1 : decide ((ji3 : Int).toNat ≤ 11728124029610) = true := decide_eq_true c5
      clear c5
      obtain ⟨y161, hy161⟩ : ∃ y_ : List (List Int), y_ = (List.replicate (ji3 : Int).toNat []) := ⟨_, rfl⟩
      replace H : (spec_l04Table.l0 k l0 l1 y161 (l0.length : Int)) = some r := by first | (rw [hy161]; with_reducible exact H) | (have H2_ := (Option.bind_some _ _).symm.trans H; rw [hy161]; with_reducible exact H2_) | (have H2_ := (Option.bind_some _ _).symm.trans H; with_reducible exact H2_) | with_reducible exact H | (rw [hy161]; exact H) | exact H
      have Ny161 := Aside0.mk hy161
      clear hy161
      have H' := Aside0.mk H
      clear H
      go_enter Try.func56, Try.ntmps56
      go_wp2_with (first | ((with_reducible refine gate_dst (N := 12) rfl ?_); (try (refine gate_guard (by rfl) ?_; dsimp only)); refine Kd.S_make (Kd.slice 3 (Kd.int .i64)) _ 35 rfl (N := 12) rfl 69 _ _ rfl ji3 rfl rfl Try.underlying69 (.slice none 0 0) 24 info35 rfl (by decide) (by omega) [] (ok := fun _ => True) (okp := fun _ => True) ⟨_, rfl, Kd.R_nil _ _ _ _ _⟩ (fun _ hk => hk) trivial (of_decide_eq_true (by first | (with_reducible assumption) | assumption)) (Nat.le_trans (Nat.mul_le_mul_right _ (of_decide_eq_true (by first | (with_reducible assumption) | assumption) : ji3.toNat ≤ 11728124029610)) (by omega)) (Below.refl _ _) (Nat.le_refl _) ?_; intro v162 w6 ho7 hb hg_ hnew_; clear hg_ hnew_; (first | rw [← Ny161.out] at ho7 | (simp only [Int.reduceToNat] at ho7; rw [← Ny161.out] at ho7)); have n0_ := Aside0.mk (Kd.S_lower ho7 (below_size (by repeat (first | (with_reducible first | exact HB.out | apply below_alloc | apply pw_below_drewN | apply below_drew1) | exact HB.out)))); have n1_ := Aside0.mk (below_step (by repeat (first | (with_reducible first | exact HB.out | apply below_alloc | apply pw_below_drewN | apply below_drew1) | exact HB.out)) hb); clear HB; have HO163 := n0_; have HB := n1_; clear n0_ n1_; clear hb ho7))
      repeat (go_quiet (first | ((with_reducible refine gate_dst (N := 12) rfl ?_); (try (refine gate_guard (by rfl) ?_; dsimp only)); refine Kd.S_make (Kd.slice 3 (Kd.int .i64)) _ 35 rfl (N := 12) rfl 69 _ _ rfl ji3 rfl rfl Try.underlying69 (.slice none 0 0) 24 info35 rfl (by decide) (by omega) [] (ok := fun _ => True) (okp := fun _ => True) ⟨_, rfl, Kd.R_nil _ _ _ _ _⟩ (fun _ hk => hk) trivial (of_decide_eq_true (by first | (with_reducible assumption) | assumption)) (Nat.le_trans (Nat.mul_le_mul_right _ (of_decide_eq_true (by first | (with_reducible assumption) | assumption) : ji3.toNat ≤ 11728124029610)) (by omega)) (Below.refl _ _) (Nat.le_refl _) ?_; intro v162 w6 ho7 hb hg_ hnew_; clear hg_ hnew_; (first | rw [← Ny161.out] at ho7 | (simp only [Int.reduceToNat] at ho7; rw [← Ny161.out] at ho7)); have n0_ := Aside0.mk (Kd.S_lower ho7 (below_size (by repeat (first | (with_reducible first | exact HB.out | apply below_alloc | apply pw_below_drewN | apply below_drew1) | exact HB.out)))); have n1_ := Aside0.mk (below_step (by repeat (first | (with_reducible first | exact HB.out | apply below_alloc | apply pw_below_drewN | apply below_drew1) | exact HB.out)) hb); clear HB; have HO163 := n0_; have HB := n1_; clear n0_ n1_; clear hb ho7)); try go_wp2_with (first | ((with_reducible refine gate_dst (N := 12) rfl ?_); (try (refine gate_guard (by rfl) ?_; dsimp only)); refine Kd.S_make (Kd.slice 3 (Kd.int .i64)) _ 35 rfl (N := 12) rfl 69 _ _ rfl ji3 rfl rfl Try.underlying69 (.slice none 0 0) 24 info35 rfl (by decide) (by omega) [] (ok := fun _ => True) (okp := fun _ => True) ⟨_, rfl, Kd.R_nil _ _ _ _ _⟩ (fun _ hk => hk) trivial (of_decide_eq_true (by first | (with_reducible assumption) | assumption)) (Nat.le_trans (Nat.mul_le_mul_right _ (of_decide_eq_true (by first | (with_reducible assumption) | assumption) : ji3.toNat ≤ 11728124029610)) (by omega)) (Below.refl _ _) (Nat.le_refl _) ?_; intro v162 w6 ho7 hb hg_ hnew_; clear hg_ hnew_; (first | rw [← Ny161.out] at ho7 | (simp only [Int.reduceToNat] at ho7; rw [← Ny161.out] at ho7)); have n0_ := Aside0.mk (Kd.S_lower ho7 (below_size (by repeat (first | (with_reducible first | exact HB.out | apply below_alloc | apply pw_below_drewN | apply below_drew1) | exact HB.out)))); have n1_ := Aside0.mk (below_step (by repeat (first | (with_reducible first | exact HB.out | apply below_alloc | apply pw_below_drewN | apply below_drew1) | exact HB.out)) hb); clear HB; have HO163 := n0_; have HB := n1_; clear n0_ n1_; clear hb ho7)))
      go_loopg [6] k (fun kq v6 w' => ∃ (x5_1 : List (List Int)) (x6_1 : Int), v6 = .int .i64 x6_1 ∧ Aside0 (spec_l04Table.l0 kq l0 l1 x5_1 x6_1 = some r) ∧ Aside0 (kq ≤ k) ∧ Aside0 (Kd.S (Kd.slice 3 (Kd.int .i64)) 35 w' w.heap.size (fun _ => True) v162 x5_1) ∧ Aside0 (Below w.heap.size w w'))
      case atStart => exact ⟨(y161), ((l0.length : Int)), (by first | rfl | (simp; done) | (simp [*]; done)), H', ⟨Nat.le_refl _⟩, ⟨by (with_reducible repeat (first | apply Kd.S_alloc | apply Kd.S_drewN | apply Kd.S_drew)); exact HO163.out⟩, ⟨by repeat (first | (with_reducible first | exact HB.out | apply below_alloc | apply pw_below_drewN | apply below_drew1) | exact HB.out)⟩⟩
      case round =>
        clear H'
        try clear c1
        try clear p2
        try clear c4
        try clear c4b0
        try clear c4b1
        try clear c5
        try clear c5b0
        try clear c5b1
        try clear p6
        obtain ⟨x5_1, x6_1, rfl, HA, HK1, HO_5, HB⟩ := hrel
        cases gk with
        | zero => exact absurd HA.out (by simp [spec_l04Table.l0])
        | succ k1 =>
          have H := HA.out
          clear HA
          simp only [spec_l04Table.l0] at H
          by_cases c8 : x6_1 ≥ 0
          · rw [if_pos c8] at H
            have c8b0 : decide (0 ≤ x6_1) = true := decide_eq_true c8
            clear c8
            obtain ⟨ji9, hji9⟩ : ∃ j_ : Int, (wrap64 ((l1.length : Int) + 1)) = j_ := ⟨_, rfl⟩
            replace H : (if 0 ≤ (ji9) then (if (ji9 : Int).toNat ≤ 35184372088832 then (if 0 ≤ x6_1 then (if x6_1 < (x5_1.length : Int) then (spec_l04Table.l1 k1 l0 l1 (x5_1.set (x6_1 : Int).toNat (List.replicate (ji9 : Int).toNat 0)) x6_1 (wrap64 ((l1.length : Int) - 1))) else (none)) else (none)) else (none)) else (none)) = some r := by first | (rw [hji9] at H; exact H) | (simp only [hji9] at H ⊢; exact H)
            have hji9w : (IntKind.i64.wrap ((l1.length : Int) + 1)) = ji9 := (i64_w _).trans hji9
            by_cases c10 : 0 ≤ (ji9)
            · rw [if_pos c10] at H
              have c10b0 := eq_true c10
              have c10b1 : decide (0 ≤ (ji9)) = true := decide_eq_true c10
              clear c10
              by_cases c11 : (ji9 : Int).toNat ≤ 35184372088832
              · rw [if_pos c11] at H
                have c11b0 := eq_true c11
                have c11b1 : decide ((ji9 : Int).toNat ≤ 35184372088832) = true := decide_eq_true c11
                clear c11
                obtain ⟨y164, hy164⟩ : ∃ y_ : List Int, y_ = (List.replicate (ji9 : Int).toNat 0) := ⟨_, rfl⟩
                replace H : (if 0 ≤ x6_1 then (if x6_1 < (x5_1.length : Int) then (spec_l04Table.l1 k1 l0 l1 (x5_1.set (x6_1 : Int).toNat y164) x6_1 (wrap64 ((l1.length : Int) - 1))) else (none)) else (none)) = some r := by first | (rw [hy164]; with_reducible exact H) | (have H2_ := (Option.bind_some _ _).symm.trans H; rw [hy164]; with_reducible exact H2_) | (have H2_ := (Option.bind_some _ _).symm.trans H; with_reducible exact H2_) | with_reducible exact H | (rw [hy164]; exact H) | exact H
                have Ny164 := Aside0.mk hy164
                clear hy164
                by_cases c12 : 0 ≤ x6_1
                · rw [if_pos c12] at H
                  have c12b0 : decide (0 ≤ x6_1) = true := decide_eq_true c12
                  clear c12
                  by_cases c13 : x6_1 < (x5_1.length : Int)
                  · rw [if_pos c13] at H
                    have c13b0 : decide (x6_1 < (x5_1.length : Int)) = true := decide_eq_true c13
                    clear c13
                    obtain ⟨y167, hy167⟩ : ∃ y_ : List (List Int), y_ = (x5_1.set (x6_1 : Int).toNat y164) := ⟨_, rfl⟩
                    replace H : (spec_l04Table.l1 k1 l0 l1 y167 x6_1 (wrap64 ((l1.length : Int) - 1))) = some r := by first | (rw [hy167]; with_reducible exact H) | (have H2_ := (Option.bind_some _ _).symm.trans H; rw [hy167]; with_reducible exact H2_) | (have H2_ := (Option.bind_some _ _).symm.trans H; with_reducible exact H2_) | with_reducible exact H | (rw [hy167]; exact H) | exact H
                    have Ny167 := Aside0.mk hy167
                    clear hy167
                    have H' := Aside0.mk H
                    clear H
                    go_wp2_with (first | ((with_reducible refine gate_dst (N := 24) rfl ?_); (try (refine gate_guard (by rfl) ?_; dsimp only)); refine Kd.R_make (Kd.int .i64) _ 3 rfl (N := 24) rfl 35 _ _ rfl ji9 rfl rfl Try.underlying35 (.int .i64 0) 8 info3 rfl (by decide) (by omega) 0 (ok := fun _ => True) (okp := fun _ => True) rfl (fun _ hk => hk) trivial (of_decide_eq_true (by first | (with_reducible assumption) | assumption)) (Nat.le_trans (Nat.mul_le_mul_right _ (of_decide_eq_true (by first | (with_reducible assumption) | assumption) : ji9.toNat ≤ 35184372088832)) (by omega)) (Below.refl _ _) (Nat.le_refl _) ?_; intro v165 w15 ho16 hb hg_ hnew_; clear hg_ hnew_; (first | rw [← Ny164.out] at ho16 | (simp only [Int.reduceToNat] at ho16; rw [← Ny164.out] at ho16)); have n0_ := Aside0.mk (Kd.S_elder' (by (with_reducible repeat (first | apply Kd.S_alloc | apply Kd.S_drewN | apply Kd.S_drew)); exact HO_5.out) (Kd.R_base ho16) hb); have n1_ := Aside0.mk (Kd.R_lower ho16 (below_size (by repeat (first | (with_reducible first | exact HB.out | apply below_alloc | apply pw_below_drewN | apply below_drew1) | exact HB.out)))); have n2_ := Aside0.mk (below_step (by repeat (first | (with_reducible first | exact HB.out | apply below_alloc | apply pw_below_drewN | apply below_drew1) | exact HB.out)) hb); clear HO_5; clear HB; have HO_5 := n0_; have HO166 := n1_; have HB := n2_; clear n0_ n1_ n2_; clear hb ho16; have p14 : 0 ≤ (x6_1 : Int) := of_decide_eq_true (by first | (with_reducible assumption) | assumption); have q14 : (x6_1 : Int) < ((x5_1.length : Int) : Int) := of_decide_eq_true (by first | (with_reducible assumption) | assumption); obtain ⟨go14, co14, eo14, gb14, gl14, cl14, HG14⟩ := Kd.S_form HO_5.out (by omega); (first | cases eo14 | (injection eo14 with ea_ en_ ec_; (first | subst ea_ | (injection ea_ with ea_; subst ea_)); subst ec_; clear en_)); have GB14 := Aside0.mk gb14; have GG14 := Aside0.mk HG14; clear gb14 gl14 HG14; obtain ⟨_, ce14, hcl14, hM14, hcc14, hfr14, _, _⟩ := Kd.S_elem HO_5.out [] (x6_1 : Int) p14 q14; obtain ⟨ve14_0, rfl, ge14_0⟩ := hM14; have hx14_0 := hcc14 0 _ rfl; have hf14_0 := hfr14 0; (try simp only [show ((Kd.slice 3 (Kd.int .i64))).sz = 1 from rfl, Nat.mul_one, Nat.add_zero] at hx14_0); (try simp only [show ((Kd.slice 3 (Kd.int .i64))).sz = 1 from rfl, Nat.mul_one, Nat.add_zero] at hf14_0); (try clear hcl14); (try clear hcc14); (try clear hfr14); (try clear hM14); replace p14 := eq_true p14; replace q14 := eq_true q14; have n_ := Aside0.mk (Kd.S_mono (ok' := (fun k_ => some k_ ≠ (v165 : Value).ownBlock)) HO_5.out (fun k_ hk => hk.2)); clear HO_5; have HO_5 := n_; clear n_; have HX17 := Aside0.mk (show Kd.S (Kd.slice 3 (Kd.int .i64)) 35 w15 w.heap.size (fun k_ => ((fun _ => True)) k_ ∧ ¬ ((fun k_ => some k_ = (v165 : Value).ownBlock)) k_) (.slice (some ⟨go14, 0, none⟩) x5_1.length co14) x5_1 from (by (with_reducible repeat (first | apply Kd.S_alloc | apply Kd.S_drewN | apply Kd.S_drew)); exact Kd.S_mono HO_5.out (fun k_ hk => ⟨trivial, fun e_ => hk e_⟩))); obtain ⟨oki17, ce17, hcl17, hM17, hcc17, hfr17, hoki17, hH17⟩ := Kd.S_elem HX17.out [] (x6_1 : Int) (of_decide_eq_true (by first | (with_reducible assumption) | assumption)) (by have h_ : (x6_1 : Int) < ((x5_1.length : Int) : Int) := of_decide_eq_true (by first | (with_reducible assumption) | assumption); first | exact h_ | (have e_ := (Kd.S_reads' HO_5.out).1; omega) | simpa using h_); obtain ⟨ve17_0, rfl, ge17_0⟩ := hM17; have HP17 := Kd.S_seg hH17 (of_decide_eq_true (by first | (with_reducible assumption) | assumption)) (by have h_ : (x6_1 : Int) < ((x5_1.length : Int) : Int) := of_decide_eq_true (by first | (with_reducible assumption) | assumption); first | exact h_ | (have e_ := (Kd.S_reads' HO_5.out).1; omega) | simpa using h_) (seg := [v165]) (j := 0) (show 1 ≤ 1 from by decide) (x' := y164) (Kd.M_row (Kd.R_mono (Kd.R_tight rfl (Kd.R_mono (ok' := fun k_ => ((fun _ => True)) k_ ∧ k_ ≠ go14) (Kd.R_apart' (HO166.out) (Kd.S_typed HO_5.out) (by decide)) (fun k_ hk => ⟨trivial, fun e_ => (hk.2) (by rw [e_]; rfl)⟩))) (fun _ h_ => Or.inr (h_)))) (fun _ hk => hk) (fun k_ hk_ => ((Kd.R_mono (ok' := fun k_ => ((fun _ => True)) k_ ∧ k_ ≠ go14) (Kd.R_apart' (HO166.out) (Kd.S_typed HO_5.out) (by decide)) (fun k_ hk => ⟨trivial, fun e_ => (hk.2) (by rw [e_]; rfl)⟩))).1 k_ hk_.symm); have hx17_0 := hcc17 0 _ rfl; (try simp only [show ((Kd.slice 3 (Kd.int .i64))).sz = 1 from rfl, Nat.mul_one, Nat.add_zero] at hx17_0); have hf17_0 := hfr17 0; (try simp only [show ((Kd.slice 3 (Kd.int .i64))).sz = 1 from rfl, Nat.mul_one, Nat.add_zero] at hf17_0); (try clear hcl17); (try clear hcc17); (try clear hfr17); (try clear hM17); (try clear hoki17); (try clear hH17); (try simp only [show ((Kd.slice 3 (Kd.int .i64))).sz = 1 from rfl, Nat.mul_one, Nat.add_zero] at HP17)) | ((with_reducible refine gate_store (t := 35) (p := 25) rfl ?_); (try (rw [drewN_self w15]; generalize hq_ : World.drewN w15 _ = w15; (try (replace hx14_0 := cell_at hq_ hx14_0)); (try (replace hx17_0 := cell_at hq_ hx17_0)); (try (replace hf14_0 := frozen_at hq_ hf14_0)); (try (replace hf17_0 := frozen_at hq_ hf17_0)); have n0_ := Aside0.mk (Kd.S_at hq_ HO_5.out); have n1_ := Aside0.mk (below_at hq_ HB.out); clear hq_ HO_5 HB; have HO_5 := n0_; have HB := n1_; clear n0_ n1_; (try (have n_ := Aside0.mk (Kd.S_mono (ok' := (fun k_ => some k_ ≠ (v165 : Value).ownBlock)) HO_5.out (fun k_ hk => hk.2)); clear HO_5; have HO_5 := n_; clear n_)); (try (have HX17 := Aside0.mk (show Kd.S (Kd.slice 3 (Kd.int .i64)) 35 w15 w.heap.size (fun k_ => ((fun _ => True)) k_ ∧ ¬ ((fun k_ => some k_ = (v165 : Value).ownBlock)) k_) (.slice (some ⟨go14, 0, none⟩) x5_1.length co14) x5_1 from (by (with_reducible repeat (first | apply Kd.S_alloc | apply Kd.S_drewN | apply Kd.S_drew)); exact Kd.S_mono HO_5.out (fun k_ hk => ⟨trivial, fun e_ => hk e_⟩))))); (try (obtain ⟨oki17, ce17, hcl17, hM17, hcc17, hfr17, hoki17, hH17⟩ := Kd.S_elem HX17.out [] (x6_1 : Int) (of_decide_eq_true (by first | (with_reducible assumption) | assumption)) (by have h_ : (x6_1 : Int) < ((x5_1.length : Int) : Int) := of_decide_eq_true (by first | (with_reducible assumption) | assumption); first | exact h_ | (have e_ := (Kd.S_reads' HO_5.out).1; omega) | simpa using h_))); (try (obtain ⟨ve17_0, rfl, ge17_0⟩ := hM17)); (try (have HP17 := Kd.S_seg hH17 (of_decide_eq_true (by first | (with_reducible assumption) | assumption)) (by have h_ : (x6_1 : Int) < ((x5_1.length : Int) : Int) := of_decide_eq_true (by first | (with_reducible assumption) | assumption); first | exact h_ | (have e_ := (Kd.S_reads' HO_5.out).1; omega) | simpa using h_) (seg := [v165]) (j := 0) (show 1 ≤ 1 from by decide) (x' := y164) (Kd.M_row (Kd.R_mono (Kd.R_tight rfl (Kd.R_mono (ok' := fun k_ => ((fun _ => True)) k_ ∧ k_ ≠ go14) (Kd.R_apart' (HO166.out) (Kd.S_typed HO_5.out) (by decide)) (fun k_ hk => ⟨trivial, fun e_ => (hk.2) (by rw [e_]; rfl)⟩))) (fun _ h_ => Or.inr (h_)))) (fun _ hk => hk) (fun k_ hk_ => ((Kd.R_mono (ok' := fun k_ => ((fun _ => True)) k_ ∧ k_ ≠ go14) (Kd.R_apart' (HO166.out) (Kd.S_typed HO_5.out) (by decide)) (fun k_ hk => ⟨trivial, fun e_ => (hk.2) (by rw [e_]; rfl)⟩))).1 k_ hk_.symm))); (try (have hx17_0 := hcc17 0 _ rfl)); (try (try simp only [show ((Kd.slice 3 (Kd.int .i64))).sz = 1 from rfl, Nat.mul_one, Nat.add_zero] at hx17_0)); (try (have hf17_0 := hfr17 0)); (try (try simp only [show ((Kd.slice 3 (Kd.int .i64))).sz = 1 from rfl, Nat.mul_one, Nat.add_zero] at hf17_0)); (try (clear hcl17 hcc17 hfr17 hM17 hoki17 hH17)); (try (try simp only [show ((Kd.slice 3 (Kd.int .i64))).sz = 1 from rfl, Nat.mul_one, Nat.add_zero] at HP17)))); refine store_event (t := 35) (p := 25) (v := ?vo_w18) (w1 := (w15.setCell ⟨go14, (x6_1 : Int).toNat, none⟩ (v165))) ?hg ?ho ?hn ?hr ?_; (case ho => rfl); (case hg => rfl); (case hn => rfl); (case hr => first | (go_simp; done) | (go_simp; rfl) | (obtain ⟨_, _, e_, _⟩ := Kd.R_reads (Aside0.out ‹Aside0 (Kd.R _ _ _ _ _ v165 _)›); go_simp; done) | (obtain ⟨_, _, e_, _⟩ := Kd.R_reads (Aside0.out ‹Aside0 (Kd.R _ _ _ _ _ v165 _)›); go_simp; rfl) | (obtain ⟨_, _, e_, _⟩ := Kd.R_reads (Kd.S_R (Aside0.out ‹Aside0 (Kd.S _ _ _ _ _ v165 _)›)); go_simp; done) | (obtain ⟨_, _, e_, _⟩ := Kd.R_reads (Kd.S_R (Aside0.out ‹Aside0 (Kd.S _ _ _ _ _ v165 _)›)); go_simp; rfl) | (obtain ⟨_, _, e_, _⟩ := Kd.N_reads (Aside0.out ‹Aside0 (Kd.N _ _ _ _ _ v165 _)›); go_simp; done) | (obtain ⟨_, _, e_, _⟩ := Kd.N_reads (Aside0.out ‹Aside0 (Kd.N _ _ _ _ _ v165 _)›); go_simp; rfl) | (obtain ⟨_, _, e_, _⟩ := Kd.Q_reads (Aside0.out ‹Aside0 (Kd.Q _ _ _ _ _ v165 _)›); go_simp; done) | (obtain ⟨_, _, e_, _⟩ := Kd.Q_reads (Aside0.out ‹Aside0 (Kd.Q _ _ _ _ _ v165 _)›); go_simp; rfl)); intro w18 hw; have hg : w15.grownBy w18 (some go14) := (by rw [hw]; exact HP17.2); have hp_ : Kd.S (Kd.slice 3 (Kd.int .i64)) 35 w18 w.heap.size (fun _ => True) (.slice (some ⟨go14, 0, none⟩) x5_1.length co14) y167 := (by rw [hw, Ny167.out]; exact HP17.1); clear HP17; have n0_ := Aside0.mk (hp_); have n1_ := Aside0.mk ((by rw [hw]; exact below_set (HB.out) GB14.out : Below w.heap.size w w18)); clear HO_5; clear HB; clear HO166; have HO_5 := n0_; have HB := n1_; clear n0_ n1_; clear hg hw hp_))
                    repeat (go_quiet (first | ((with_reducible refine gate_dst (N := 24) rfl ?_); (try (refine gate_guard (by rfl) ?_; dsimp only)); refine Kd.R_make (Kd.int .i64) _ 3 rfl (N := 24) rfl 35 _ _ rfl ji9 rfl rfl Try.underlying35 (.int .i64 0) 8 info3 rfl (by decide) (by omega) 0 (ok := fun _ => True) (okp := fun _ => True) rfl (fun _ hk => hk) trivial (of_decide_eq_true (by first | (with_reducible assumption) | assumption)) (Nat.le_trans (Nat.mul_le_mul_right _ (of_decide_eq_true (by first | (with_reducible assumption) | assumption) : ji9.toNat ≤ 35184372088832)) (by omega)) (Below.refl _ _) (Nat.le_refl _) ?_; intro v165 w15 ho16 hb hg_ hnew_; clear hg_ hnew_; (first | rw [← Ny164.out] at ho16 | (simp only [Int.reduceToNat] at ho16; rw [← Ny164.out] at ho16)); have n0_ := Aside0.mk (Kd.S_elder' (by (with_reducible repeat (first | apply Kd.S_alloc | apply Kd.S_drewN | apply Kd.S_drew)); exact HO_5.out) (Kd.R_base ho16) hb); have n1_ := Aside0.mk (Kd.R_lower ho16 (below_size (by repeat (first | (with_reducible first | exact HB.out | apply below_alloc | apply pw_below_drewN | apply below_drew1) | exact HB.out)))); have n2_ := Aside0.mk (below_step (by repeat (first | (with_reducible first | exact HB.out | apply below_alloc | apply pw_below_drewN | apply below_drew1) | exact HB.out)) hb); clear HO_5; clear HB; have HO_5 := n0_; have HO166 := n1_; have HB := n2_; clear n0_ n1_ n2_; clear hb ho16; have p14 : 0 ≤ (x6_1 : Int) := of_decide_eq_true (by first | (with_reducible assumption) | assumption); have q14 : (x6_1 : Int) < ((x5_1.length : Int) : Int) := of_decide_eq_true (by first | (with_reducible assumption) | assumption); obtain ⟨go14, co14, eo14, gb14, gl14, cl14, HG14⟩ := Kd.S_form HO_5.out (by omega); (first | cases eo14 | (injection eo14 with ea_ en_ ec_; (first | subst ea_ | (injection ea_ with ea_; subst ea_)); subst ec_; clear en_)); have GB14 := Aside0.mk gb14; have GG14 := Aside0.mk HG14; clear gb14 gl14 HG14; obtain ⟨_, ce14, hcl14, hM14, hcc14, hfr14, _, _⟩ := Kd.S_elem HO_5.out [] (x6_1 : Int) p14 q14; obtain ⟨ve14_0, rfl, ge14_0⟩ := hM14; have hx14_0 := hcc14 0 _ rfl; have hf14_0 := hfr14 0; (try simp only [show ((Kd.slice 3 (Kd.int .i64))).sz = 1 from rfl, Nat.mul_one, Nat.add_zero] at hx14_0); (try simp only [show ((Kd.slice 3 (Kd.int .i64))).sz = 1 from rfl, Nat.mul_one, Nat.add_zero] at hf14_0); (try clear hcl14); (try clear hcc14); (try clear hfr14); (try clear hM14); replace p14 := eq_true p14; replace q14 := eq_true q14; have n_ := Aside0.mk (Kd.S_mono (ok' := (fun k_ => some k_ ≠ (v165 : Value).ownBlock)) HO_5.out (fun k_ hk => hk.2)); clear HO_5; have HO_5 := n_; clear n_; have HX17 := Aside0.mk (show Kd.S (Kd.slice 3 (Kd.int .i64)) 35 w15 w.heap.size (fun k_ => ((fun _ => True)) k_ ∧ ¬ ((fun k_ => some k_ = (v165 : Value).ownBlock)) k_) (.slice (some ⟨go14, 0, none⟩) x5_1.length co14) x5_1 from (by (with_reducible repeat (first | apply Kd.S_alloc | apply Kd.S_drewN | apply Kd.S_drew)); exact Kd.S_mono HO_5.out (fun k_ hk => ⟨trivial, fun e_ => hk e_⟩))); obtain ⟨oki17, ce17, hcl17, hM17, hcc17, hfr17, hoki17, hH17⟩ := Kd.S_elem HX17.out [] (x6_1 : Int) (of_decide_eq_true (by first | (with_reducible assumption) | assumption)) (by have h_ : (x6_1 : Int) < ((x5_1.length : Int) : Int) := of_decide_eq_true (by first | (with_reducible assumption) | assumption); first | exact h_ | (have e_ := (Kd.S_reads' HO_5.out).1; omega) | simpa using h_); obtain ⟨ve17_0, rfl, ge17_0⟩ := hM17; have HP17 := Kd.S_seg hH17 (of_decide_eq_true (by first | (with_reducible assumption) | assumption)) (by have h_ : (x6_1 : Int) < ((x5_1.length : Int) : Int) := of_decide_eq_true (by first | (with_reducible assumption) | assumption); first | exact h_ | (have e_ := (Kd.S_reads' HO_5.out).1; omega) | simpa using h_) (seg := [v165]) (j := 0) (show 1 ≤ 1 from by decide) (x' := y164) (Kd.M_row (Kd.R_mono (Kd.R_tight rfl (Kd.R_mono (ok' := fun k_ => ((fun _ => True)) k_ ∧ k_ ≠ go14) (Kd.R_apart' (HO166.out) (Kd.S_typed HO_5.out) (by decide)) (fun k_ hk => ⟨trivial, fun e_ => (hk.2) (by rw [e_]; rfl)⟩))) (fun _ h_ => Or.inr (h_)))) (fun _ hk => hk) (fun k_ hk_ => ((Kd.R_mono (ok' := fun k_ => ((fun _ => True)) k_ ∧ k_ ≠ go14) (Kd.R_apart' (HO166.out) (Kd.S_typed HO_5.out) (by decide)) (fun k_ hk => ⟨trivial, fun e_ => (hk.2) (by rw [e_]; rfl)⟩))).1 k_ hk_.symm); have hx17_0 := hcc17 0 _ rfl; (try simp only [show ((Kd.slice 3 (Kd.int .i64))).sz = 1 from rfl, Nat.mul_one, Nat.add_zero] at hx17_0); have hf17_0 := hfr17 0; (try simp only [show ((Kd.slice 3 (Kd.int .i64))).sz = 1 from rfl, Nat.mul_one, Nat.add_zero] at hf17_0); (try clear hcl17); (try clear hcc17); (try clear hfr17); (try clear hM17); (try clear hoki17); (try clear hH17); (try simp only [show ((Kd.slice 3 (Kd.int .i64))).sz = 1 from rfl, Nat.mul_one, Nat.add_zero] at HP17)) | ((with_reducible refine gate_store (t := 35) (p := 25) rfl ?_); (try (rw [drewN_self w15]; generalize hq_ : World.drewN w15 _ = w15; (try (replace hx14_0 := cell_at hq_ hx14_0)); (try (replace hx17_0 := cell_at hq_ hx17_0)); (try (replace hf14_0 := frozen_at hq_ hf14_0)); (try (replace hf17_0 := frozen_at hq_ hf17_0)); have n0_ := Aside0.mk (Kd.S_at hq_ HO_5.out); have n1_ := Aside0.mk (below_at hq_ HB.out); clear hq_ HO_5 HB; have HO_5 := n0_; have HB := n1_; clear n0_ n1_; (try (have n_ := Aside0.mk (Kd.S_mono (ok' := (fun k_ => some k_ ≠ (v165 : Value).ownBlock)) HO_5.out (fun k_ hk => hk.2)); clear HO_5; have HO_5 := n_; clear n_)); (try (have HX17 := Aside0.mk (show Kd.S (Kd.slice 3 (Kd.int .i64)) 35 w15 w.heap.size (fun k_ => ((fun _ => True)) k_ ∧ ¬ ((fun k_ => some k_ = (v165 : Value).ownBlock)) k_) (.slice (some ⟨go14, 0, none⟩) x5_1.length co14) x5_1 from (by (with_reducible repeat (first | apply Kd.S_alloc | apply Kd.S_drewN | apply Kd.S_drew)); exact Kd.S_mono HO_5.out (fun k_ hk => ⟨trivial, fun e_ => hk e_⟩))))); (try (obtain ⟨oki17, ce17, hcl17, hM17, hcc17, hfr17, hoki17, hH17⟩ := Kd.S_elem HX17.out [] (x6_1 : Int) (of_decide_eq_true (by first | (with_reducible assumption) | assumption)) (by have h_ : (x6_1 : Int) < ((x5_1.length : Int) : Int) := of_decide_eq_true (by first | (with_reducible assumption) | assumption); first | exact h_ | (have e_ := (Kd.S_reads' HO_5.out).1; omega) | simpa using h_))); (try (obtain ⟨ve17_0, rfl, ge17_0⟩ := hM17)); (try (have HP17 := Kd.S_seg hH17 (of_decide_eq_true (by first | (with_reducible assumption) | assumption)) (by have h_ : (x6_1 : Int) < ((x5_1.length : Int) : Int) := of_decide_eq_true (by first | (with_reducible assumption) | assumption); first | exact h_ | (have e_ := (Kd.S_reads' HO_5.out).1; omega) | simpa using h_) (seg := [v165]) (j := 0) (show 1 ≤ 1 from by decide) (x' := y164) (Kd.M_row (Kd.R_mono (Kd.R_tight rfl (Kd.R_mono (ok' := fun k_ => ((fun _ => True)) k_ ∧ k_ ≠ go14) (Kd.R_apart' (HO166.out) (Kd.S_typed HO_5.out) (by decide)) (fun k_ hk => ⟨trivial, fun e_ => (hk.2) (by rw [e_]; rfl)⟩))) (fun _ h_ => Or.inr (h_)))) (fun _ hk => hk) (fun k_ hk_ => ((Kd.R_mono (ok' := fun k_ => ((fun _ => True)) k_ ∧ k_ ≠ go14) (Kd.R_apart' (HO166.out) (Kd.S_typed HO_5.out) (by decide)) (fun k_ hk => ⟨trivial, fun e_ => (hk.2) (by rw [e_]; rfl)⟩))).1 k_ hk_.symm))); (try (have hx17_0 := hcc17 0 _ rfl)); (try (try simp only [show ((Kd.slice 3 (Kd.int .i64))).sz = 1 from rfl, Nat.mul_one, Nat.add_zero] at hx17_0)); (try (have hf17_0 := hfr17 0)); (try (try simp only [show ((Kd.slice 3 (Kd.int .i64))).sz = 1 from rfl, Nat.mul_one, Nat.add_zero] at hf17_0)); (try (clear hcl17 hcc17 hfr17 hM17 hoki17 hH17)); (try (try simp only [show ((Kd.slice 3 (Kd.int .i64))).sz = 1 from rfl, Nat.mul_one, Nat.add_zero] at HP17)))); refine store_event (t := 35) (p := 25) (v := ?vo_w18) (w1 := (w15.setCell ⟨go14, (x6_1 : Int).toNat, none⟩ (v165))) ?hg ?ho ?hn ?hr ?_; (case ho => rfl); (case hg => rfl); (case hn => rfl); (case hr => first | (go_simp; done) | (go_simp; rfl) | (obtain ⟨_, _, e_, _⟩ := Kd.R_reads (Aside0.out ‹Aside0 (Kd.R _ _ _ _ _ v165 _)›); go_simp; done) | (obtain ⟨_, _, e_, _⟩ := Kd.R_reads (Aside0.out ‹Aside0 (Kd.R _ _ _ _ _ v165 _)›); go_simp; rfl) | (obtain ⟨_, _, e_, _⟩ := Kd.R_reads (Kd.S_R (Aside0.out ‹Aside0 (Kd.S _ _ _ _ _ v165 _)›)); go_simp; done) | (obtain ⟨_, _, e_, _⟩ := Kd.R_reads (Kd.S_R (Aside0.out ‹Aside0 (Kd.S _ _ _ _ _ v165 _)›)); go_simp; rfl) | (obtain ⟨_, _, e_, _⟩ := Kd.N_reads (Aside0.out ‹Aside0 (Kd.N _ _ _ _ _ v165 _)›); go_simp; done) | (obtain ⟨_, _, e_, _⟩ := Kd.N_reads (Aside0.out ‹Aside0 (Kd.N _ _ _ _ _ v165 _)›); go_simp; rfl) | (obtain ⟨_, _, e_, _⟩ := Kd.Q_reads (Aside0.out ‹Aside0 (Kd.Q _ _ _ _ _ v165 _)›); go_simp; done) | (obtain ⟨_, _, e_, _⟩ := Kd.Q_reads (Aside0.out ‹Aside0 (Kd.Q _ _ _ _ _ v165 _)›); go_simp; rfl)); intro w18 hw; have hg : w15.grownBy w18 (some go14) := (by rw [hw]; exact HP17.2); have hp_ : Kd.S (Kd.slice 3 (Kd.int .i64)) 35 w18 w.heap.size (fun _ => True) (.slice (some ⟨go14, 0, none⟩) x5_1.length co14) y167 := (by rw [hw, Ny167.out]; exact HP17.1); clear HP17; have n0_ := Aside0.mk (hp_); have n1_ := Aside0.mk ((by rw [hw]; exact below_set (HB.out) GB14.out : Below w.heap.size w w18)); clear HO_5; clear HB; clear HO166; have HO_5 := n0_; have HB := n1_; clear n0_ n1_; clear hg hw hp_)); try go_wp2_with (first | ((with_reducible refine gate_dst (N := 24) rfl ?_); (try (refine gate_guard (by rfl) ?_; dsimp only)); refine Kd.R_make (Kd.int .i64) _ 3 rfl (N := 24) rfl 35 _ _ rfl ji9 rfl rfl Try.underlying35 (.int .i64 0) 8 info3 rfl (by decide) (by omega) 0 (ok := fun _ => True) (okp := fun _ => True) rfl (fun _ hk => hk) trivial (of_decide_eq_true (by first | (with_reducible assumption) | assumption)) (Nat.le_trans (Nat.mul_le_mul_right _ (of_decide_eq_true (by first | (with_reducible assumption) | assumption) : ji9.toNat ≤ 35184372088832)) (by omega)) (Below.refl _ _) (Nat.le_refl _) ?_; intro v165 w15 ho16 hb hg_ hnew_; clear hg_ hnew_; (first | rw [← Ny164.out] at ho16 | (simp only [Int.reduceToNat] at ho16; rw [← Ny164.out] at ho16)); have n0_ := Aside0.mk (Kd.S_elder' (by (with_reducible repeat (first | apply Kd.S_alloc | apply Kd.S_drewN | apply Kd.S_drew)); exact HO_5.out) (Kd.R_base ho16) hb); have n1_ := Aside0.mk (Kd.R_lower ho16 (below_size (by repeat (first | (with_reducible first | exact HB.out | apply below_alloc | apply pw_below_drewN | apply below_drew1) | exact HB.out)))); have n2_ := Aside0.mk (below_step (by repeat (first | (with_reducible first | exact HB.out | apply below_alloc | apply pw_below_drewN | apply below_drew1) | exact HB.out)) hb); clear HO_5; clear HB; have HO_5 := n0_; have HO166 := n1_; have HB := n2_; clear n0_ n1_ n2_; clear hb ho16; have p14 : 0 ≤ (x6_1 : Int) := of_decide_eq_true (by first | (with_reducible assumption) | assumption); have q14 : (x6_1 : Int) < ((x5_1.length : Int) : Int) := of_decide_eq_true (by first | (with_reducible assumption) | assumption); obtain ⟨go14, co14, eo14, gb14, gl14, cl14, HG14⟩ := Kd.S_form HO_5.out (by omega); (first | cases eo14 | (injection eo14 with ea_ en_ ec_; (first | subst ea_ | (injection ea_ with ea_; subst ea_)); subst ec_; clear en_)); have GB14 := Aside0.mk gb14; have GG14 := Aside0.mk HG14; clear gb14 gl14 HG14; obtain ⟨_, ce14, hcl14, hM14, hcc14, hfr14, _, _⟩ := Kd.S_elem HO_5.out [] (x6_1 : Int) p14 q14; obtain ⟨ve14_0, rfl, ge14_0⟩ := hM14; have hx14_0 := hcc14 0 _ rfl; have hf14_0 := hfr14 0; (try simp only [show ((Kd.slice 3 (Kd.int .i64))).sz = 1 from rfl, Nat.mul_one, Nat.add_zero] at hx14_0); (try simp only [show ((Kd.slice 3 (Kd.int .i64))).sz = 1 from rfl, Nat.mul_one, Nat.add_zero] at hf14_0); (try clear hcl14); (try clear hcc14); (try clear hfr14); (try clear hM14); replace p14 := eq_true p14; replace q14 := eq_true q14; have n_ := Aside0.mk (Kd.S_mono (ok' := (fun k_ => some k_ ≠ (v165 : Value).ownBlock)) HO_5.out (fun k_ hk => hk.2)); clear HO_5; have HO_5 := n_; clear n_; have HX17 := Aside0.mk (show Kd.S (Kd.slice 3 (Kd.int .i64)) 35 w15 w.heap.size (fun k_ => ((fun _ => True)) k_ ∧ ¬ ((fun k_ => some k_ = (v165 : Value).ownBlock)) k_) (.slice (some ⟨go14, 0, none⟩) x5_1.length co14) x5_1 from (by (with_reducible repeat (first | apply Kd.S_alloc | apply Kd.S_drewN | apply Kd.S_drew)); exact Kd.S_mono HO_5.out (fun k_ hk => ⟨trivial, fun e_ => hk e_⟩))); obtain ⟨oki17, ce17, hcl17, hM17, hcc17, hfr17, hoki17, hH17⟩ := Kd.S_elem HX17.out [] (x6_1 : Int) (of_decide_eq_true (by first | (with_reducible assumption) | assumption)) (by have h_ : (x6_1 : Int) < ((x5_1.length : Int) : Int) := of_decide_eq_true (by first | (with_reducible assumption) | assumption); first | exact h_ | (have e_ := (Kd.S_reads' HO_5.out).1; omega) | simpa using h_); obtain ⟨ve17_0, rfl, ge17_0⟩ := hM17; have HP17 := Kd.S_seg hH17 (of_decide_eq_true (by first | (with_reducible assumption) | assumption)) (by have h_ : (x6_1 : Int) < ((x5_1.length : Int) : Int) := of_decide_eq_true (by first | (with_reducible assumption) | assumption); first | exact h_ | (have e_ := (Kd.S_reads' HO_5.out).1; omega) | simpa using h_) (seg := [v165]) (j := 0) (show 1 ≤ 1 from by decide) (x' := y164) (Kd.M_row (Kd.R_mono (Kd.R_tight rfl (Kd.R_mono (ok' := fun k_ => ((fun _ => True)) k_ ∧ k_ ≠ go14) (Kd.R_apart' (HO166.out) (Kd.S_typed HO_5.out) (by decide)) (fun k_ hk => ⟨trivial, fun e_ => (hk.2) (by rw [e_]; rfl)⟩))) (fun _ h_ => Or.inr (h_)))) (fun _ hk => hk) (fun k_ hk_ => ((Kd.R_mono (ok' := fun k_ => ((fun _ => True)) k_ ∧ k_ ≠ go14) (Kd.R_apart' (HO166.out) (Kd.S_typed HO_5.out) (by decide)) (fun k_ hk => ⟨trivial, fun e_ => (hk.2) (by rw [e_]; rfl)⟩))).1 k_ hk_.symm); have hx17_0 := hcc17 0 _ rfl; (try simp only [show ((Kd.slice 3 (Kd.int .i64))).sz = 1 from rfl, Nat.mul_one, Nat.add_zero] at hx17_0); have hf17_0 := hfr17 0; (try simp only [show ((Kd.slice 3 (Kd.int .i64))).sz = 1 from rfl, Nat.mul_one, Nat.add_zero] at hf17_0); (try clear hcl17); (try clear hcc17); (try clear hfr17); (try clear hM17); (try clear hoki17); (try clear hH17); (try simp only [show ((Kd.slice 3 (Kd.int .i64))).sz = 1 from rfl, Nat.mul_one, Nat.add_zero] at HP17)) | ((with_reducible refine gate_store (t := 35) (p := 25) rfl ?_); (try (rw [drewN_self w15]; generalize hq_ : World.drewN w15 _ = w15; (try (replace hx14_0 := cell_at hq_ hx14_0)); (try (replace hx17_0 := cell_at hq_ hx17_0)); (try (replace hf14_0 := frozen_at hq_ hf14_0)); (try (replace hf17_0 := frozen_at hq_ hf17_0)); have n0_ := Aside0.mk (Kd.S_at hq_ HO_5.out); have n1_ := Aside0.mk (below_at hq_ HB.out); clear hq_ HO_5 HB; have HO_5 := n0_; have HB := n1_; clear n0_ n1_; (try (have n_ := Aside0.mk (Kd.S_mono (ok' := (fun k_ => some k_ ≠ (v165 : Value).ownBlock)) HO_5.out (fun k_ hk => hk.2)); clear HO_5; have HO_5 := n_; clear n_)); (try (have HX17 := Aside0.mk (show Kd.S (Kd.slice 3 (Kd.int .i64)) 35 w15 w.heap.size (fun k_ => ((fun _ => True)) k_ ∧ ¬ ((fun k_ => some k_ = (v165 : Value).ownBlock)) k_) (.slice (some ⟨go14, 0, none⟩) x5_1.length co14) x5_1 from (by (with_reducible repeat (first | apply Kd.S_alloc | apply Kd.S_drewN | apply Kd.S_drew)); exact Kd.S_mono HO_5.out (fun k_ hk => ⟨trivial, fun e_ => hk e_⟩))))); (try (obtain ⟨oki17, ce17, hcl17, hM17, hcc17, hfr17, hoki17, hH17⟩ := Kd.S_elem HX17.out [] (x6_1 : Int) (of_decide_eq_true (by first | (with_reducible assumption) | assumption)) (by have h_ : (x6_1 : Int) < ((x5_1.length : Int) : Int) := of_decide_eq_true (by first | (with_reducible assumption) | assumption); first | exact h_ | (have e_ := (Kd.S_reads' HO_5.out).1; omega) | simpa using h_))); (try (obtain ⟨ve17_0, rfl, ge17_0⟩ := hM17)); (try (have HP17 := Kd.S_seg hH17 (of_decide_eq_true (by first | (with_reducible assumption) | assumption)) (by have h_ : (x6_1 : Int) < ((x5_1.length : Int) : Int) := of_decide_eq_true (by first | (with_reducible assumption) | assumption); first | exact h_ | (have e_ := (Kd.S_reads' HO_5.out).1; omega) | simpa using h_) (seg := [v165]) (j := 0) (show 1 ≤ 1 from by decide) (x' := y164) (Kd.M_row (Kd.R_mono (Kd.R_tight rfl (Kd.R_mono (ok' := fun k_ => ((fun _ => True)) k_ ∧ k_ ≠ go14) (Kd.R_apart' (HO166.out) (Kd.S_typed HO_5.out) (by decide)) (fun k_ hk => ⟨trivial, fun e_ => (hk.2) (by rw [e_]; rfl)⟩))) (fun _ h_ => Or.inr (h_)))) (fun _ hk => hk) (fun k_ hk_ => ((Kd.R_mono (ok' := fun k_ => ((fun _ => True)) k_ ∧ k_ ≠ go14) (Kd.R_apart' (HO166.out) (Kd.S_typed HO_5.out) (by decide)) (fun k_ hk => ⟨trivial, fun e_ => (hk.2) (by rw [e_]; rfl)⟩))).1 k_ hk_.symm))); (try (have hx17_0 := hcc17 0 _ rfl)); (try (try simp only [show ((Kd.slice 3 (Kd.int .i64))).sz = 1 from rfl, Nat.mul_one, Nat.add_zero] at hx17_0)); (try (have hf17_0 := hfr17 0)); (try (try simp only [show ((Kd.slice 3 (Kd.int .i64))).sz = 1 from rfl, Nat.mul_one, Nat.add_zero] at hf17_0)); (try (clear hcl17 hcc17 hfr17 hM17 hoki17 hH17)); (try (try simp only [show ((Kd.slice 3 (Kd.int .i64))).sz = 1 from rfl, Nat.mul_one, Nat.add_zero] at HP17)))); refine store_event (t := 35) (p := 25) (v := ?vo_w18) (w1 := (w15.setCell ⟨go14, (x6_1 : Int).toNat, none⟩ (v165))) ?hg ?ho ?hn ?hr ?_; (case ho => rfl); (case hg => rfl); (case hn => rfl); (case hr => first | (go_simp; done) | (go_simp; rfl) | (obtain ⟨_, _, e_, _⟩ := Kd.R_reads (Aside0.out ‹Aside0 (Kd.R _ _ _ _ _ v165 _)›); go_simp; done) | (obtain ⟨_, _, e_, _⟩ := Kd.R_reads (Aside0.out ‹Aside0 (Kd.R _ _ _ _ _ v165 _)›); go_simp; rfl) | (obtain ⟨_, _, e_, _⟩ := Kd.R_reads (Kd.S_R (Aside0.out ‹Aside0 (Kd.S _ _ _ _ _ v165 _)›)); go_simp; done) | (obtain ⟨_, _, e_, _⟩ := Kd.R_reads (Kd.S_R (Aside0.out ‹Aside0 (Kd.S _ _ _ _ _ v165 _)›)); go_simp; rfl) | (obtain ⟨_, _, e_, _⟩ := Kd.N_reads (Aside0.out ‹Aside0 (Kd.N _ _ _ _ _ v165 _)›); go_simp; done) | (obtain ⟨_, _, e_, _⟩ := Kd.N_reads (Aside0.out ‹Aside0 (Kd.N _ _ _ _ _ v165 _)›); go_simp; rfl) | (obtain ⟨_, _, e_, _⟩ := Kd.Q_reads (Aside0.out ‹Aside0 (Kd.Q _ _ _ _ _ v165 _)›); go_simp; done) | (obtain ⟨_, _, e_, _⟩ := Kd.Q_reads (Aside0.out ‹Aside0 (Kd.Q _ _ _ _ _ v165 _)›); go_simp; rfl)); intro w18 hw; have hg : w15.grownBy w18 (some go14) := (by rw [hw]; exact HP17.2); have hp_ : Kd.S (Kd.slice 3 (Kd.int .i64)) 35 w18 w.heap.size (fun _ => True) (.slice (some ⟨go14, 0, none⟩) x5_1.length co14) y167 := (by rw [hw, Ny167.out]; exact HP17.1); clear HP17; have n0_ := Aside0.mk (hp_); have n1_ := Aside0.mk ((by rw [hw]; exact below_set (HB.out) GB14.out : Below w.heap.size w w18)); clear HO_5; clear HB; clear HO166; have HO_5 := n0_; have HB := n1_; clear n0_ n1_; clear hg hw hp_)))
                    go_loopg [7] k1 (fun kq v7 w' => ∃ (x5_2 : List (List Int)) (x7_2 : Int), v7 = .int .i64 x7_2 ∧ Aside0 (spec_l04Table.l1 kq l0 l1 x5_2 x6_1 x7_2 = some r) ∧ Aside0 (kq ≤ k1) ∧ Aside0 (Kd.S (Kd.slice 3 (Kd.int .i64)) 35 w' w.heap.size (fun _ => True) (.slice (some ⟨go14, 0, none⟩) x5_1.length co14) x5_2) ∧ Aside0 (Below w.heap.size w w'))
                    case atStart => exact ⟨(y167), (wrap64 ((l1.length : Int) - 1)), (by first | rfl | (simp; done) | (simp [*]; done)), H', ⟨Nat.le_refl _⟩, ⟨by (with_reducible repeat (first | apply Kd.S_alloc | apply Kd.S_drewN | apply Kd.S_drew)); exact HO_5.out⟩, ⟨by repeat (first | (with_reducible first | exact HB.out | apply below_alloc | apply pw_below_drewN | apply below_drew1) | exact HB.out)⟩⟩
                    case round =>
                      clear H'
                      try clear c1
                      try clear p1
                      try clear q1
                      try clear hx1
                      try clear p2
                      try clear c4
                      try clear c4b0
                      try clear c4b1
                      try clear c5
                      try clear c5b0
                      try clear c5b1
                      try clear p6
                      try clear c8
                      try clear c8b0
                      try clear c10
                      try clear c10b0
                      try clear c10b1
                      try clear c11
                      try clear c11b0
                      try clear c11b1
                      try clear c12
                      try clear c12b0
                      try clear c13
                      try clear c13b0
                      try clear c14
                      try clear p14
                      try clear q14
                      try clear hx14
                      try clear hf14
                      try clear c17
                      try clear hx17
                      try clear hf17
                      try clear hx14_0
                      try clear hx17_0
                      try clear p14
                      try clear p2
                      try clear p6
                      try clear q14
                      obtain ⟨x5_2, x7_2, rfl, HA, HK2, HO_5, HB⟩ := hrel
                      have hl5_2 := (Kd.S_reads' HO_5.out).1
                      rw [hl5_2] at HO_5
                      (try simp only [hl5_2])
                      cases gk with
                      | zero => exact absurd HA.out (by simp [spec_l04Table.l1])
                      | succ k2 =>
                        have H := HA.out
                        clear HA
                        simp only [spec_l04Table.l1] at H
                        have HC19 := Aside0.mk H
                        clear H
                        go_upto_region 7 with (fail)
                        repeat (go_quiet (fail); go_upto_region 7 with (fail))
                        go_cut [36] (fun v36 wc => ∃ (kq : Nat) (x36_18 : Bool), v36 = .bool x36_18 ∧ Aside0 (spec_l04Table.j2 kq l0 l1 x5_2 x6_1 x7_2 x36_18 = some r) ∧ Aside0 (kq ≤ k2) ∧ Aside0 (Kd.S (Kd.slice 3 (Kd.int .i64)) 35 wc w.heap.size (fun _ => True) (.slice (some ⟨go14, 0, none⟩) x5_2.length co14) x5_2) ∧ Aside0 (Below w.heap.size w wc))
                        case first =>
                          have H := HC19.out
                          clear HC19
                          by_cases c20 : x7_2 ≥ 0
                          · rw [if_pos c20] at H
                            have c20b0 : decide (0 ≤ x7_2) = true := decide_eq_true c20
                            clear c20
                            (first | rw [c20b0] | (simp only [i64_w, i32_w]; rw [c20b0]) | skip)
                            have H' := Aside0.mk H
                            clear H
                            go_wp2
                            repeat (go_quiet (fail); try go_wp2)
                            go_meet
                            case rel => exact ⟨_, (decide (x6_1 < (l0.length : Int))), (by first | rfl | (simp; done) | (simp [*]; done)), H', ⟨by have := HK1.out; have := HK2.out; first | omega | exact Nat.le_refl _⟩, ⟨by (try simp only [hl5_2]); (with_reducible repeat (first | apply Kd.S_alloc | apply Kd.S_drewN | apply Kd.S_drew)); exact HO_5.out⟩, ⟨by repeat (first | (with_reducible first | exact HB.out | apply below_alloc | apply pw_below_drewN | apply below_drew1) | exact HB.out)⟩⟩
                          · rw [if_neg c20] at H
                            have c20b0 : decide (0 ≤ x7_2) = false := decide_eq_false c20
                            clear c20
                            (first | rw [c20b0] | (simp only [i64_w, i32_w]; rw [c20b0]) | skip)
                            have H' := Aside0.mk H
                            clear H
                            go_wp2
                            repeat (go_quiet (fail); try go_wp2)
                            go_meet
                            case rel => exact ⟨_, (false), (by first | rfl | (simp; done) | (simp [*]; done)), H', ⟨by have := HK1.out; have := HK2.out; first | omega | exact Nat.le_refl _⟩, ⟨by (try simp only [hl5_2]); (with_reducible repeat (first | apply Kd.S_alloc | apply Kd.S_drewN | apply Kd.S_drew)); exact HO_5.out⟩, ⟨by repeat (first | (with_reducible first | exact HB.out | apply below_alloc | apply pw_below_drewN | apply below_drew1) | exact HB.out)⟩⟩
                        case rest =>
                          clear HC19
                          try clear c1
                          try clear p1
                          try clear q1
                          try clear hx1
                          try clear c2
                          try clear p2
                          try clear c4
                          try clear c4b0
                          try clear c4b1
                          try clear c5
                          try clear c5b0
                          try clear c5b1
                          try clear p6
                          try clear c8
                          try clear c8b0
                          try clear c10
                          try clear c10b0
                          try clear c10b1
                          try clear c11
                          try clear c11b0
                          try clear c11b1
                          try clear c12
                          try clear c12b0
                          try clear c13
                          try clear c13b0
                          try clear c14
                          try clear p14
                          try clear q14
                          try clear hx14
                          try clear hf14
                          try clear c17
                          try clear hx17
                          try clear hf17
                          try clear c20
                          try clear c20b0
                          try clear hx14_0
                          try clear hx17_0
                          try clear p1
                          try clear p14
                          try clear p2
                          try clear p6
                          try clear q1
                          try clear q14
                          obtain ⟨kq, x36_18, rfl, HA, HJ18, HO_5, HB⟩ := hcut
                          cases kq with
                          | zero => exact absurd HA.out (by simp [spec_l04Table.j2])
                          | succ kj18 =>
                            have H := HA.out
                            clear HA
                            simp only [spec_l04Table.j2] at H
                            by_cases c21 : x36_18 = true
                            · subst c21
                              have H1 : (if 0 ≤ (wrap64 (x6_1 + 1)) then (if (wrap64 (x6_1 + 1)) < (x5_2.length : Int) then (if 0 ≤ x7_2 then (if x7_2 < ((rd_L2 x5_2 (wrap64 (x6_1 + 1))).length : Int) then (if 0 ≤ x6_1 then (if x6_1 < (x5_2.length : Int) then (if 0 ≤ (wrap64 (x7_2 + 1)) then (if (wrap64 (x7_2 + 1)) < ((rd_L2 x5_2 x6_1).length : Int) then (if (rd (rd_L2 x5_2 x6_1) (wrap64 (x7_2 + 1))) > (rd (rd_L2 x5_2 (wrap64 (x6_1 + 1))) x7_2) then (if x6_1 < (l0.length : Int) then (if x7_2 < (l1.length : Int) then (if (rdOf ByteArray.empty l0 x6_1).toList = (rdOf ByteArray.empty l1 x7_2).toList then (if (wrap64 (x7_2 + 1)) < ((rd_L2 x5_2 (wrap64 (x6_1 + 1))).length : Int) then (if x7_2 < ((rd_L2 x5_2 x6_1).length : Int) then (spec_l04Table.l1 kj18 l0 l1 (x5_2.set (x6_1 : Int).toNat ((rd_L2 x5_2 x6_1).set (x7_2 : Int).toNat (wrap64 ((rd (rd_L2 x5_2 (wrap64 (x6_1 + 1))) (wrap64 (x7_2 + 1))) + 1)))) x6_1 (wrap64 (x7_2 - 1))) else (none)) else (none)) else (if x7_2 < ((rd_L2 x5_2 x6_1).length : Int) then (spec_l04Table.l1 kj18 l0 l1 (x5_2.set (x6_1 : Int).toNat ((rd_L2 x5_2 x6_1).set (x7_2 : Int).toNat (rd (rd_L2 x5_2 x6_1) (wrap64 (x7_2 + 1))))) x6_1 (wrap64 (x7_2 - 1))) else (none))) else (none)) else (none)) else (if x6_1 < (l0.length : Int) then (if x7_2 < (l1.length : Int) then (if (rdOf ByteArray.empty l0 x6_1).toList = (rdOf ByteArray.empty l1 x7_2).toList then (if (wrap64 (x7_2 + 1)) < ((rd_L2 x5_2 (wrap64 (x6_1 + 1))).length : Int) then (if x7_2 < ((rd_L2 x5_2 x6_1).length : Int) then (spec_l04Table.l1 kj18 l0 l1 (x5_2.set (x6_1 : Int).toNat ((rd_L2 x5_2 x6_1).set (x7_2 : Int).toNat (wrap64 ((rd (rd_L2 x5_2 (wrap64 (x6_1 + 1))) (wrap64 (x7_2 + 1))) + 1)))) x6_1 (wrap64 (x7_2 - 1))) else (none)) else (none)) else (if x7_2 < ((rd_L2 x5_2 x6_1).length : Int) then (spec_l04Table.l1 kj18 l0 l1 (x5_2.set (x6_1 : Int).toNat ((rd_L2 x5_2 x6_1).set (x7_2 : Int).toNat (rd (rd_L2 x5_2 (wrap64 (x6_1 + 1))) x7_2))) x6_1 (wrap64 (x7_2 - 1))) else (none))) else (none)) else (none))) else (none)) else (none)) else (none)) else (none)) else (none)) else (none)) else (none)) else (none)) = some r := by rw [if_pos rfl] at H; exact H
                              clear H
                              have H := H1
                              clear H1
                              obtain ⟨ji22, hji22⟩ : ∃ j_ : Int, (wrap64 (x6_1 + 1)) = j_ := ⟨_, rfl⟩
                              replace H : (if 0 ≤ (ji22) then (if (ji22) < (x5_2.length : Int) then (if 0 ≤ x7_2 then (if x7_2 < ((rd_L2 x5_2 (ji22)).length : Int) then (if 0 ≤ x6_1 then (if x6_1 < (x5_2.length : Int) then (if 0 ≤ (wrap64 (x7_2 + 1)) then (if (wrap64 (x7_2 + 1)) < ((rd_L2 x5_2 x6_1).length : Int) then (if (rd (rd_L2 x5_2 x6_1) (wrap64 (x7_2 + 1))) > (rd (rd_L2 x5_2 (ji22)) x7_2) then (if x6_1 < (l0.length : Int) then (if x7_2 < (l1.length : Int) then (if (rdOf ByteArray.empty l0 x6_1).toList = (rdOf ByteArray.empty l1 x7_2).toList then (if (wrap64 (x7_2 + 1)) < ((rd_L2 x5_2 (ji22)).length : Int) then (if x7_2 < ((rd_L2 x5_2 x6_1).length : Int) then (spec_l04Table.l1 kj18 l0 l1 (x5_2.set (x6_1 : Int).toNat ((rd_L2 x5_2 x6_1).set (x7_2 : Int).toNat (wrap64 ((rd (rd_L2 x5_2 (ji22)) (wrap64 (x7_2 + 1))) + 1)))) x6_1 (wrap64 (x7_2 - 1))) else (none)) else (none)) else (if x7_2 < ((rd_L2 x5_2 x6_1).length : Int) then (spec_l04Table.l1 kj18 l0 l1 (x5_2.set (x6_1 : Int).toNat ((rd_L2 x5_2 x6_1).set (x7_2 : Int).toNat (rd (rd_L2 x5_2 x6_1) (wrap64 (x7_2 + 1))))) x6_1 (wrap64 (x7_2 - 1))) else (none))) else (none)) else (none)) else (if x6_1 < (l0.length : Int) then (if x7_2 < (l1.length : Int) then (if (rdOf ByteArray.empty l0 x6_1).toList = (rdOf ByteArray.empty l1 x7_2).toList then (if (wrap64 (x7_2 + 1)) < ((rd_L2 x5_2 (ji22)).length : Int) then (if x7_2 < ((rd_L2 x5_2 x6_1).length : Int) then (spec_l04Table.l1 kj18 l0 l1 (x5_2.set (x6_1 : Int).toNat ((rd_L2 x5_2 x6_1).set (x7_2 : Int).toNat (wrap64 ((rd (rd_L2 x5_2 (ji22)) (wrap64 (x7_2 + 1))) + 1)))) x6_1 (wrap64 (x7_2 - 1))) else (none)) else (none)) else (if x7_2 < ((rd_L2 x5_2 x6_1).length : Int) then (spec_l04Table.l1 kj18 l0 l1 (x5_2.set (x6_1 : Int).toNat ((rd_L2 x5_2 x6_1).set (x7_2 : Int).toNat (rd (rd_L2 x5_2 (ji22)) x7_2))) x6_1 (wrap64 (x7_2 - 1))) else (none))) else (none)) else (none))) else (none)) else (none)) else (none)) else (none)) else (none)) else (none)) else (none)) else (none)) = some r := by first | (rw [hji22] at H; exact H) | (simp only [hji22] at H ⊢; exact H)
                              have hji22w : (IntKind.i64.wrap (x6_1 + 1)) = ji22 := (i64_w _).trans hji22
                              by_cases c23 : 0 ≤ (ji22)
                              · rw [if_pos c23] at H
                                have c23b0 : decide (0 ≤ (ji22)) = true := decide_eq_true c23
                                clear c23
                                by_cases c24 : (ji22) < (x5_2.length : Int)
                                · rw [if_pos c24] at H
                                  have c24b0 : decide ((ji22) < (x5_2.length : Int)) = true := decide_eq_true c24
                                  clear c24
                                  by_cases c25 : 0 ≤ x7_2
                                  · rw [if_pos c25] at H
                                    have c25b0 : decide (0 ≤ x7_2) = true := decide_eq_true c25
                                    clear c25
                                    by_cases c26 : x7_2 < ((rd_L2 x5_2 (ji22)).length : Int)
                                    · rw [if_pos c26] at H
                                      have c26b0 : decide (x7_2 < ((rd_L2 x5_2 (ji22)).length : Int)) = true := decide_eq_true c26
                                      clear c26
                                      by_cases c27 : 0 ≤ x6_1
                                      · rw [if_pos c27] at H
                                        have c27b0 : decide (0 ≤ x6_1) = true := decide_eq_true c27
                                        clear c27
                                        by_cases c28 : x6_1 < (x5_2.length : Int)
                                        · rw [if_pos c28] at H
                                          have c28b0 : decide (x6_1 < (x5_2.length : Int)) = true := decide_eq_true c28
                                          clear c28
                                          obtain ⟨ji29, hji29⟩ : ∃ j_ : Int, (wrap64 (x7_2 + 1)) = j_ := ⟨_, rfl⟩
                                          replace H : (if 0 ≤ (ji29) then (if (ji29) < ((rd_L2 x5_2 x6_1).length : Int) then (if (rd (rd_L2 x5_2 x6_1) (ji29)) > (rd (rd_L2 x5_2 (ji22)) x7_2) then (if x6_1 < (l0.length : Int) then (if x7_2 < (l1.length : Int) then (if (rdOf ByteArray.empty l0 x6_1).toList = (rdOf ByteArray.empty l1 x7_2).toList then (if (ji29) < ((rd_L2 x5_2 (ji22)).length : Int) then (if x7_2 < ((rd_L2 x5_2 x6_1).length : Int) then (spec_l04Table.l1 kj18 l0 l1 (x5_2.set (x6_1 : Int).toNat ((rd_L2 x5_2 x6_1).set (x7_2 : Int).toNat (wrap64 ((rd (rd_L2 x5_2 (ji22)) (ji29)) + 1)))) x6_1 (wrap64 (x7_2 - 1))) else (none)) else (none)) else (if x7_2 < ((rd_L2 x5_2 x6_1).length : Int) then (spec_l04Table.l1 kj18 l0 l1 (x5_2.set (x6_1 : Int).toNat ((rd_L2 x5_2 x6_1).set (x7_2 : Int).toNat (rd (rd_L2 x5_2 x6_1) (ji29)))) x6_1 (wrap64 (x7_2 - 1))) else (none))) else (none)) else (none)) else (if x6_1 < (l0.length : Int) then (if x7_2 < (l1.length : Int) then (if (rdOf ByteArray.empty l0 x6_1).toList = (rdOf ByteArray.empty l1 x7_2).toList then (if (ji29) < ((rd_L2 x5_2 (ji22)).length : Int) then (if x7_2 < ((rd_L2 x5_2 x6_1).length : Int) then (spec_l04Table.l1 kj18 l0 l1 (x5_2.set (x6_1 : Int).toNat ((rd_L2 x5_2 x6_1).set (x7_2 : Int).toNat (wrap64 ((rd (rd_L2 x5_2 (ji22)) (ji29)) + 1)))) x6_1 (wrap64 (x7_2 - 1))) else (none)) else (none)) else (if x7_2 < ((rd_L2 x5_2 x6_1).length : Int) then (spec_l04Table.l1 kj18 l0 l1 (x5_2.set (x6_1 : Int).toNat ((rd_L2 x5_2 x6_1).set (x7_2 : Int).toNat (rd (rd_L2 x5_2 (ji22)) x7_2))) x6_1 (wrap64 (x7_2 - 1))) else (none))) else (none)) else (none))) else (none)) else (none)) = some r := by first | (rw [hji29] at H; exact H) | (simp only [hji29] at H ⊢; exact H)
                                          have hji29w : (IntKind.i64.wrap (x7_2 + 1)) = ji29 := (i64_w _).trans hji29
                                          by_cases c30 : 0 ≤ (ji29)
                                          · rw [if_pos c30] at H
                                            have c30b0 : decide (0 ≤ (ji29)) = true := decide_eq_true c30
                                            clear c30
                                            by_cases c31 : (ji29) < ((rd_L2 x5_2 x6_1).length : Int)
                                            · rw [if_pos c31] at H
                                              have c31b0 : decide ((ji29) < ((rd_L2 x5_2 x6_1).length : Int)) = true := decide_eq_true c31
                                              clear c31
                                              by_cases c32 : (rd (rd_L2 x5_2 x6_1) (ji29)) > (rd (rd_L2 x5_2 (ji22)) x7_2)
                                              · rw [if_pos c32] at H
                                                have c32b0 : decide ((rd (rd_L2 x5_2 (ji22)) x7_2) < (rd (rd_L2 x5_2 x6_1) (ji29))) = true := decide_eq_true c32
                                                clear c32
                                                by_cases c33 : x6_1 < (l0.length : Int)
                                                · rw [if_pos c33] at H
                                                  have c33b0 : decide (x6_1 < (l0.length : Int)) = true := decide_eq_true c33
                                                  clear c33
                                                  by_cases c34 : x7_2 < (l1.length : Int)
                                                  · rw [if_pos c34] at H
                                                    have c34b0 : decide (x7_2 < (l1.length : Int)) = true := decide_eq_true c34
                                                    clear c34
                                                    by_cases c35 : (rdOf ByteArray.empty l0 x6_1).toList = (rdOf ByteArray.empty l1 x7_2).toList
                                                    · rw [if_pos c35] at H
                                                      have c35b0 : ((rdOf ByteArray.empty l0 x6_1).toList == (rdOf ByteArray.empty l1 x7_2).toList) = true := beq_iff_eq.mpr c35
                                                      have c35b1 : ((rdOf ByteArray.empty l0 x6_1).toList != (rdOf ByteArray.empty l1 x7_2).toList) = false := bne_eq_false_iff_eq.mpr c35
                                                      clear c35
                                                      by_cases c36 : (ji29) < ((rd_L2 x5_2 (ji22)).length : Int)
                                                      · rw [if_pos c36] at H
                                                        have c36b0 : decide ((ji29) < ((rd_L2 x5_2 (ji22)).length : Int)) = true := decide_eq_true c36
                                                        clear c36
                                                        by_cases c37 : x7_2 < ((rd_L2 x5_2 x6_1).length : Int)
                                                        · rw [if_pos c37] at H
                                                          have c37b0 : decide (x7_2 < ((rd_L2 x5_2 x6_1).length : Int)) = true := decide_eq_true c37
                                                          clear c37
                                                          obtain ⟨y179, hy179⟩ : ∃ y_ : List Int, y_ = ((rd_L2 x5_2 x6_1).set (x7_2 : Int).toNat (wrap64 ((rd (rd_L2 x5_2 (ji22)) (ji29)) + 1))) := ⟨_, rfl⟩
                                                          replace H : (spec_l04Table.l1 kj18 l0 l1 (x5_2.set (x6_1 : Int).toNat y179) x6_1 (wrap64 (x7_2 - 1))) = some r := by first | (rw [hy179]; with_reducible exact H) | (have H2_ := (Option.bind_some _ _).symm.trans H; rw [hy179]; with_reducible exact H2_) | (have H2_ := (Option.bind_some _ _).symm.trans H; with_reducible exact H2_) | with_reducible exact H | (rw [hy179]; exact H) | exact H
                                                          have Ny179 := Aside0.mk hy179
                                                          clear hy179
                                                          obtain ⟨y181, hy181⟩ : ∃ y_ : List (List Int), y_ = (x5_2.set (x6_1 : Int).toNat y179) := ⟨_, rfl⟩
                                                          replace H : (spec_l04Table.l1 kj18 l0 l1 y181 x6_1 (wrap64 (x7_2 - 1))) = some r := by first | (rw [hy181]; with_reducible exact H) | (have H2_ := (Option.bind_some _ _).symm.trans H; rw [hy181]; with_reducible exact H2_) | (have H2_ := (Option.bind_some _ _).symm.trans H; with_reducible exact H2_) | with_reducible exact H | (rw [hy181]; exact H) | exact H
                                                          have Ny181 := Aside0.mk hy181
                                                          clear hy181
                                                          have H' := Aside0.mk H
                                                          clear H
                                                          have p168 : 0 ≤ ((ji22) : Int) := of_decide_eq_true (by first | (with_reducible assumption) | assumption)
                                                          have q168 : (ji22) < (x5_2.length : Int) := of_decide_eq_true (by first | (with_reducible assumption) | assumption)
                                                          obtain ⟨ad168, A168_0, c168_0, e168, hx168_0, hl168_0, hi168_0⟩ := at_L2 (Kd.S_reads' HO_5.out).2.2 (ji22) p168 q168
                                                          obtain rfl : (⟨go14, 0, none⟩ : Addr) = ad168 := (by injection e168)
                                                          obtain ⟨ce168, hce168, hMe168, hcc168⟩ := Kd.S_get HO_5.out [] (ji22) p168 (by first | exact q168 | exact of_decide_eq_true (by first | (with_reducible assumption) | assumption) | (have e_ := (Kd.S_reads' HO_5.out).1; omega))
                                                          obtain ⟨ve168_0, rfl, ge168_0⟩ := hMe168
                                                          have hv168_0 := hcc168 0 _ rfl
                                                          rw [Nat.add_zero, show ((Kd.slice 3 (Kd.int .i64))).sz = 1 from rfl, Nat.mul_one] at hv168_0
                                                          replace hv168_0 := Option.some.inj (hv168_0.symm.trans hx168_0)
                                                          rw [hv168_0] at ge168_0
                                                          have HL168_0 := Aside0.mk (show Kd.R (Kd.int .i64) 3 _ _ _ _ (rd_L2 x5_2 (ji22)) from ge168_0)
                                                          clear hv168_0 ge168_0
                                                          have HX168_0 := Aside0.mk hx168_0
                                                          clear hcc168 hce168
                                                          (first | simp only [add_plain] at hx168_0 | simp only [add_at] at hx168_0 | simp only [Addr.add, Nat.zero_add] at hx168_0 | skip)
                                                          have HR168_0 := Aside0.mk hi168_0
                                                          have HC168_0 := Aside0.mk hl168_0
                                                          clear hi168_0 hl168_0
                                                          replace p168 := eq_true p168
                                                          replace q168 := eq_true q168
                                                          have p169 : 0 ≤ (x7_2 : Int) := of_decide_eq_true (by first | (with_reducible assumption) | assumption)
                                                          have q169 : x7_2 < ((rd_L2 x5_2 (ji22)).length : Int) := of_decide_eq_true (by first | (with_reducible assumption) | assumption)
                                                          obtain ⟨ad169, e169, hx169_0⟩ := Kd.at_int (by repeat (first | (with_reducible exact HR168_0.out) | (with_reducible refine Kd.C_alloc ?_ _) | (with_reducible refine Kd.C_drewN ?_ _) | (with_reducible refine Kd.C_drew ?_) | exact HR168_0.out)) x7_2 p169 q169
                                                          cases e169
                                                          replace p169 := eq_true p169
                                                          replace q169 := eq_true q169
                                                          have p170 : 0 ≤ (x6_1 : Int) := of_decide_eq_true (by first | (with_reducible assumption) | assumption)
                                                          have q170 : x6_1 < (x5_2.length : Int) := of_decide_eq_true (by first | (with_reducible assumption) | assumption)
                                                          obtain ⟨ad170, A170_0, c170_0, e170, hx170_0, hl170_0, hi170_0⟩ := at_L2 (Kd.S_reads' HO_5.out).2.2 x6_1 p170 q170
                                                          obtain rfl : (⟨go14, 0, none⟩ : Addr) = ad170 := (by injection e170)
                                                          obtain ⟨ce170, hce170, hMe170, hcc170⟩ := Kd.S_get HO_5.out [] x6_1 p170 (by first | exact q170 | exact of_decide_eq_true (by first | (with_reducible assumption) | assumption) | (have e_ := (Kd.S_reads' HO_5.out).1; omega))
                                                          obtain ⟨ve170_0, rfl, ge170_0⟩ := hMe170
                                                          have hv170_0 := hcc170 0 _ rfl
                                                          rw [Nat.add_zero, show ((Kd.slice 3 (Kd.int .i64))).sz = 1 from rfl, Nat.mul_one] at hv170_0
                                                          replace hv170_0 := Option.some.inj (hv170_0.symm.trans hx170_0)
                                                          rw [hv170_0] at ge170_0
                                                          have HL170_0 := Aside0.mk (show Kd.R (Kd.int .i64) 3 _ _ _ _ (rd_L2 x5_2 x6_1) from ge170_0)
                                                          clear hv170_0 ge170_0
                                                          have HX170_0 := Aside0.mk hx170_0
                                                          clear hcc170 hce170
                                                          (first | simp only [add_plain] at hx170_0 | simp only [add_at] at hx170_0 | simp only [Addr.add, Nat.zero_add] at hx170_0 | skip)
                                                          have HR170_0 := Aside0.mk hi170_0
                                                          have HC170_0 := Aside0.mk hl170_0
                                                          clear hi170_0 hl170_0
                                                          replace p170 := eq_true p170
                                                          replace q170 := eq_true q170
                                                          have p171 : 0 ≤ ((ji29) : Int) := of_decide_eq_true (by first | (with_reducible assumption) | assumption)
                                                          have q171 : (ji29) < ((rd_L2 x5_2 x6_1).length : Int) := of_decide_eq_true (by first | (with_reducible assumption) | assumption)
                                                          obtain ⟨ad171, e171, hx171_0⟩ := Kd.at_int (by repeat (first | (with_reducible exact HR170_0.out) | (with_reducible refine Kd.C_alloc ?_ _) | (with_reducible refine Kd.C_drewN ?_ _) | (with_reducible refine Kd.C_drew ?_) | exact HR170_0.out)) (ji29) p171 q171
                                                          cases e171
                                                          replace p171 := eq_true p171
                                                          replace q171 := eq_true q171
                                                          have p172 : 0 ≤ (x6_1 : Int) := of_decide_eq_true (by first | (with_reducible assumption) | assumption)
                                                          have q172 : x6_1 < (x5_2.length : Int) := of_decide_eq_true (by first | (with_reducible assumption) | assumption)
                                                          obtain ⟨ad172, A172_0, c172_0, e172, hx172_0, hl172_0, hi172_0⟩ := at_L2 (Kd.S_reads' HO_5.out).2.2 x6_1 p172 q172
                                                          obtain rfl : (⟨go14, 0, none⟩ : Addr) = ad172 := (by injection e172)
                                                          obtain ⟨ce172, hce172, hMe172, hcc172⟩ := Kd.S_get HO_5.out [] x6_1 p172 (by first | exact q172 | exact of_decide_eq_true (by first | (with_reducible assumption) | assumption) | (have e_ := (Kd.S_reads' HO_5.out).1; omega))
                                                          obtain ⟨ve172_0, rfl, ge172_0⟩ := hMe172
                                                          have hv172_0 := hcc172 0 _ rfl
                                                          rw [Nat.add_zero, show ((Kd.slice 3 (Kd.int .i64))).sz = 1 from rfl, Nat.mul_one] at hv172_0
                                                          replace hv172_0 := Option.some.inj (hv172_0.symm.trans hx172_0)
                                                          rw [hv172_0] at ge172_0
                                                          have HL172_0 := Aside0.mk (show Kd.R (Kd.int .i64) 3 _ _ _ _ (rd_L2 x5_2 x6_1) from ge172_0)
                                                          clear hv172_0 ge172_0
                                                          have HX172_0 := Aside0.mk hx172_0
                                                          clear hcc172 hce172
                                                          (first | simp only [add_plain] at hx172_0 | simp only [add_at] at hx172_0 | simp only [Addr.add, Nat.zero_add] at hx172_0 | skip)
                                                          have HR172_0 := Aside0.mk hi172_0
                                                          have HC172_0 := Aside0.mk hl172_0
                                                          clear hi172_0 hl172_0
                                                          replace p172 := eq_true p172
                                                          replace q172 := eq_true q172
                                                          have ea_ := Option.some.inj (hx170_0.symm.trans hx172_0)
                                                          injection ea_ with ea_ en_ ec_
                                                          subst ea_
                                                          subst ec_
                                                          clear en_
                                                          have p173 : 0 ≤ ((ji29) : Int) := of_decide_eq_true (by first | (with_reducible assumption) | assumption)
                                                          have q173 : (ji29) < ((rd_L2 x5_2 x6_1).length : Int) := of_decide_eq_true (by first | (with_reducible assumption) | assumption)
                                                          obtain ⟨ad173, e173, hx173_0⟩ := Kd.at_int (by repeat (first | (with_reducible exact HR172_0.out) | (with_reducible refine Kd.C_alloc ?_ _) | (with_reducible refine Kd.C_drewN ?_ _) | (with_reducible refine Kd.C_drew ?_) | exact HR172_0.out)) (ji29) p173 q173
                                                          cases e173
                                                          replace p173 := eq_true p173
                                                          replace q173 := eq_true q173
                                                          have p174 : 0 ≤ (x6_1 : Int) := of_decide_eq_true (by first | (with_reducible assumption) | assumption)
                                                          have q174 : x6_1 < (l0.length : Int) := of_decide_eq_true (by first | (with_reducible assumption) | assumption)
                                                          obtain ⟨ad174, e174, hx174_0⟩ := Kd.at_string HR0.out x6_1 p174 q174
                                                          cases e174
                                                          replace hx174_0 := (HB.out.cell (World.block_lt_of_cell? w _ hx174_0)).trans hx174_0
                                                          replace p174 := eq_true p174
                                                          replace q174 := eq_true q174
                                                          have p175 : 0 ≤ (x7_2 : Int) := of_decide_eq_true (by first | (with_reducible assumption) | assumption)
                                                          have q175 : x7_2 < (l1.length : Int) := of_decide_eq_true (by first | (with_reducible assumption) | assumption)
                                                          obtain ⟨ad175, e175, hx175_0⟩ := Kd.at_string HR1.out x7_2 p175 q175
                                                          cases e175
                                                          replace hx175_0 := (HB.out.cell (World.block_lt_of_cell? w _ hx175_0)).trans hx175_0
                                                          replace p175 := eq_true p175
                                                          replace q175 := eq_true q175
                                                          have p176 : 0 ≤ ((ji22) : Int) := of_decide_eq_true (by first | (with_reducible assumption) | assumption)
                                                          have q176 : (ji22) < (x5_2.length : Int) := of_decide_eq_true (by first | (with_reducible assumption) | assumption)
                                                          obtain ⟨ad176, A176_0, c176_0, e176, hx176_0, hl176_0, hi176_0⟩ := at_L2 (Kd.S_reads' HO_5.out).2.2 (ji22) p176 q176
                                                          obtain rfl : (⟨go14, 0, none⟩ : Addr) = ad176 := (by injection e176)
                                                          obtain ⟨ce176, hce176, hMe176, hcc176⟩ := Kd.S_get HO_5.out [] (ji22) p176 (by first | exact q176 | exact of_decide_eq_true (by first | (with_reducible assumption) | assumption) | (have e_ := (Kd.S_reads' HO_5.out).1; omega))
                                                          obtain ⟨ve176_0, rfl, ge176_0⟩ := hMe176
                                                          have hv176_0 := hcc176 0 _ rfl
                                                          rw [Nat.add_zero, show ((Kd.slice 3 (Kd.int .i64))).sz = 1 from rfl, Nat.mul_one] at hv176_0
                                                          replace hv176_0 := Option.some.inj (hv176_0.symm.trans hx176_0)
                                                          rw [hv176_0] at ge176_0
                                                          have HL176_0 := Aside0.mk (show Kd.R (Kd.int .i64) 3 _ _ _ _ (rd_L2 x5_2 (ji22)) from ge176_0)
                                                          clear hv176_0 ge176_0
                                                          have HX176_0 := Aside0.mk hx176_0
                                                          clear hcc176 hce176
                                                          (first | simp only [add_plain] at hx176_0 | simp only [add_at] at hx176_0 | simp only [Addr.add, Nat.zero_add] at hx176_0 | skip)
                                                          have HR176_0 := Aside0.mk hi176_0
                                                          have HC176_0 := Aside0.mk hl176_0
                                                          clear hi176_0 hl176_0
                                                          replace p176 := eq_true p176
                                                          replace q176 := eq_true q176
                                                          have ea_ := Option.some.inj (hx168_0.symm.trans hx176_0)
                                                          injection ea_ with ea_ en_ ec_
                                                          subst ea_
                                                          subst ec_
                                                          clear en_
                                                          have p177 : 0 ≤ ((ji29) : Int) := of_decide_eq_true (by first | (with_reducible assumption) | assumption)
                                                          have q177 : (ji29) < ((rd_L2 x5_2 (ji22)).length : Int) := of_decide_eq_true (by first | (with_reducible assumption) | assumption)
                                                          obtain ⟨ad177, e177, hx177_0⟩ := Kd.at_int (by repeat (first | (with_reducible exact HR176_0.out) | (with_reducible refine Kd.C_alloc ?_ _) | (with_reducible refine Kd.C_drewN ?_ _) | (with_reducible refine Kd.C_drew ?_) | exact HR176_0.out)) (ji29) p177 q177
                                                          cases e177
                                                          replace p177 := eq_true p177
                                                          replace q177 := eq_true q177
                                                          have p178 : 0 ≤ (x6_1 : Int) := of_decide_eq_true (by first | (with_reducible assumption) | assumption)
                                                          have q178 : x6_1 < (x5_2.length : Int) := of_decide_eq_true (by first | (with_reducible assumption) | assumption)
                                                          obtain ⟨ad178, A178_0, c178_0, e178, hx178_0, hl178_0, hi178_0⟩ := at_L2 (Kd.S_reads' HO_5.out).2.2 x6_1 p178 q178
                                                          obtain rfl : (⟨go14, 0, none⟩ : Addr) = ad178 := (by injection e178)
                                                          obtain ⟨ce178, hce178, hMe178, hcc178⟩ := Kd.S_get HO_5.out [] x6_1 p178 (by first | exact q178 | exact of_decide_eq_true (by first | (with_reducible assumption) | assumption) | (have e_ := (Kd.S_reads' HO_5.out).1; omega))
                                                          obtain ⟨ve178_0, rfl, ge178_0⟩ := hMe178
                                                          have hv178_0 := hcc178 0 _ rfl
                                                          rw [Nat.add_zero, show ((Kd.slice 3 (Kd.int .i64))).sz = 1 from rfl, Nat.mul_one] at hv178_0
                                                          replace hv178_0 := Option.some.inj (hv178_0.symm.trans hx178_0)
                                                          rw [hv178_0] at ge178_0
                                                          have HL178_0 := Aside0.mk (show Kd.R (Kd.int .i64) 3 _ _ _ _ (rd_L2 x5_2 x6_1) from ge178_0)
                                                          clear hv178_0 ge178_0
                                                          have HX178_0 := Aside0.mk hx178_0
                                                          clear hcc178 hce178
                                                          (first | simp only [add_plain] at hx178_0 | simp only [add_at] at hx178_0 | simp only [Addr.add, Nat.zero_add] at hx178_0 | skip)
                                                          have HR178_0 := Aside0.mk hi178_0
                                                          have HC178_0 := Aside0.mk hl178_0
                                                          clear hi178_0 hl178_0
                                                          replace p178 := eq_true p178
                                                          replace q178 := eq_true q178
                                                          have ea_ := Option.some.inj (hx170_0.symm.trans hx178_0)
                                                          injection ea_ with ea_ en_ ec_
                                                          subst ea_
                                                          subst ec_
                                                          clear en_
                                                          have p38 : 0 ≤ (x7_2 : Int) := of_decide_eq_true (by first | (with_reducible assumption) | assumption)
                                                          have q38 : (x7_2 : Int) < (((rd_L2 x5_2 x6_1).length : Int) : Int) := of_decide_eq_true (by first | (with_reducible assumption) | assumption)
                                                          obtain ⟨go38, co38, eo38, gb38, gl38, cl38, HG38⟩ := Kd.R_form HL178_0.out (by omega)
                                                          (first | cases eo38 | (injection eo38 with ea_ en_ ec_; (first | subst ea_ | (injection ea_ with ea_; subst ea_)); subst ec_; clear en_))
                                                          have GB38 := Aside0.mk gb38
                                                          have GG38 := Aside0.mk HG38
                                                          clear gb38 gl38 HG38
                                                          (first | simp only [add_plain] at hx173_0 | skip)
                                                          obtain ⟨hx38_0, hf38_0⟩ := Kd.R_celln 0 HL178_0.out (x7_2 : Int) p38 q38
                                                          replace p38 := eq_true p38
                                                          replace q38 := eq_true q38
                                                          have hq39 : (x6_1 : Int) < (x5_2.length : Int) := (by have h_ : (x6_1 : Int) < ((x5_2.length : Int) : Int) := of_decide_eq_true (by first | (with_reducible assumption) | assumption); first | exact h_ | (have e_ := (Kd.S_reads' HO_5.out).1; omega) | simpa only [List.length_set, List.length_set] using h_)
                                                          obtain ⟨oki39, ce39, hcl39, hM39, hcc39, hok39, hbk39⟩ := Kd.S_borrow HO_5.out [] (x6_1 : Int) (of_decide_eq_true (by first | (with_reducible assumption) | assumption)) hq39
                                                          obtain ⟨ve39_0, rfl, ge39_0⟩ := hM39
                                                          have hv39 := hcc39 0 _ rfl
                                                          rw [Nat.add_zero, show ((Kd.slice 3 (Kd.int .i64))).sz = 1 from rfl, Nat.mul_one] at hv39
                                                          replace hv39 := Option.some.inj (hv39.symm.trans HX178_0.out)
                                                          subst hv39
                                                          clear hcc39 hcl39
                                                          replace ge39_0 := (show Kd.R (Kd.int .i64) 3 _ _ _ _ (rd_L2 x5_2 x6_1) from ge39_0)
                                                          have HP39 := Kd.R_putg ge39_0 (x7_2 : Int) (wrap64 ((rd (rd_L2 x5_2 (ji22)) (ji29)) + 1))
                                                          go_wp2_with (first | ((with_reducible refine gate_store (t := 3) (p := 90) rfl ?_); (try (rw [drewN_self wc]; generalize hq_ : World.drewN wc _ = wc; (try (replace hx168_0 := cell_at hq_ hx168_0)); (try (replace hx169_0 := cell_at hq_ hx169_0)); (try (replace hx170_0 := cell_at hq_ hx170_0)); (try (replace hx171_0 := cell_at hq_ hx171_0)); (try (replace hx172_0 := cell_at hq_ hx172_0)); (try (replace hx173_0 := cell_at hq_ hx173_0)); (try (replace hx174_0 := cell_at hq_ hx174_0)); (try (replace hx175_0 := cell_at hq_ hx175_0)); (try (replace hx176_0 := cell_at hq_ hx176_0)); (try (replace hx177_0 := cell_at hq_ hx177_0)); (try (replace hx178_0 := cell_at hq_ hx178_0)); (try (replace hx38_0 := cell_at hq_ hx38_0)); (try (replace hf38_0 := frozen_at hq_ hf38_0)); (try (replace HX168_0 := Aside0.mk (cell_at hq_ HX168_0.out))); (try (replace HX170_0 := Aside0.mk (cell_at hq_ HX170_0.out))); (try (replace HX172_0 := Aside0.mk (cell_at hq_ HX172_0.out))); (try (replace HX176_0 := Aside0.mk (cell_at hq_ HX176_0.out))); (try (replace HX178_0 := Aside0.mk (cell_at hq_ HX178_0.out))); have n0_ := Aside0.mk (Kd.S_at hq_ HO_5.out); (try have n1_ := Aside0.mk (Kd.R_at hq_ HL198.out)); have n2_ := Aside0.mk (below_at hq_ HB.out); (try clear HL198); clear hq_ HO_5 HB; have HO_5 := n0_; (try have HL198 := n1_); have HB := n2_; (try clear n1_); clear n0_ n2_; (try (have hq39 : (x6_1 : Int) < (x5_2.length : Int) := (by have h_ : (x6_1 : Int) < ((x5_2.length : Int) : Int) := of_decide_eq_true (by first | (with_reducible assumption) | assumption); first | exact h_ | (have e_ := (Kd.S_reads' HO_5.out).1; omega) | simpa only [List.length_set, List.length_set] using h_))); (try (obtain ⟨oki39, ce39, hcl39, hM39, hcc39, hok39, hbk39⟩ := Kd.S_borrow HO_5.out [] (x6_1 : Int) (of_decide_eq_true (by first | (with_reducible assumption) | assumption)) hq39)); (try (obtain ⟨ve39_0, rfl, ge39_0⟩ := hM39)); (try (have hv39 := hcc39 0 _ rfl)); (try (rw [Nat.add_zero, show ((Kd.slice 3 (Kd.int .i64))).sz = 1 from rfl, Nat.mul_one] at hv39)); (try (replace hv39 := Option.some.inj (hv39.symm.trans HX178_0.out))); (try (subst hv39)); (try (clear hcc39 hcl39)); (try (replace ge39_0 := (show Kd.R (Kd.int .i64) 3 _ _ _ _ (rd_L2 x5_2 x6_1) from ge39_0))); (try (have HP39 := Kd.R_putg ge39_0 (x7_2 : Int) (wrap64 ((rd (rd_L2 x5_2 (ji22)) (ji29)) + 1)))))); refine store_event (t := 3) (p := 90) (v := ?vo_w40) (w1 := (wc.setCell ⟨go38, (x7_2 : Int).toNat, none⟩ (.int .i64 (wrap64 ((rd (rd_L2 x5_2 (ji22)) (ji29)) + 1))))) ?hg ?ho ?hn ?hr ?_; (case ho => rfl); (case hg => rfl); (case hn => rfl); (case hr => first | (go_simp; done) | (go_simp; rfl)); intro w40 hw; have hg : wc.grownBy w40 (some go38) := (by rw [hw]; exact HP39.2); have hz_ : Kd.R (Kd.int .i64) 3 w40 w.heap.size oki39 (.slice (some ⟨go38, 0, none⟩) (rd_L2 x5_2 x6_1).length c170_0) y179 := (by rw [hw, Ny179.out]; exact HP39.1); have hp_ : Kd.S (Kd.slice 3 (Kd.int .i64)) 35 w40 w.heap.size (fun _ => True) (.slice (some ⟨go14, 0, none⟩) x5_2.length co14) y181 := (by rw [Ny181.out]; exact hbk39 hg (fun k_ e_ => by injection e_ with e_; subst e_; exact ge39_0.1 _ rfl) (Kd.M_row hz_)); have hm_ := Kd.R_mono hz_ hok39; clear HP39 hbk39; have n0_ := Aside0.mk (hp_); have n1_ := Aside0.mk ((by rw [hw]; exact below_set (HB.out) GB38.out : Below w.heap.size w w40)); have n2_ := Aside0.mk (hm_); have n3_ := Aside0.mk ((Kd.R_reads' hm_).2.1); clear HO_5; clear HB; clear HL168_0; clear HL170_0; clear HL172_0; clear HL176_0; clear HL178_0; have HO_5 := n0_; have HB := n1_; have HL198 := n2_; have HC180 := n3_; clear n0_ n1_ n2_ n3_; clear hg hw hp_ hz_ hm_ hok39))
                                                          repeat (go_quiet (first | ((with_reducible refine gate_store (t := 3) (p := 90) rfl ?_); (try (rw [drewN_self wc]; generalize hq_ : World.drewN wc _ = wc; (try (replace hx168_0 := cell_at hq_ hx168_0)); (try (replace hx169_0 := cell_at hq_ hx169_0)); (try (replace hx170_0 := cell_at hq_ hx170_0)); (try (replace hx171_0 := cell_at hq_ hx171_0)); (try (replace hx172_0 := cell_at hq_ hx172_0)); (try (replace hx173_0 := cell_at hq_ hx173_0)); (try (replace hx174_0 := cell_at hq_ hx174_0)); (try (replace hx175_0 := cell_at hq_ hx175_0)); (try (replace hx176_0 := cell_at hq_ hx176_0)); (try (replace hx177_0 := cell_at hq_ hx177_0)); (try (replace hx178_0 := cell_at hq_ hx178_0)); (try (replace hx38_0 := cell_at hq_ hx38_0)); (try (replace hf38_0 := frozen_at hq_ hf38_0)); (try (replace HX168_0 := Aside0.mk (cell_at hq_ HX168_0.out))); (try (replace HX170_0 := Aside0.mk (cell_at hq_ HX170_0.out))); (try (replace HX172_0 := Aside0.mk (cell_at hq_ HX172_0.out))); (try (replace HX176_0 := Aside0.mk (cell_at hq_ HX176_0.out))); (try (replace HX178_0 := Aside0.mk (cell_at hq_ HX178_0.out))); have n0_ := Aside0.mk (Kd.S_at hq_ HO_5.out); (try have n1_ := Aside0.mk (Kd.R_at hq_ HL198.out)); have n2_ := Aside0.mk (below_at hq_ HB.out); (try clear HL198); clear hq_ HO_5 HB; have HO_5 := n0_; (try have HL198 := n1_); have HB := n2_; (try clear n1_); clear n0_ n2_; (try (have hq39 : (x6_1 : Int) < (x5_2.length : Int) := (by have h_ : (x6_1 : Int) < ((x5_2.length : Int) : Int) := of_decide_eq_true (by first | (with_reducible assumption) | assumption); first | exact h_ | (have e_ := (Kd.S_reads' HO_5.out).1; omega) | simpa only [List.length_set, List.length_set] using h_))); (try (obtain ⟨oki39, ce39, hcl39, hM39, hcc39, hok39, hbk39⟩ := Kd.S_borrow HO_5.out [] (x6_1 : Int) (of_decide_eq_true (by first | (with_reducible assumption) | assumption)) hq39)); (try (obtain ⟨ve39_0, rfl, ge39_0⟩ := hM39)); (try (have hv39 := hcc39 0 _ rfl)); (try (rw [Nat.add_zero, show ((Kd.slice 3 (Kd.int .i64))).sz = 1 from rfl, Nat.mul_one] at hv39)); (try (replace hv39 := Option.some.inj (hv39.symm.trans HX178_0.out))); (try (subst hv39)); (try (clear hcc39 hcl39)); (try (replace ge39_0 := (show Kd.R (Kd.int .i64) 3 _ _ _ _ (rd_L2 x5_2 x6_1) from ge39_0))); (try (have HP39 := Kd.R_putg ge39_0 (x7_2 : Int) (wrap64 ((rd (rd_L2 x5_2 (ji22)) (ji29)) + 1)))))); refine store_event (t := 3) (p := 90) (v := ?vo_w40) (w1 := (wc.setCell ⟨go38, (x7_2 : Int).toNat, none⟩ (.int .i64 (wrap64 ((rd (rd_L2 x5_2 (ji22)) (ji29)) + 1))))) ?hg ?ho ?hn ?hr ?_; (case ho => rfl); (case hg => rfl); (case hn => rfl); (case hr => first | (go_simp; done) | (go_simp; rfl)); intro w40 hw; have hg : wc.grownBy w40 (some go38) := (by rw [hw]; exact HP39.2); have hz_ : Kd.R (Kd.int .i64) 3 w40 w.heap.size oki39 (.slice (some ⟨go38, 0, none⟩) (rd_L2 x5_2 x6_1).length c170_0) y179 := (by rw [hw, Ny179.out]; exact HP39.1); have hp_ : Kd.S (Kd.slice 3 (Kd.int .i64)) 35 w40 w.heap.size (fun _ => True) (.slice (some ⟨go14, 0, none⟩) x5_2.length co14) y181 := (by rw [Ny181.out]; exact hbk39 hg (fun k_ e_ => by injection e_ with e_; subst e_; exact ge39_0.1 _ rfl) (Kd.M_row hz_)); have hm_ := Kd.R_mono hz_ hok39; clear HP39 hbk39; have n0_ := Aside0.mk (hp_); have n1_ := Aside0.mk ((by rw [hw]; exact below_set (HB.out) GB38.out : Below w.heap.size w w40)); have n2_ := Aside0.mk (hm_); have n3_ := Aside0.mk ((Kd.R_reads' hm_).2.1); clear HO_5; clear HB; clear HL168_0; clear HL170_0; clear HL172_0; clear HL176_0; clear HL178_0; have HO_5 := n0_; have HB := n1_; have HL198 := n2_; have HC180 := n3_; clear n0_ n1_ n2_ n3_; clear hg hw hp_ hz_ hm_ hok39)); try go_wp2_with (first | ((with_reducible refine gate_store (t := 3) (p := 90) rfl ?_); (try (rw [drewN_self wc]; generalize hq_ : World.drewN wc _ = wc; (try (replace hx168_0 := cell_at hq_ hx168_0)); (try (replace hx169_0 := cell_at hq_ hx169_0)); (try (replace hx170_0 := cell_at hq_ hx170_0)); (try (replace hx171_0 := cell_at hq_ hx171_0)); (try (replace hx172_0 := cell_at hq_ hx172_0)); (try (replace hx173_0 := cell_at hq_ hx173_0)); (try (replace hx174_0 := cell_at hq_ hx174_0)); (try (replace hx175_0 := cell_at hq_ hx175_0)); (try (replace hx176_0 := cell_at hq_ hx176_0)); (try (replace hx177_0 := cell_at hq_ hx177_0)); (try (replace hx178_0 := cell_at hq_ hx178_0)); (try (replace hx38_0 := cell_at hq_ hx38_0)); (try (replace hf38_0 := frozen_at hq_ hf38_0)); (try (replace HX168_0 := Aside0.mk (cell_at hq_ HX168_0.out))); (try (replace HX170_0 := Aside0.mk (cell_at hq_ HX170_0.out))); (try (replace HX172_0 := Aside0.mk (cell_at hq_ HX172_0.out))); (try (replace HX176_0 := Aside0.mk (cell_at hq_ HX176_0.out))); (try (replace HX178_0 := Aside0.mk (cell_at hq_ HX178_0.out))); have n0_ := Aside0.mk (Kd.S_at hq_ HO_5.out); (try have n1_ := Aside0.mk (Kd.R_at hq_ HL198.out)); have n2_ := Aside0.mk (below_at hq_ HB.out); (try clear HL198); clear hq_ HO_5 HB; have HO_5 := n0_; (try have HL198 := n1_); have HB := n2_; (try clear n1_); clear n0_ n2_; (try (have hq39 : (x6_1 : Int) < (x5_2.length : Int) := (by have h_ : (x6_1 : Int) < ((x5_2.length : Int) : Int) := of_decide_eq_true (by first | (with_reducible assumption) | assumption); first | exact h_ | (have e_ := (Kd.S_reads' HO_5.out).1; omega) | simpa only [List.length_set, List.length_set] using h_))); (try (obtain ⟨oki39, ce39, hcl39, hM39, hcc39, hok39, hbk39⟩ := Kd.S_borrow HO_5.out [] (x6_1 : Int) (of_decide_eq_true (by first | (with_reducible assumption) | assumption)) hq39)); (try (obtain ⟨ve39_0, rfl, ge39_0⟩ := hM39)); (try (have hv39 := hcc39 0 _ rfl)); (try (rw [Nat.add_zero, show ((Kd.slice 3 (Kd.int .i64))).sz = 1 from rfl, Nat.mul_one] at hv39)); (try (replace hv39 := Option.some.inj (hv39.symm.trans HX178_0.out))); (try (subst hv39)); (try (clear hcc39 hcl39)); (try (replace ge39_0 := (show Kd.R (Kd.int .i64) 3 _ _ _ _ (rd_L2 x5_2 x6_1) from ge39_0))); (try (have HP39 := Kd.R_putg ge39_0 (x7_2 : Int) (wrap64 ((rd (rd_L2 x5_2 (ji22)) (ji29)) + 1)))))); refine store_event (t := 3) (p := 90) (v := ?vo_w40) (w1 := (wc.setCell ⟨go38, (x7_2 : Int).toNat, none⟩ (.int .i64 (wrap64 ((rd (rd_L2 x5_2 (ji22)) (ji29)) + 1))))) ?hg ?ho ?hn ?hr ?_; (case ho => rfl); (case hg => rfl); (case hn => rfl); (case hr => first | (go_simp; done) | (go_simp; rfl)); intro w40 hw; have hg : wc.grownBy w40 (some go38) := (by rw [hw]; exact HP39.2); have hz_ : Kd.R (Kd.int .i64) 3 w40 w.heap.size oki39 (.slice (some ⟨go38, 0, none⟩) (rd_L2 x5_2 x6_1).length c170_0) y179 := (by rw [hw, Ny179.out]; exact HP39.1); have hp_ : Kd.S (Kd.slice 3 (Kd.int .i64)) 35 w40 w.heap.size (fun _ => True) (.slice (some ⟨go14, 0, none⟩) x5_2.length co14) y181 := (by rw [Ny181.out]; exact hbk39 hg (fun k_ e_ => by injection e_ with e_; subst e_; exact ge39_0.1 _ rfl) (Kd.M_row hz_)); have hm_ := Kd.R_mono hz_ hok39; clear HP39 hbk39; have n0_ := Aside0.mk (hp_); have n1_ := Aside0.mk ((by rw [hw]; exact below_set (HB.out) GB38.out : Below w.heap.size w w40)); have n2_ := Aside0.mk (hm_); have n3_ := Aside0.mk ((Kd.R_reads' hm_).2.1); clear HO_5; clear HB; clear HL168_0; clear HL170_0; clear HL172_0; clear HL176_0; clear HL178_0; have HO_5 := n0_; have HB := n1_; have HL198 := n2_; have HC180 := n3_; clear n0_ n1_ n2_ n3_; clear hg hw hp_ hz_ hm_ hok39)))
                                                          (try simp only [← hl5_2])
                                                          go_roundg kj18
                                                          case measure => have := HK1.out; have := HK2.out; have := HJ18.out; omega
                                                          case rel => exact ⟨(y181), (wrap64 (x7_2 - 1)), (by first | rfl | (simp; done) | (simp [*]; done)), H', ⟨by have := HK1.out; have := HK2.out; have := HJ18.out; omega⟩, ⟨by (try simp only [hl5_2]); (with_reducible repeat (first | apply Kd.S_alloc | apply Kd.S_drewN | apply Kd.S_drew)); exact HO_5.out⟩, ⟨by repeat (first | (with_reducible first | exact HB.out | apply below_alloc | apply pw_below_drewN | apply below_drew1) | exact HB.out)⟩⟩
                                                        · rw [if_neg c37] at H
                                                          exact absurd H (by simp)
                                                      · rw [if_neg c36] at H
                                                        exact absurd H (by simp)
                                                    · rw [if_neg c35] at H
                                                      have c35b0 : ((rdOf ByteArray.empty l0 x6_1).toList == (rdOf ByteArray.empty l1 x7_2).toList) = false := beq_eq_false_iff_ne.mpr c35
                                                      have c35b1 : ((rdOf ByteArray.empty l0 x6_1).toList != (rdOf ByteArray.empty l1 x7_2).toList) = true := bne_iff_ne.mpr c35
                                                      by_cases c41 : x7_2 < ((rd_L2 x5_2 x6_1).length : Int)
                                                      · rw [if_pos c41] at H
                                                        have c41b0 : decide (x7_2 < ((rd_L2 x5_2 x6_1).length : Int)) = true := decide_eq_true c41
                                                        clear c41
                                                        obtain ⟨y183, hy183⟩ : ∃ y_ : List Int, y_ = ((rd_L2 x5_2 x6_1).set (x7_2 : Int).toNat (rd (rd_L2 x5_2 x6_1) (ji29))) := ⟨_, rfl⟩
                                                        replace H : (spec_l04Table.l1 kj18 l0 l1 (x5_2.set (x6_1 : Int).toNat y183) x6_1 (wrap64 (x7_2 - 1))) = some r := by first | (rw [hy183]; with_reducible exact H) | (have H2_ := (Option.bind_some _ _).symm.trans H; rw [hy183]; with_reducible exact H2_) | (have H2_ := (Option.bind_some _ _).symm.trans H; with_reducible exact H2_) | with_reducible exact H | (rw [hy183]; exact H) | exact H
                                                        have Ny183 := Aside0.mk hy183
                                                        clear hy183
                                                        obtain ⟨y185, hy185⟩ : ∃ y_ : List (List Int), y_ = (x5_2.set (x6_1 : Int).toNat y183) := ⟨_, rfl⟩
                                                        replace H : (spec_l04Table.l1 kj18 l0 l1 y185 x6_1 (wrap64 (x7_2 - 1))) = some r := by first | (rw [hy185]; with_reducible exact H) | (have H2_ := (Option.bind_some _ _).symm.trans H; rw [hy185]; with_reducible exact H2_) | (have H2_ := (Option.bind_some _ _).symm.trans H; with_reducible exact H2_) | with_reducible exact H | (rw [hy185]; exact H) | exact H
                                                        have Ny185 := Aside0.mk hy185
                                                        clear hy185
                                                        have H' := Aside0.mk H
                                                        clear H
                                                        have p168 : 0 ≤ ((ji22) : Int) := of_decide_eq_true (by first | (with_reducible assumption) | assumption)
                                                        have q168 : (ji22) < (x5_2.length : Int) := of_decide_eq_true (by first | (with_reducible assumption) | assumption)
                                                        obtain ⟨ad168, A168_0, c168_0, e168, hx168_0, hl168_0, hi168_0⟩ := at_L2 (Kd.S_reads' HO_5.out).2.2 (ji22) p168 q168
                                                        obtain rfl : (⟨go14, 0, none⟩ : Addr) = ad168 := (by injection e168)
                                                        obtain ⟨ce168, hce168, hMe168, hcc168⟩ := Kd.S_get HO_5.out [] (ji22) p168 (by first | exact q168 | exact of_decide_eq_true (by first | (with_reducible assumption) | assumption) | (have e_ := (Kd.S_reads' HO_5.out).1; omega))
                                                        obtain ⟨ve168_0, rfl, ge168_0⟩ := hMe168
                                                        have hv168_0 := hcc168 0 _ rfl
                                                        rw [Nat.add_zero, show ((Kd.slice 3 (Kd.int .i64))).sz = 1 from rfl, Nat.mul_one] at hv168_0
                                                        replace hv168_0 := Option.some.inj (hv168_0.symm.trans hx168_0)
                                                        rw [hv168_0] at ge168_0
                                                        have HL168_0 := Aside0.mk (show Kd.R (Kd.int .i64) 3 _ _ _ _ (rd_L2 x5_2 (ji22)) from ge168_0)
                                                        clear hv168_0 ge168_0
                                                        have HX168_0 := Aside0.mk hx168_0
                                                        clear hcc168 hce168
                                                        (first | simp only [add_plain] at hx168_0 | simp only [add_at] at hx168_0 | simp only [Addr.add, Nat.zero_add] at hx168_0 | skip)
                                                        have HR168_0 := Aside0.mk hi168_0
                                                        have HC168_0 := Aside0.mk hl168_0
                                                        clear hi168_0 hl168_0
                                                        replace p168 := eq_true p168
                                                        replace q168 := eq_true q168
                                                        have p169 : 0 ≤ (x7_2 : Int) := of_decide_eq_true (by first | (with_reducible assumption) | assumption)
                                                        have q169 : x7_2 < ((rd_L2 x5_2 (ji22)).length : Int) := of_decide_eq_true (by first | (with_reducible assumption) | assumption)
                                                        obtain ⟨ad169, e169, hx169_0⟩ := Kd.at_int (by repeat (first | (with_reducible exact HR168_0.out) | (with_reducible refine Kd.C_alloc ?_ _) | (with_reducible refine Kd.C_drewN ?_ _) | (with_reducible refine Kd.C_drew ?_) | exact HR168_0.out)) x7_2 p169 q169
                                                        cases e169
                                                        replace p169 := eq_true p169
                                                        replace q169 := eq_true q169
                                                        have p170 : 0 ≤ (x6_1 : Int) := of_decide_eq_true (by first | (with_reducible assumption) | assumption)
                                                        have q170 : x6_1 < (x5_2.length : Int) := of_decide_eq_true (by first | (with_reducible assumption) | assumption)
                                                        obtain ⟨ad170, A170_0, c170_0, e170, hx170_0, hl170_0, hi170_0⟩ := at_L2 (Kd.S_reads' HO_5.out).2.2 x6_1 p170 q170
                                                        obtain rfl : (⟨go14, 0, none⟩ : Addr) = ad170 := (by injection e170)
                                                        obtain ⟨ce170, hce170, hMe170, hcc170⟩ := Kd.S_get HO_5.out [] x6_1 p170 (by first | exact q170 | exact of_decide_eq_true (by first | (with_reducible assumption) | assumption) | (have e_ := (Kd.S_reads' HO_5.out).1; omega))
                                                        obtain ⟨ve170_0, rfl, ge170_0⟩ := hMe170
                                                        have hv170_0 := hcc170 0 _ rfl
                                                        rw [Nat.add_zero, show ((Kd.slice 3 (Kd.int .i64))).sz = 1 from rfl, Nat.mul_one] at hv170_0
                                                        replace hv170_0 := Option.some.inj (hv170_0.symm.trans hx170_0)
                                                        rw [hv170_0] at ge170_0
                                                        have HL170_0 := Aside0.mk (show Kd.R (Kd.int .i64) 3 _ _ _ _ (rd_L2 x5_2 x6_1) from ge170_0)
                                                        clear hv170_0 ge170_0
                                                        have HX170_0 := Aside0.mk hx170_0
                                                        clear hcc170 hce170
                                                        (first | simp only [add_plain] at hx170_0 | simp only [add_at] at hx170_0 | simp only [Addr.add, Nat.zero_add] at hx170_0 | skip)
                                                        have HR170_0 := Aside0.mk hi170_0
                                                        have HC170_0 := Aside0.mk hl170_0
                                                        clear hi170_0 hl170_0
                                                        replace p170 := eq_true p170
                                                        replace q170 := eq_true q170
                                                        have p171 : 0 ≤ ((ji29) : Int) := of_decide_eq_true (by first | (with_reducible assumption) | assumption)
                                                        have q171 : (ji29) < ((rd_L2 x5_2 x6_1).length : Int) := of_decide_eq_true (by first | (with_reducible assumption) | assumption)
                                                        obtain ⟨ad171, e171, hx171_0⟩ := Kd.at_int (by repeat (first | (with_reducible exact HR170_0.out) | (with_reducible refine Kd.C_alloc ?_ _) | (with_reducible refine Kd.C_drewN ?_ _) | (with_reducible refine Kd.C_drew ?_) | exact HR170_0.out)) (ji29) p171 q171
                                                        cases e171
                                                        replace p171 := eq_true p171
                                                        replace q171 := eq_true q171
                                                        have p172 : 0 ≤ (x6_1 : Int) := of_decide_eq_true (by first | (with_reducible assumption) | assumption)
                                                        have q172 : x6_1 < (x5_2.length : Int) := of_decide_eq_true (by first | (with_reducible assumption) | assumption)
                                                        obtain ⟨ad172, A172_0, c172_0, e172, hx172_0, hl172_0, hi172_0⟩ := at_L2 (Kd.S_reads' HO_5.out).2.2 x6_1 p172 q172
                                                        obtain rfl : (⟨go14, 0, none⟩ : Addr) = ad172 := (by injection e172)
                                                        obtain ⟨ce172, hce172, hMe172, hcc172⟩ := Kd.S_get HO_5.out [] x6_1 p172 (by first | exact q172 | exact of_decide_eq_true (by first | (with_reducible assumption) | assumption) | (have e_ := (Kd.S_reads' HO_5.out).1; omega))
                                                        obtain ⟨ve172_0, rfl, ge172_0⟩ := hMe172
                                                        have hv172_0 := hcc172 0 _ rfl
                                                        rw [Nat.add_zero, show ((Kd.slice 3 (Kd.int .i64))).sz = 1 from rfl, Nat.mul_one] at hv172_0
                                                        replace hv172_0 := Option.some.inj (hv172_0.symm.trans hx172_0)
                                                        rw [hv172_0] at ge172_0
                                                        have HL172_0 := Aside0.mk (show Kd.R (Kd.int .i64) 3 _ _ _ _ (rd_L2 x5_2 x6_1) from ge172_0)
                                                        clear hv172_0 ge172_0
                                                        have HX172_0 := Aside0.mk hx172_0
                                                        clear hcc172 hce172
                                                        (first | simp only [add_plain] at hx172_0 | simp only [add_at] at hx172_0 | simp only [Addr.add, Nat.zero_add] at hx172_0 | skip)
                                                        have HR172_0 := Aside0.mk hi172_0
                                                        have HC172_0 := Aside0.mk hl172_0
                                                        clear hi172_0 hl172_0
                                                        replace p172 := eq_true p172
                                                        replace q172 := eq_true q172
                                                        have ea_ := Option.some.inj (hx170_0.symm.trans hx172_0)
                                                        injection ea_ with ea_ en_ ec_
                                                        subst ea_
                                                        subst ec_
                                                        clear en_
                                                        have p173 : 0 ≤ ((ji29) : Int) := of_decide_eq_true (by first | (with_reducible assumption) | assumption)
                                                        have q173 : (ji29) < ((rd_L2 x5_2 x6_1).length : Int) := of_decide_eq_true (by first | (with_reducible assumption) | assumption)
                                                        obtain ⟨ad173, e173, hx173_0⟩ := Kd.at_int (by repeat (first | (with_reducible exact HR172_0.out) | (with_reducible refine Kd.C_alloc ?_ _) | (with_reducible refine Kd.C_drewN ?_ _) | (with_reducible refine Kd.C_drew ?_) | exact HR172_0.out)) (ji29) p173 q173
                                                        cases e173
                                                        replace p173 := eq_true p173
                                                        replace q173 := eq_true q173
                                                        have p174 : 0 ≤ (x6_1 : Int) := of_decide_eq_true (by first | (with_reducible assumption) | assumption)
                                                        have q174 : x6_1 < (l0.length : Int) := of_decide_eq_true (by first | (with_reducible assumption) | assumption)
                                                        obtain ⟨ad174, e174, hx174_0⟩ := Kd.at_string HR0.out x6_1 p174 q174
                                                        cases e174
                                                        replace hx174_0 := (HB.out.cell (World.block_lt_of_cell? w _ hx174_0)).trans hx174_0
                                                        replace p174 := eq_true p174
                                                        replace q174 := eq_true q174
                                                        have p175 : 0 ≤ (x7_2 : Int) := of_decide_eq_true (by first | (with_reducible assumption) | assumption)
                                                        have q175 : x7_2 < (l1.length : Int) := of_decide_eq_true (by first | (with_reducible assumption) | assumption)
                                                        obtain ⟨ad175, e175, hx175_0⟩ := Kd.at_string HR1.out x7_2 p175 q175
                                                        cases e175
                                                        replace hx175_0 := (HB.out.cell (World.block_lt_of_cell? w _ hx175_0)).trans hx175_0
                                                        replace p175 := eq_true p175
                                                        replace q175 := eq_true q175
                                                        have p182 : 0 ≤ (x6_1 : Int) := of_decide_eq_true (by first | (with_reducible assumption) | assumption)
                                                        have q182 : x6_1 < (x5_2.length : Int) := of_decide_eq_true (by first | (with_reducible assumption) | assumption)
                                                        obtain ⟨ad182, A182_0, c182_0, e182, hx182_0, hl182_0, hi182_0⟩ := at_L2 (Kd.S_reads' HO_5.out).2.2 x6_1 p182 q182
                                                        obtain rfl : (⟨go14, 0, none⟩ : Addr) = ad182 := (by injection e182)
                                                        obtain ⟨ce182, hce182, hMe182, hcc182⟩ := Kd.S_get HO_5.out [] x6_1 p182 (by first | exact q182 | exact of_decide_eq_true (by first | (with_reducible assumption) | assumption) | (have e_ := (Kd.S_reads' HO_5.out).1; omega))
                                                        obtain ⟨ve182_0, rfl, ge182_0⟩ := hMe182
                                                        have hv182_0 := hcc182 0 _ rfl
                                                        rw [Nat.add_zero, show ((Kd.slice 3 (Kd.int .i64))).sz = 1 from rfl, Nat.mul_one] at hv182_0
                                                        replace hv182_0 := Option.some.inj (hv182_0.symm.trans hx182_0)
                                                        rw [hv182_0] at ge182_0
                                                        have HL182_0 := Aside0.mk (show Kd.R (Kd.int .i64) 3 _ _ _ _ (rd_L2 x5_2 x6_1) from ge182_0)
                                                        clear hv182_0 ge182_0
                                                        have HX182_0 := Aside0.mk hx182_0
                                                        clear hcc182 hce182
                                                        (first | simp only [add_plain] at hx182_0 | simp only [add_at] at hx182_0 | simp only [Addr.add, Nat.zero_add] at hx182_0 | skip)
                                                        have HR182_0 := Aside0.mk hi182_0
                                                        have HC182_0 := Aside0.mk hl182_0
                                                        clear hi182_0 hl182_0
                                                        replace p182 := eq_true p182
                                                        replace q182 := eq_true q182
                                                        have ea_ := Option.some.inj (hx170_0.symm.trans hx182_0)
                                                        injection ea_ with ea_ en_ ec_
                                                        subst ea_
                                                        subst ec_
                                                        clear en_
                                                        have p42 : 0 ≤ (x7_2 : Int) := of_decide_eq_true (by first | (with_reducible assumption) | assumption)
                                                        have q42 : (x7_2 : Int) < (((rd_L2 x5_2 x6_1).length : Int) : Int) := of_decide_eq_true (by first | (with_reducible assumption) | assumption)
                                                        obtain ⟨go42, co42, eo42, gb42, gl42, cl42, HG42⟩ := Kd.R_form HL182_0.out (by omega)
                                                        (first | cases eo42 | (injection eo42 with ea_ en_ ec_; (first | subst ea_ | (injection ea_ with ea_; subst ea_)); subst ec_; clear en_))
                                                        have GB42 := Aside0.mk gb42
                                                        have GG42 := Aside0.mk HG42
                                                        clear gb42 gl42 HG42
                                                        (first | simp only [add_plain] at hx173_0 | skip)
                                                        obtain ⟨hx42_0, hf42_0⟩ := Kd.R_celln 0 HL182_0.out (x7_2 : Int) p42 q42
                                                        replace p42 := eq_true p42
                                                        replace q42 := eq_true q42
                                                        have hq43 : (x6_1 : Int) < (x5_2.length : Int) := (by have h_ : (x6_1 : Int) < ((x5_2.length : Int) : Int) := of_decide_eq_true (by first | (with_reducible assumption) | assumption); first | exact h_ | (have e_ := (Kd.S_reads' HO_5.out).1; omega) | simpa only [List.length_set, List.length_set] using h_)
                                                        obtain ⟨oki43, ce43, hcl43, hM43, hcc43, hok43, hbk43⟩ := Kd.S_borrow HO_5.out [] (x6_1 : Int) (of_decide_eq_true (by first | (with_reducible assumption) | assumption)) hq43
                                                        obtain ⟨ve43_0, rfl, ge43_0⟩ := hM43
                                                        have hv43 := hcc43 0 _ rfl
                                                        rw [Nat.add_zero, show ((Kd.slice 3 (Kd.int .i64))).sz = 1 from rfl, Nat.mul_one] at hv43
                                                        replace hv43 := Option.some.inj (hv43.symm.trans HX182_0.out)
                                                        subst hv43
                                                        clear hcc43 hcl43
                                                        replace ge43_0 := (show Kd.R (Kd.int .i64) 3 _ _ _ _ (rd_L2 x5_2 x6_1) from ge43_0)
                                                        have HP43 := Kd.R_putg ge43_0 (x7_2 : Int) (rd (rd_L2 x5_2 x6_1) (ji29))
                                                        go_wp2_with (first | ((with_reducible refine gate_store (t := 3) (p := 90) rfl ?_); (try (rw [drewN_self wc]; generalize hq_ : World.drewN wc _ = wc; (try (replace hx168_0 := cell_at hq_ hx168_0)); (try (replace hx169_0 := cell_at hq_ hx169_0)); (try (replace hx170_0 := cell_at hq_ hx170_0)); (try (replace hx171_0 := cell_at hq_ hx171_0)); (try (replace hx172_0 := cell_at hq_ hx172_0)); (try (replace hx173_0 := cell_at hq_ hx173_0)); (try (replace hx174_0 := cell_at hq_ hx174_0)); (try (replace hx175_0 := cell_at hq_ hx175_0)); (try (replace hx182_0 := cell_at hq_ hx182_0)); (try (replace hx42_0 := cell_at hq_ hx42_0)); (try (replace hf42_0 := frozen_at hq_ hf42_0)); (try (replace HX168_0 := Aside0.mk (cell_at hq_ HX168_0.out))); (try (replace HX170_0 := Aside0.mk (cell_at hq_ HX170_0.out))); (try (replace HX172_0 := Aside0.mk (cell_at hq_ HX172_0.out))); (try (replace HX178_0 := Aside0.mk (cell_at hq_ HX178_0.out))); (try (replace HX182_0 := Aside0.mk (cell_at hq_ HX182_0.out))); have n0_ := Aside0.mk (Kd.S_at hq_ HO_5.out); (try have n1_ := Aside0.mk (Kd.R_at hq_ HL199.out)); have n2_ := Aside0.mk (below_at hq_ HB.out); (try clear HL199); clear hq_ HO_5 HB; have HO_5 := n0_; (try have HL199 := n1_); have HB := n2_; (try clear n1_); clear n0_ n2_; (try (have hq43 : (x6_1 : Int) < (x5_2.length : Int) := (by have h_ : (x6_1 : Int) < ((x5_2.length : Int) : Int) := of_decide_eq_true (by first | (with_reducible assumption) | assumption); first | exact h_ | (have e_ := (Kd.S_reads' HO_5.out).1; omega) | simpa only [List.length_set, List.length_set] using h_))); (try (obtain ⟨oki43, ce43, hcl43, hM43, hcc43, hok43, hbk43⟩ := Kd.S_borrow HO_5.out [] (x6_1 : Int) (of_decide_eq_true (by first | (with_reducible assumption) | assumption)) hq43)); (try (obtain ⟨ve43_0, rfl, ge43_0⟩ := hM43)); (try (have hv43 := hcc43 0 _ rfl)); (try (rw [Nat.add_zero, show ((Kd.slice 3 (Kd.int .i64))).sz = 1 from rfl, Nat.mul_one] at hv43)); (try (replace hv43 := Option.some.inj (hv43.symm.trans HX182_0.out))); (try (subst hv43)); (try (clear hcc43 hcl43)); (try (replace ge43_0 := (show Kd.R (Kd.int .i64) 3 _ _ _ _ (rd_L2 x5_2 x6_1) from ge43_0))); (try (have HP43 := Kd.R_putg ge43_0 (x7_2 : Int) (rd (rd_L2 x5_2 x6_1) (ji29)))))); refine store_event (t := 3) (p := 90) (v := ?vo_w44) (w1 := (wc.setCell ⟨go42, (x7_2 : Int).toNat, none⟩ (.int .i64 (rd (rd_L2 x5_2 x6_1) (ji29))))) ?hg ?ho ?hn ?hr ?_; (case ho => rfl); (case hg => rfl); (case hn => rfl); (case hr => first | (go_simp; done) | (go_simp; rfl)); intro w44 hw; have hg : wc.grownBy w44 (some go42) := (by rw [hw]; exact HP43.2); have hz_ : Kd.R (Kd.int .i64) 3 w44 w.heap.size oki43 (.slice (some ⟨go42, 0, none⟩) (rd_L2 x5_2 x6_1).length c170_0) y183 := (by rw [hw, Ny183.out]; exact HP43.1); have hp_ : Kd.S (Kd.slice 3 (Kd.int .i64)) 35 w44 w.heap.size (fun _ => True) (.slice (some ⟨go14, 0, none⟩) x5_2.length co14) y185 := (by rw [Ny185.out]; exact hbk43 hg (fun k_ e_ => by injection e_ with e_; subst e_; exact ge43_0.1 _ rfl) (Kd.M_row hz_)); have hm_ := Kd.R_mono hz_ hok43; clear HP43 hbk43; have n0_ := Aside0.mk (hp_); have n1_ := Aside0.mk ((by rw [hw]; exact below_set (HB.out) GB42.out : Below w.heap.size w w44)); have n2_ := Aside0.mk (hm_); have n3_ := Aside0.mk ((Kd.R_reads' hm_).2.1); clear HO_5; clear HB; clear HL168_0; clear HL170_0; clear HL172_0; clear HL182_0; have HO_5 := n0_; have HB := n1_; have HL199 := n2_; have HC184 := n3_; clear n0_ n1_ n2_ n3_; clear hg hw hp_ hz_ hm_ hok43))
                                                        repeat (go_quiet (first | ((with_reducible refine gate_store (t := 3) (p := 90) rfl ?_); (try (rw [drewN_self wc]; generalize hq_ : World.drewN wc _ = wc; (try (replace hx168_0 := cell_at hq_ hx168_0)); (try (replace hx169_0 := cell_at hq_ hx169_0)); (try (replace hx170_0 := cell_at hq_ hx170_0)); (try (replace hx171_0 := cell_at hq_ hx171_0)); (try (replace hx172_0 := cell_at hq_ hx172_0)); (try (replace hx173_0 := cell_at hq_ hx173_0)); (try (replace hx174_0 := cell_at hq_ hx174_0)); (try (replace hx175_0 := cell_at hq_ hx175_0)); (try (replace hx182_0 := cell_at hq_ hx182_0)); (try (replace hx42_0 := cell_at hq_ hx42_0)); (try (replace hf42_0 := frozen_at hq_ hf42_0)); (try (replace HX168_0 := Aside0.mk (cell_at hq_ HX168_0.out))); (try (replace HX170_0 := Aside0.mk (cell_at hq_ HX170_0.out))); (try (replace HX172_0 := Aside0.mk (cell_at hq_ HX172_0.out))); (try (replace HX178_0 := Aside0.mk (cell_at hq_ HX178_0.out))); (try (replace HX182_0 := Aside0.mk (cell_at hq_ HX182_0.out))); have n0_ := Aside0.mk (Kd.S_at hq_ HO_5.out); (try have n1_ := Aside0.mk (Kd.R_at hq_ HL199.out)); have n2_ := Aside0.mk (below_at hq_ HB.out); (try clear HL199); clear hq_ HO_5 HB; have HO_5 := n0_; (try have HL199 := n1_); have HB := n2_; (try clear n1_); clear n0_ n2_; (try (have hq43 : (x6_1 : Int) < (x5_2.length : Int) := (by have h_ : (x6_1 : Int) < ((x5_2.length : Int) : Int) := of_decide_eq_true (by first | (with_reducible assumption) | assumption); first | exact h_ | (have e_ := (Kd.S_reads' HO_5.out).1; omega) | simpa only [List.length_set, List.length_set] using h_))); (try (obtain ⟨oki43, ce43, hcl43, hM43, hcc43, hok43, hbk43⟩ := Kd.S_borrow HO_5.out [] (x6_1 : Int) (of_decide_eq_true (by first | (with_reducible assumption) | assumption)) hq43)); (try (obtain ⟨ve43_0, rfl, ge43_0⟩ := hM43)); (try (have hv43 := hcc43 0 _ rfl)); (try (rw [Nat.add_zero, show ((Kd.slice 3 (Kd.int .i64))).sz = 1 from rfl, Nat.mul_one] at hv43)); (try (replace hv43 := Option.some.inj (hv43.symm.trans HX182_0.out))); (try (subst hv43)); (try (clear hcc43 hcl43)); (try (replace ge43_0 := (show Kd.R (Kd.int .i64) 3 _ _ _ _ (rd_L2 x5_2 x6_1) from ge43_0))); (try (have HP43 := Kd.R_putg ge43_0 (x7_2 : Int) (rd (rd_L2 x5_2 x6_1) (ji29)))))); refine store_event (t := 3) (p := 90) (v := ?vo_w44) (w1 := (wc.setCell ⟨go42, (x7_2 : Int).toNat, none⟩ (.int .i64 (rd (rd_L2 x5_2 x6_1) (ji29))))) ?hg ?ho ?hn ?hr ?_; (case ho => rfl); (case hg => rfl); (case hn => rfl); (case hr => first | (go_simp; done) | (go_simp; rfl)); intro w44 hw; have hg : wc.grownBy w44 (some go42) := (by rw [hw]; exact HP43.2); have hz_ : Kd.R (Kd.int .i64) 3 w44 w.heap.size oki43 (.slice (some ⟨go42, 0, none⟩) (rd_L2 x5_2 x6_1).length c170_0) y183 := (by rw [hw, Ny183.out]; exact HP43.1); have hp_ : Kd.S (Kd.slice 3 (Kd.int .i64)) 35 w44 w.heap.size (fun _ => True) (.slice (some ⟨go14, 0, none⟩) x5_2.length co14) y185 := (by rw [Ny185.out]; exact hbk43 hg (fun k_ e_ => by injection e_ with e_; subst e_; exact ge43_0.1 _ rfl) (Kd.M_row hz_)); have hm_ := Kd.R_mono hz_ hok43; clear HP43 hbk43; have n0_ := Aside0.mk (hp_); have n1_ := Aside0.mk ((by rw [hw]; exact below_set (HB.out) GB42.out : Below w.heap.size w w44)); have n2_ := Aside0.mk (hm_); have n3_ := Aside0.mk ((Kd.R_reads' hm_).2.1); clear HO_5; clear HB; clear HL168_0; clear HL170_0; clear HL172_0; clear HL182_0; have HO_5 := n0_; have HB := n1_; have HL199 := n2_; have HC184 := n3_; clear n0_ n1_ n2_ n3_; clear hg hw hp_ hz_ hm_ hok43)); try go_wp2_with (first | ((with_reducible refine gate_store (t := 3) (p := 90) rfl ?_); (try (rw [drewN_self wc]; generalize hq_ : World.drewN wc _ = wc; (try (replace hx168_0 := cell_at hq_ hx168_0)); (try (replace hx169_0 := cell_at hq_ hx169_0)); (try (replace hx170_0 := cell_at hq_ hx170_0)); (try (replace hx171_0 := cell_at hq_ hx171_0)); (try (replace hx172_0 := cell_at hq_ hx172_0)); (try (replace hx173_0 := cell_at hq_ hx173_0)); (try (replace hx174_0 := cell_at hq_ hx174_0)); (try (replace hx175_0 := cell_at hq_ hx175_0)); (try (replace hx182_0 := cell_at hq_ hx182_0)); (try (replace hx42_0 := cell_at hq_ hx42_0)); (try (replace hf42_0 := frozen_at hq_ hf42_0)); (try (replace HX168_0 := Aside0.mk (cell_at hq_ HX168_0.out))); (try (replace HX170_0 := Aside0.mk (cell_at hq_ HX170_0.out))); (try (replace HX172_0 := Aside0.mk (cell_at hq_ HX172_0.out))); (try (replace HX178_0 := Aside0.mk (cell_at hq_ HX178_0.out))); (try (replace HX182_0 := Aside0.mk (cell_at hq_ HX182_0.out))); have n0_ := Aside0.mk (Kd.S_at hq_ HO_5.out); (try have n1_ := Aside0.mk (Kd.R_at hq_ HL199.out)); have n2_ := Aside0.mk (below_at hq_ HB.out); (try clear HL199); clear hq_ HO_5 HB; have HO_5 := n0_; (try have HL199 := n1_); have HB := n2_; (try clear n1_); clear n0_ n2_; (try (have hq43 : (x6_1 : Int) < (x5_2.length : Int) := (by have h_ : (x6_1 : Int) < ((x5_2.length : Int) : Int) := of_decide_eq_true (by first | (with_reducible assumption) | assumption); first | exact h_ | (have e_ := (Kd.S_reads' HO_5.out).1; omega) | simpa only [List.length_set, List.length_set] using h_))); (try (obtain ⟨oki43, ce43, hcl43, hM43, hcc43, hok43, hbk43⟩ := Kd.S_borrow HO_5.out [] (x6_1 : Int) (of_decide_eq_true (by first | (with_reducible assumption) | assumption)) hq43)); (try (obtain ⟨ve43_0, rfl, ge43_0⟩ := hM43)); (try (have hv43 := hcc43 0 _ rfl)); (try (rw [Nat.add_zero, show ((Kd.slice 3 (Kd.int .i64))).sz = 1 from rfl, Nat.mul_one] at hv43)); (try (replace hv43 := Option.some.inj (hv43.symm.trans HX182_0.out))); (try (subst hv43)); (try (clear hcc43 hcl43)); (try (replace ge43_0 := (show Kd.R (Kd.int .i64) 3 _ _ _ _ (rd_L2 x5_2 x6_1) from ge43_0))); (try (have HP43 := Kd.R_putg ge43_0 (x7_2 : Int) (rd (rd_L2 x5_2 x6_1) (ji29)))))); refine store_event (t := 3) (p := 90) (v := ?vo_w44) (w1 := (wc.setCell ⟨go42, (x7_2 : Int).toNat, none⟩ (.int .i64 (rd (rd_L2 x5_2 x6_1) (ji29))))) ?hg ?ho ?hn ?hr ?_; (case ho => rfl); (case hg => rfl); (case hn => rfl); (case hr => first | (go_simp; done) | (go_simp; rfl)); intro w44 hw; have hg : wc.grownBy w44 (some go42) := (by rw [hw]; exact HP43.2); have hz_ : Kd.R (Kd.int .i64) 3 w44 w.heap.size oki43 (.slice (some ⟨go42, 0, none⟩) (rd_L2 x5_2 x6_1).length c170_0) y183 := (by rw [hw, Ny183.out]; exact HP43.1); have hp_ : Kd.S (Kd.slice 3 (Kd.int .i64)) 35 w44 w.heap.size (fun _ => True) (.slice (some ⟨go14, 0, none⟩) x5_2.length co14) y185 := (by rw [Ny185.out]; exact hbk43 hg (fun k_ e_ => by injection e_ with e_; subst e_; exact ge43_0.1 _ rfl) (Kd.M_row hz_)); have hm_ := Kd.R_mono hz_ hok43; clear HP43 hbk43; have n0_ := Aside0.mk (hp_); have n1_ := Aside0.mk ((by rw [hw]; exact below_set (HB.out) GB42.out : Below w.heap.size w w44)); have n2_ := Aside0.mk (hm_); have n3_ := Aside0.mk ((Kd.R_reads' hm_).2.1); clear HO_5; clear HB; clear HL168_0; clear HL170_0; clear HL172_0; clear HL182_0; have HO_5 := n0_; have HB := n1_; have HL199 := n2_; have HC184 := n3_; clear n0_ n1_ n2_ n3_; clear hg hw hp_ hz_ hm_ hok43)))
                                                        (try simp only [← hl5_2])
                                                        go_roundg kj18
                                                        case measure => have := HK1.out; have := HK2.out; have := HJ18.out; omega
                                                        case rel => exact ⟨(y185), (wrap64 (x7_2 - 1)), (by first | rfl | (simp; done) | (simp [*]; done)), H', ⟨by have := HK1.out; have := HK2.out; have := HJ18.out; omega⟩, ⟨by (try simp only [hl5_2]); (with_reducible repeat (first | apply Kd.S_alloc | apply Kd.S_drewN | apply Kd.S_drew)); exact HO_5.out⟩, ⟨by repeat (first | (with_reducible first | exact HB.out | apply below_alloc | apply pw_below_drewN | apply below_drew1) | exact HB.out)⟩⟩
                                                      · rw [if_neg c41] at H
                                                        exact absurd H (by simp)
                                                  · rw [if_neg c34] at H
                                                    exact absurd H (by simp)
                                                · rw [if_neg c33] at H
                                                  exact absurd H (by simp)
                                              · rw [if_neg c32] at H
                                                have c32b0 : decide ((rd (rd_L2 x5_2 (ji22)) x7_2) < (rd (rd_L2 x5_2 x6_1) (ji29))) = false := decide_eq_false c32
                                                clear c32
                                                by_cases c45 : x6_1 < (l0.length : Int)
                                                · rw [if_pos c45] at H
                                                  have c45b0 : decide (x6_1 < (l0.length : Int)) = true := decide_eq_true c45
                                                  clear c45
                                                  by_cases c46 : x7_2 < (l1.length : Int)
                                                  · rw [if_pos c46] at H
                                                    have c46b0 : decide (x7_2 < (l1.length : Int)) = true := decide_eq_true c46
                                                    clear c46
                                                    by_cases c47 : (rdOf ByteArray.empty l0 x6_1).toList = (rdOf ByteArray.empty l1 x7_2).toList
                                                    · rw [if_pos c47] at H
                                                      have c47b0 : ((rdOf ByteArray.empty l0 x6_1).toList == (rdOf ByteArray.empty l1 x7_2).toList) = true := beq_iff_eq.mpr c47
                                                      have c47b1 : ((rdOf ByteArray.empty l0 x6_1).toList != (rdOf ByteArray.empty l1 x7_2).toList) = false := bne_eq_false_iff_eq.mpr c47
                                                      clear c47
                                                      by_cases c48 : (ji29) < ((rd_L2 x5_2 (ji22)).length : Int)
                                                      · rw [if_pos c48] at H
                                                        have c48b0 : decide ((ji29) < ((rd_L2 x5_2 (ji22)).length : Int)) = true := decide_eq_true c48
                                                        clear c48
                                                        by_cases c49 : x7_2 < ((rd_L2 x5_2 x6_1).length : Int)
                                                        · rw [if_pos c49] at H
                                                          have c49b0 : decide (x7_2 < ((rd_L2 x5_2 x6_1).length : Int)) = true := decide_eq_true c49
                                                          clear c49
                                                          obtain ⟨y191, hy191⟩ : ∃ y_ : List Int, y_ = ((rd_L2 x5_2 x6_1).set (x7_2 : Int).toNat (wrap64 ((rd (rd_L2 x5_2 (ji22)) (ji29)) + 1))) := ⟨_, rfl⟩
                                                          replace H : (spec_l04Table.l1 kj18 l0 l1 (x5_2.set (x6_1 : Int).toNat y191) x6_1 (wrap64 (x7_2 - 1))) = some r := by first | (rw [hy191]; with_reducible exact H) | (have H2_ := (Option.bind_some _ _).symm.trans H; rw [hy191]; with_reducible exact H2_) | (have H2_ := (Option.bind_some _ _).symm.trans H; with_reducible exact H2_) | with_reducible exact H | (rw [hy191]; exact H) | exact H
                                                          have Ny191 := Aside0.mk hy191
                                                          clear hy191
                                                          obtain ⟨y193, hy193⟩ : ∃ y_ : List (List Int), y_ = (x5_2.set (x6_1 : Int).toNat y191) := ⟨_, rfl⟩
                                                          replace H : (spec_l04Table.l1 kj18 l0 l1 y193 x6_1 (wrap64 (x7_2 - 1))) = some r := by first | (rw [hy193]; with_reducible exact H) | (have H2_ := (Option.bind_some _ _).symm.trans H; rw [hy193]; with_reducible exact H2_) | (have H2_ := (Option.bind_some _ _).symm.trans H; with_reducible exact H2_) | with_reducible exact H | (rw [hy193]; exact H) | exact H
                                                          have Ny193 := Aside0.mk hy193
                                                          clear hy193
                                                          have H' := Aside0.mk H
                                                          clear H
                                                          have p168 : 0 ≤ ((ji22) : Int) := of_decide_eq_true (by first | (with_reducible assumption) | assumption)
                                                          have q168 : (ji22) < (x5_2.length : Int) := of_decide_eq_true (by first | (with_reducible assumption) | assumption)
                                                          obtain ⟨ad168, A168_0, c168_0, e168, hx168_0, hl168_0, hi168_0⟩ := at_L2 (Kd.S_reads' HO_5.out).2.2 (ji22) p168 q168
                                                          obtain rfl : (⟨go14, 0, none⟩ : Addr) = ad168 := (by injection e168)
                                                          obtain ⟨ce168, hce168, hMe168, hcc168⟩ := Kd.S_get HO_5.out [] (ji22) p168 (by first | exact q168 | exact of_decide_eq_true (by first | (with_reducible assumption) | assumption) | (have e_ := (Kd.S_reads' HO_5.out).1; omega))
                                                          obtain ⟨ve168_0, rfl, ge168_0⟩ := hMe168
                                                          have hv168_0 := hcc168 0 _ rfl
                                                          rw [Nat.add_zero, show ((Kd.slice 3 (Kd.int .i64))).sz = 1 from rfl, Nat.mul_one] at hv168_0
                                                          replace hv168_0 := Option.some.inj (hv168_0.symm.trans hx168_0)
                                                          rw [hv168_0] at ge168_0
                                                          have HL168_0 := Aside0.mk (show Kd.R (Kd.int .i64) 3 _ _ _ _ (rd_L2 x5_2 (ji22)) from ge168_0)
                                                          clear hv168_0 ge168_0
                                                          have HX168_0 := Aside0.mk hx168_0
                                                          clear hcc168 hce168
                                                          (first | simp only [add_plain] at hx168_0 | simp only [add_at] at hx168_0 | simp only [Addr.add, Nat.zero_add] at hx168_0 | skip)
                                                          have HR168_0 := Aside0.mk hi168_0
                                                          have HC168_0 := Aside0.mk hl168_0
                                                          clear hi168_0 hl168_0
                                                          replace p168 := eq_true p168
                                                          replace q168 := eq_true q168
                                                          have p169 : 0 ≤ (x7_2 : Int) := of_decide_eq_true (by first | (with_reducible assumption) | assumption)
                                                          have q169 : x7_2 < ((rd_L2 x5_2 (ji22)).length : Int) := of_decide_eq_true (by first | (with_reducible assumption) | assumption)
                                                          obtain ⟨ad169, e169, hx169_0⟩ := Kd.at_int (by repeat (first | (with_reducible exact HR168_0.out) | (with_reducible refine Kd.C_alloc ?_ _) | (with_reducible refine Kd.C_drewN ?_ _) | (with_reducible refine Kd.C_drew ?_) | exact HR168_0.out)) x7_2 p169 q169
                                                          cases e169
                                                          replace p169 := eq_true p169
                                                          replace q169 := eq_true q169
                                                          have p170 : 0 ≤ (x6_1 : Int) := of_decide_eq_true (by first | (with_reducible assumption) | assumption)
                                                          have q170 : x6_1 < (x5_2.length : Int) := of_decide_eq_true (by first | (with_reducible assumption) | assumption)
                                                          obtain ⟨ad170, A170_0, c170_0, e170, hx170_0, hl170_0, hi170_0⟩ := at_L2 (Kd.S_reads' HO_5.out).2.2 x6_1 p170 q170
                                                          obtain rfl : (⟨go14, 0, none⟩ : Addr) = ad170 := (by injection e170)
                                                          obtain ⟨ce170, hce170, hMe170, hcc170⟩ := Kd.S_get HO_5.out [] x6_1 p170 (by first | exact q170 | exact of_decide_eq_true (by first | (with_reducible assumption) | assumption) | (have e_ := (Kd.S_reads' HO_5.out).1; omega))
                                                          obtain ⟨ve170_0, rfl, ge170_0⟩ := hMe170
                                                          have hv170_0 := hcc170 0 _ rfl
                                                          rw [Nat.add_zero, show ((Kd.slice 3 (Kd.int .i64))).sz = 1 from rfl, Nat.mul_one] at hv170_0
                                                          replace hv170_0 := Option.some.inj (hv170_0.symm.trans hx170_0)
                                                          rw [hv170_0] at ge170_0
                                                          have HL170_0 := Aside0.mk (show Kd.R (Kd.int .i64) 3 _ _ _ _ (rd_L2 x5_2 x6_1) from ge170_0)
                                                          clear hv170_0 ge170_0
                                                          have HX170_0 := Aside0.mk hx170_0
                                                          clear hcc170 hce170
                                                          (first | simp only [add_plain] at hx170_0 | simp only [add_at] at hx170_0 | simp only [Addr.add, Nat.zero_add] at hx170_0 | skip)
                                                          have HR170_0 := Aside0.mk hi170_0
                                                          have HC170_0 := Aside0.mk hl170_0
                                                          clear hi170_0 hl170_0
                                                          replace p170 := eq_true p170
                                                          replace q170 := eq_true q170
                                                          have p171 : 0 ≤ ((ji29) : Int) := of_decide_eq_true (by first | (with_reducible assumption) | assumption)
                                                          have q171 : (ji29) < ((rd_L2 x5_2 x6_1).length : Int) := of_decide_eq_true (by first | (with_reducible assumption) | assumption)
                                                          obtain ⟨ad171, e171, hx171_0⟩ := Kd.at_int (by repeat (first | (with_reducible exact HR170_0.out) | (with_reducible refine Kd.C_alloc ?_ _) | (with_reducible refine Kd.C_drewN ?_ _) | (with_reducible refine Kd.C_drew ?_) | exact HR170_0.out)) (ji29) p171 q171
                                                          cases e171
                                                          replace p171 := eq_true p171
                                                          replace q171 := eq_true q171
                                                          have p186 : 0 ≤ (x6_1 : Int) := of_decide_eq_true (by first | (with_reducible assumption) | assumption)
                                                          have q186 : x6_1 < (l0.length : Int) := of_decide_eq_true (by first | (with_reducible assumption) | assumption)
                                                          obtain ⟨ad186, e186, hx186_0⟩ := Kd.at_string HR0.out x6_1 p186 q186
                                                          cases e186
                                                          replace hx186_0 := (HB.out.cell (World.block_lt_of_cell? w _ hx186_0)).trans hx186_0
                                                          replace p186 := eq_true p186
                                                          replace q186 := eq_true q186
                                                          have p187 : 0 ≤ (x7_2 : Int) := of_decide_eq_true (by first | (with_reducible assumption) | assumption)
                                                          have q187 : x7_2 < (l1.length : Int) := of_decide_eq_true (by first | (with_reducible assumption) | assumption)
                                                          obtain ⟨ad187, e187, hx187_0⟩ := Kd.at_string HR1.out x7_2 p187 q187
                                                          cases e187
                                                          replace hx187_0 := (HB.out.cell (World.block_lt_of_cell? w _ hx187_0)).trans hx187_0
                                                          replace p187 := eq_true p187
                                                          replace q187 := eq_true q187
                                                          have p188 : 0 ≤ ((ji22) : Int) := of_decide_eq_true (by first | (with_reducible assumption) | assumption)
                                                          have q188 : (ji22) < (x5_2.length : Int) := of_decide_eq_true (by first | (with_reducible assumption) | assumption)
                                                          obtain ⟨ad188, A188_0, c188_0, e188, hx188_0, hl188_0, hi188_0⟩ := at_L2 (Kd.S_reads' HO_5.out).2.2 (ji22) p188 q188
                                                          obtain rfl : (⟨go14, 0, none⟩ : Addr) = ad188 := (by injection e188)
                                                          obtain ⟨ce188, hce188, hMe188, hcc188⟩ := Kd.S_get HO_5.out [] (ji22) p188 (by first | exact q188 | exact of_decide_eq_true (by first | (with_reducible assumption) | assumption) | (have e_ := (Kd.S_reads' HO_5.out).1; omega))
                                                          obtain ⟨ve188_0, rfl, ge188_0⟩ := hMe188
                                                          have hv188_0 := hcc188 0 _ rfl
                                                          rw [Nat.add_zero, show ((Kd.slice 3 (Kd.int .i64))).sz = 1 from rfl, Nat.mul_one] at hv188_0
                                                          replace hv188_0 := Option.some.inj (hv188_0.symm.trans hx188_0)
                                                          rw [hv188_0] at ge188_0
                                                          have HL188_0 := Aside0.mk (show Kd.R (Kd.int .i64) 3 _ _ _ _ (rd_L2 x5_2 (ji22)) from ge188_0)
                                                          clear hv188_0 ge188_0
                                                          have HX188_0 := Aside0.mk hx188_0
                                                          clear hcc188 hce188
                                                          (first | simp only [add_plain] at hx188_0 | simp only [add_at] at hx188_0 | simp only [Addr.add, Nat.zero_add] at hx188_0 | skip)
                                                          have HR188_0 := Aside0.mk hi188_0
                                                          have HC188_0 := Aside0.mk hl188_0
                                                          clear hi188_0 hl188_0
                                                          replace p188 := eq_true p188
                                                          replace q188 := eq_true q188
                                                          have ea_ := Option.some.inj (hx168_0.symm.trans hx188_0)
                                                          injection ea_ with ea_ en_ ec_
                                                          subst ea_
                                                          subst ec_
                                                          clear en_
                                                          have p189 : 0 ≤ ((ji29) : Int) := of_decide_eq_true (by first | (with_reducible assumption) | assumption)
                                                          have q189 : (ji29) < ((rd_L2 x5_2 (ji22)).length : Int) := of_decide_eq_true (by first | (with_reducible assumption) | assumption)
                                                          obtain ⟨ad189, e189, hx189_0⟩ := Kd.at_int (by repeat (first | (with_reducible exact HR188_0.out) | (with_reducible refine Kd.C_alloc ?_ _) | (with_reducible refine Kd.C_drewN ?_ _) | (with_reducible refine Kd.C_drew ?_) | exact HR188_0.out)) (ji29) p189 q189
                                                          cases e189
                                                          replace p189 := eq_true p189
                                                          replace q189 := eq_true q189
                                                          have p190 : 0 ≤ (x6_1 : Int) := of_decide_eq_true (by first | (with_reducible assumption) | assumption)
                                                          have q190 : x6_1 < (x5_2.length : Int) := of_decide_eq_true (by first | (with_reducible assumption) | assumption)
                                                          obtain ⟨ad190, A190_0, c190_0, e190, hx190_0, hl190_0, hi190_0⟩ := at_L2 (Kd.S_reads' HO_5.out).2.2 x6_1 p190 q190
                                                          obtain rfl : (⟨go14, 0, none⟩ : Addr) = ad190 := (by injection e190)
                                                          obtain ⟨ce190, hce190, hMe190, hcc190⟩ := Kd.S_get HO_5.out [] x6_1 p190 (by first | exact q190 | exact of_decide_eq_true (by first | (with_reducible assumption) | assumption) | (have e_ := (Kd.S_reads' HO_5.out).1; omega))
                                                          obtain ⟨ve190_0, rfl, ge190_0⟩ := hMe190
                                                          have hv190_0 := hcc190 0 _ rfl
                                                          rw [Nat.add_zero, show ((Kd.slice 3 (Kd.int .i64))).sz = 1 from rfl, Nat.mul_one] at hv190_0
                                                          replace hv190_0 := Option.some.inj (hv190_0.symm.trans hx190_0)
                                                          rw [hv190_0] at ge190_0
                                                          have HL190_0 := Aside0.mk (show Kd.R (Kd.int .i64) 3 _ _ _ _ (rd_L2 x5_2 x6_1) from ge190_0)
                                                          clear hv190_0 ge190_0
                                                          have HX190_0 := Aside0.mk hx190_0
                                                          clear hcc190 hce190
                                                          (first | simp only [add_plain] at hx190_0 | simp only [add_at] at hx190_0 | simp only [Addr.add, Nat.zero_add] at hx190_0 | skip)
                                                          have HR190_0 := Aside0.mk hi190_0
                                                          have HC190_0 := Aside0.mk hl190_0
                                                          clear hi190_0 hl190_0
                                                          replace p190 := eq_true p190
                                                          replace q190 := eq_true q190
                                                          have ea_ := Option.some.inj (hx170_0.symm.trans hx190_0)
                                                          injection ea_ with ea_ en_ ec_
                                                          subst ea_
                                                          subst ec_
                                                          clear en_
                                                          have p50 : 0 ≤ (x7_2 : Int) := of_decide_eq_true (by first | (with_reducible assumption) | assumption)
                                                          have q50 : (x7_2 : Int) < (((rd_L2 x5_2 x6_1).length : Int) : Int) := of_decide_eq_true (by first | (with_reducible assumption) | assumption)
                                                          obtain ⟨go50, co50, eo50, gb50, gl50, cl50, HG50⟩ := Kd.R_form HL190_0.out (by omega)
                                                          (first | cases eo50 | (injection eo50 with ea_ en_ ec_; (first | subst ea_ | (injection ea_ with ea_; subst ea_)); subst ec_; clear en_))
                                                          have GB50 := Aside0.mk gb50
                                                          have GG50 := Aside0.mk HG50
                                                          clear gb50 gl50 HG50
                                                          (first | simp only [add_plain] at hx171_0 | skip)
                                                          obtain ⟨hx50_0, hf50_0⟩ := Kd.R_celln 0 HL190_0.out (x7_2 : Int) p50 q50
                                                          replace p50 := eq_true p50
                                                          replace q50 := eq_true q50
                                                          have hq51 : (x6_1 : Int) < (x5_2.length : Int) := (by have h_ : (x6_1 : Int) < ((x5_2.length : Int) : Int) := of_decide_eq_true (by first | (with_reducible assumption) | assumption); first | exact h_ | (have e_ := (Kd.S_reads' HO_5.out).1; omega) | simpa only [List.length_set, List.length_set] using h_)
                                                          obtain ⟨oki51, ce51, hcl51, hM51, hcc51, hok51, hbk51⟩ := Kd.S_borrow HO_5.out [] (x6_1 : Int) (of_decide_eq_true (by first | (with_reducible assumption) | assumption)) hq51
                                                          obtain ⟨ve51_0, rfl, ge51_0⟩ := hM51
                                                          have hv51 := hcc51 0 _ rfl
                                                          rw [Nat.add_zero, show ((Kd.slice 3 (Kd.int .i64))).sz = 1 from rfl, Nat.mul_one] at hv51
                                                          replace hv51 := Option.some.inj (hv51.symm.trans HX190_0.out)
                                                          subst hv51
                                                          clear hcc51 hcl51
                                                          replace ge51_0 := (show Kd.R (Kd.int .i64) 3 _ _ _ _ (rd_L2 x5_2 x6_1) from ge51_0)
                                                          have HP51 := Kd.R_putg ge51_0 (x7_2 : Int) (wrap64 ((rd (rd_L2 x5_2 (ji22)) (ji29)) + 1))
                                                          go_wp2_with (first | ((with_reducible refine gate_store (t := 3) (p := 90) rfl ?_); (try (rw [drewN_self wc]; generalize hq_ : World.drewN wc _ = wc; (try (replace hx168_0 := cell_at hq_ hx168_0)); (try (replace hx169_0 := cell_at hq_ hx169_0)); (try (replace hx170_0 := cell_at hq_ hx170_0)); (try (replace hx171_0 := cell_at hq_ hx171_0)); (try (replace hx186_0 := cell_at hq_ hx186_0)); (try (replace hx187_0 := cell_at hq_ hx187_0)); (try (replace hx188_0 := cell_at hq_ hx188_0)); (try (replace hx189_0 := cell_at hq_ hx189_0)); (try (replace hx190_0 := cell_at hq_ hx190_0)); (try (replace hx50_0 := cell_at hq_ hx50_0)); (try (replace hf50_0 := frozen_at hq_ hf50_0)); (try (replace HX168_0 := Aside0.mk (cell_at hq_ HX168_0.out))); (try (replace HX170_0 := Aside0.mk (cell_at hq_ HX170_0.out))); (try (replace HX182_0 := Aside0.mk (cell_at hq_ HX182_0.out))); (try (replace HX188_0 := Aside0.mk (cell_at hq_ HX188_0.out))); (try (replace HX190_0 := Aside0.mk (cell_at hq_ HX190_0.out))); have n0_ := Aside0.mk (Kd.S_at hq_ HO_5.out); (try have n1_ := Aside0.mk (Kd.R_at hq_ HL200.out)); have n2_ := Aside0.mk (below_at hq_ HB.out); (try clear HL200); clear hq_ HO_5 HB; have HO_5 := n0_; (try have HL200 := n1_); have HB := n2_; (try clear n1_); clear n0_ n2_; (try (have hq51 : (x6_1 : Int) < (x5_2.length : Int) := (by have h_ : (x6_1 : Int) < ((x5_2.length : Int) : Int) := of_decide_eq_true (by first | (with_reducible assumption) | assumption); first | exact h_ | (have e_ := (Kd.S_reads' HO_5.out).1; omega) | simpa only [List.length_set, List.length_set] using h_))); (try (obtain ⟨oki51, ce51, hcl51, hM51, hcc51, hok51, hbk51⟩ := Kd.S_borrow HO_5.out [] (x6_1 : Int) (of_decide_eq_true (by first | (with_reducible assumption) | assumption)) hq51)); (try (obtain ⟨ve51_0, rfl, ge51_0⟩ := hM51)); (try (have hv51 := hcc51 0 _ rfl)); (try (rw [Nat.add_zero, show ((Kd.slice 3 (Kd.int .i64))).sz = 1 from rfl, Nat.mul_one] at hv51)); (try (replace hv51 := Option.some.inj (hv51.symm.trans HX190_0.out))); (try (subst hv51)); (try (clear hcc51 hcl51)); (try (replace ge51_0 := (show Kd.R (Kd.int .i64) 3 _ _ _ _ (rd_L2 x5_2 x6_1) from ge51_0))); (try (have HP51 := Kd.R_putg ge51_0 (x7_2 : Int) (wrap64 ((rd (rd_L2 x5_2 (ji22)) (ji29)) + 1)))))); refine store_event (t := 3) (p := 90) (v := ?vo_w52) (w1 := (wc.setCell ⟨go50, (x7_2 : Int).toNat, none⟩ (.int .i64 (wrap64 ((rd (rd_L2 x5_2 (ji22)) (ji29)) + 1))))) ?hg ?ho ?hn ?hr ?_; (case ho => rfl); (case hg => rfl); (case hn => rfl); (case hr => first | (go_simp; done) | (go_simp; rfl)); intro w52 hw; have hg : wc.grownBy w52 (some go50) := (by rw [hw]; exact HP51.2); have hz_ : Kd.R (Kd.int .i64) 3 w52 w.heap.size oki51 (.slice (some ⟨go50, 0, none⟩) (rd_L2 x5_2 x6_1).length c170_0) y191 := (by rw [hw, Ny191.out]; exact HP51.1); have hp_ : Kd.S (Kd.slice 3 (Kd.int .i64)) 35 w52 w.heap.size (fun _ => True) (.slice (some ⟨go14, 0, none⟩) x5_2.length co14) y193 := (by rw [Ny193.out]; exact hbk51 hg (fun k_ e_ => by injection e_ with e_; subst e_; exact ge51_0.1 _ rfl) (Kd.M_row hz_)); have hm_ := Kd.R_mono hz_ hok51; clear HP51 hbk51; have n0_ := Aside0.mk (hp_); have n1_ := Aside0.mk ((by rw [hw]; exact below_set (HB.out) GB50.out : Below w.heap.size w w52)); have n2_ := Aside0.mk (hm_); have n3_ := Aside0.mk ((Kd.R_reads' hm_).2.1); clear HO_5; clear HB; clear HL168_0; clear HL170_0; clear HL188_0; clear HL190_0; have HO_5 := n0_; have HB := n1_; have HL200 := n2_; have HC192 := n3_; clear n0_ n1_ n2_ n3_; clear hg hw hp_ hz_ hm_ hok51))
                                                          repeat (go_quiet (first | ((with_reducible refine gate_store (t := 3) (p := 90) rfl ?_); (try (rw [drewN_self wc]; generalize hq_ : World.drewN wc _ = wc; (try (replace hx168_0 := cell_at hq_ hx168_0)); (try (replace hx169_0 := cell_at hq_ hx169_0)); (try (replace hx170_0 := cell_at hq_ hx170_0)); (try (replace hx171_0 := cell_at hq_ hx171_0)); (try (replace hx186_0 := cell_at hq_ hx186_0)); (try (replace hx187_0 := cell_at hq_ hx187_0)); (try (replace hx188_0 := cell_at hq_ hx188_0)); (try (replace hx189_0 := cell_at hq_ hx189_0)); (try (replace hx190_0 := cell_at hq_ hx190_0)); (try (replace hx50_0 := cell_at hq_ hx50_0)); (try (replace hf50_0 := frozen_at hq_ hf50_0)); (try (replace HX168_0 := Aside0.mk (cell_at hq_ HX168_0.out))); (try (replace HX170_0 := Aside0.mk (cell_at hq_ HX170_0.out))); (try (replace HX182_0 := Aside0.mk (cell_at hq_ HX182_0.out))); (try (replace HX188_0 := Aside0.mk (cell_at hq_ HX188_0.out))); (try (replace HX190_0 := Aside0.mk (cell_at hq_ HX190_0.out))); have n0_ := Aside0.mk (Kd.S_at hq_ HO_5.out); (try have n1_ := Aside0.mk (Kd.R_at hq_ HL200.out)); have n2_ := Aside0.mk (below_at hq_ HB.out); (try clear HL200); clear hq_ HO_5 HB; have HO_5 := n0_; (try have HL200 := n1_); have HB := n2_; (try clear n1_); clear n0_ n2_; (try (have hq51 : (x6_1 : Int) < (x5_2.length : Int) := (by have h_ : (x6_1 : Int) < ((x5_2.length : Int) : Int) := of_decide_eq_true (by first | (with_reducible assumption) | assumption); first | exact h_ | (have e_ := (Kd.S_reads' HO_5.out).1; omega) | simpa only [List.length_set, List.length_set] using h_))); (try (obtain ⟨oki51, ce51, hcl51, hM51, hcc51, hok51, hbk51⟩ := Kd.S_borrow HO_5.out [] (x6_1 : Int) (of_decide_eq_true (by first | (with_reducible assumption) | assumption)) hq51)); (try (obtain ⟨ve51_0, rfl, ge51_0⟩ := hM51)); (try (have hv51 := hcc51 0 _ rfl)); (try (rw [Nat.add_zero, show ((Kd.slice 3 (Kd.int .i64))).sz = 1 from rfl, Nat.mul_one] at hv51)); (try (replace hv51 := Option.some.inj (hv51.symm.trans HX190_0.out))); (try (subst hv51)); (try (clear hcc51 hcl51)); (try (replace ge51_0 := (show Kd.R (Kd.int .i64) 3 _ _ _ _ (rd_L2 x5_2 x6_1) from ge51_0))); (try (have HP51 := Kd.R_putg ge51_0 (x7_2 : Int) (wrap64 ((rd (rd_L2 x5_2 (ji22)) (ji29)) + 1)))))); refine store_event (t := 3) (p := 90) (v := ?vo_w52) (w1 := (wc.setCell ⟨go50, (x7_2 : Int).toNat, none⟩ (.int .i64 (wrap64 ((rd (rd_L2 x5_2 (ji22)) (ji29)) + 1))))) ?hg ?ho ?hn ?hr ?_; (case ho => rfl); (case hg => rfl); (case hn => rfl); (case hr => first | (go_simp; done) | (go_simp; rfl)); intro w52 hw; have hg : wc.grownBy w52 (some go50) := (by rw [hw]; exact HP51.2); have hz_ : Kd.R (Kd.int .i64) 3 w52 w.heap.size oki51 (.slice (some ⟨go50, 0, none⟩) (rd_L2 x5_2 x6_1).length c170_0) y191 := (by rw [hw, Ny191.out]; exact HP51.1); have hp_ : Kd.S (Kd.slice 3 (Kd.int .i64)) 35 w52 w.heap.size (fun _ => True) (.slice (some ⟨go14, 0, none⟩) x5_2.length co14) y193 := (by rw [Ny193.out]; exact hbk51 hg (fun k_ e_ => by injection e_ with e_; subst e_; exact ge51_0.1 _ rfl) (Kd.M_row hz_)); have hm_ := Kd.R_mono hz_ hok51; clear HP51 hbk51; have n0_ := Aside0.mk (hp_); have n1_ := Aside0.mk ((by rw [hw]; exact below_set (HB.out) GB50.out : Below w.heap.size w w52)); have n2_ := Aside0.mk (hm_); have n3_ := Aside0.mk ((Kd.R_reads' hm_).2.1); clear HO_5; clear HB; clear HL168_0; clear HL170_0; clear HL188_0; clear HL190_0; have HO_5 := n0_; have HB := n1_; have HL200 := n2_; have HC192 := n3_; clear n0_ n1_ n2_ n3_; clear hg hw hp_ hz_ hm_ hok51)); try go_wp2_with (first | ((with_reducible refine gate_store (t := 3) (p := 90) rfl ?_); (try (rw [drewN_self wc]; generalize hq_ : World.drewN wc _ = wc; (try (replace hx168_0 := cell_at hq_ hx168_0)); (try (replace hx169_0 := cell_at hq_ hx169_0)); (try (replace hx170_0 := cell_at hq_ hx170_0)); (try (replace hx171_0 := cell_at hq_ hx171_0)); (try (replace hx186_0 := cell_at hq_ hx186_0)); (try (replace hx187_0 := cell_at hq_ hx187_0)); (try (replace hx188_0 := cell_at hq_ hx188_0)); (try (replace hx189_0 := cell_at hq_ hx189_0)); (try (replace hx190_0 := cell_at hq_ hx190_0)); (try (replace hx50_0 := cell_at hq_ hx50_0)); (try (replace hf50_0 := frozen_at hq_ hf50_0)); (try (replace HX168_0 := Aside0.mk (cell_at hq_ HX168_0.out))); (try (replace HX170_0 := Aside0.mk (cell_at hq_ HX170_0.out))); (try (replace HX188_0 := Aside0.mk (cell_at hq_ HX188_0.out))); (try (replace HX190_0 := Aside0.mk (cell_at hq_ HX190_0.out))); have n0_ := Aside0.mk (Kd.S_at hq_ HO_5.out); (try have n1_ := Aside0.mk (Kd.R_at hq_ HL200.out)); have n2_ := Aside0.mk (below_at hq_ HB.out); (try clear HL200); clear hq_ HO_5 HB; have HO_5 := n0_; (try have HL200 := n1_); have HB := n2_; (try clear n1_); clear n0_ n2_; (try (have hq51 : (x6_1 : Int) < (x5_2.length : Int) := (by have h_ : (x6_1 : Int) < ((x5_2.length : Int) : Int) := of_decide_eq_true (by first | (with_reducible assumption) | assumption); first | exact h_ | (have e_ := (Kd.S_reads' HO_5.out).1; omega) | simpa only [List.length_set, List.length_set] using h_))); (try (obtain ⟨oki51, ce51, hcl51, hM51, hcc51, hok51, hbk51⟩ := Kd.S_borrow HO_5.out [] (x6_1 : Int) (of_decide_eq_true (by first | (with_reducible assumption) | assumption)) hq51)); (try (obtain ⟨ve51_0, rfl, ge51_0⟩ := hM51)); (try (have hv51 := hcc51 0 _ rfl)); (try (rw [Nat.add_zero, show ((Kd.slice 3 (Kd.int .i64))).sz = 1 from rfl, Nat.mul_one] at hv51)); (try (replace hv51 := Option.some.inj (hv51.symm.trans HX190_0.out))); (try (subst hv51)); (try (clear hcc51 hcl51)); (try (replace ge51_0 := (show Kd.R (Kd.int .i64) 3 _ _ _ _ (rd_L2 x5_2 x6_1) from ge51_0))); (try (have HP51 := Kd.R_putg ge51_0 (x7_2 : Int) (wrap64 ((rd (rd_L2 x5_2 (ji22)) (ji29)) + 1)))))); refine store_event (t := 3) (p := 90) (v := ?vo_w52) (w1 := (wc.setCell ⟨go50, (x7_2 : Int).toNat, none⟩ (.int .i64 (wrap64 ((rd (rd_L2 x5_2 (ji22)) (ji29)) + 1))))) ?hg ?ho ?hn ?hr ?_; (case ho => rfl); (case hg => rfl); (case hn => rfl); (case hr => first | (go_simp; done) | (go_simp; rfl)); intro w52 hw; have hg : wc.grownBy w52 (some go50) := (by rw [hw]; exact HP51.2); have hz_ : Kd.R (Kd.int .i64) 3 w52 w.heap.size oki51 (.slice (some ⟨go50, 0, none⟩) (rd_L2 x5_2 x6_1).length c170_0) y191 := (by rw [hw, Ny191.out]; exact HP51.1); have hp_ : Kd.S (Kd.slice 3 (Kd.int .i64)) 35 w52 w.heap.size (fun _ => True) (.slice (some ⟨go14, 0, none⟩) x5_2.length co14) y193 := (by rw [Ny193.out]; exact hbk51 hg (fun k_ e_ => by injection e_ with e_; subst e_; exact ge51_0.1 _ rfl) (Kd.M_row hz_)); have hm_ := Kd.R_mono hz_ hok51; clear HP51 hbk51; have n0_ := Aside0.mk (hp_); have n1_ := Aside0.mk ((by rw [hw]; exact below_set (HB.out) GB50.out : Below w.heap.size w w52)); have n2_ := Aside0.mk (hm_); have n3_ := Aside0.mk ((Kd.R_reads' hm_).2.1); clear HO_5; clear HB; clear HL168_0; clear HL170_0; clear HL188_0; clear HL190_0; have HO_5 := n0_; have HB := n1_; have HL200 := n2_; have HC192 := n3_; clear n0_ n1_ n2_ n3_; clear hg hw hp_ hz_ hm_ hok51)))
                                                          (try simp only [← hl5_2])
                                                          go_roundg kj18
                                                          case measure => have := HK1.out; have := HK2.out; have := HJ18.out; omega
                                                          case rel => exact ⟨(y193), (wrap64 (x7_2 - 1)), (by first | rfl | (simp; done) | (simp [*]; done)), H', ⟨by have := HK1.out; have := HK2.out; have := HJ18.out; omega⟩, ⟨by (try simp only [hl5_2]); (with_reducible repeat (first | apply Kd.S_alloc | apply Kd.S_drewN | apply Kd.S_drew)); exact HO_5.out⟩, ⟨by repeat (first | (with_reducible first | exact HB.out | apply below_alloc | apply pw_below_drewN | apply below_drew1) | exact HB.out)⟩⟩
                                                        · rw [if_neg c49] at H
                                                          exact absurd H (by simp)
                                                      · rw [if_neg c48] at H
                                                        exact absurd H (by simp)
                                                    · rw [if_neg c47] at H
                                                      have c47b0 : ((rdOf ByteArray.empty l0 x6_1).toList == (rdOf ByteArray.empty l1 x7_2).toList) = false := beq_eq_false_iff_ne.mpr c47
                                                      have c47b1 : ((rdOf ByteArray.empty l0 x6_1).toList != (rdOf ByteArray.empty l1 x7_2).toList) = true := bne_iff_ne.mpr c47
                                                      by_cases c53 : x7_2 < ((rd_L2 x5_2 x6_1).length : Int)
                                                      · rw [if_pos c53] at H
                                                        have c53b0 : decide (x7_2 < ((rd_L2 x5_2 x6_1).length : Int)) = true := decide_eq_true c53
                                                        clear c53
                                                        obtain ⟨y195, hy195⟩ : ∃ y_ : List Int, y_ = ((rd_L2 x5_2 x6_1).set (x7_2 : Int).toNat (rd (rd_L2 x5_2 (ji22)) x7_2)) := ⟨_, rfl⟩
                                                        replace H : (spec_l04Table.l1 kj18 l0 l1 (x5_2.set (x6_1 : Int).toNat y195) x6_1 (wrap64 (x7_2 - 1))) = some r := by first | (rw [hy195]; with_reducible exact H) | (have H2_ := (Option.bind_some _ _).symm.trans H; rw [hy195]; with_reducible exact H2_) | (have H2_ := (Option.bind_some _ _).symm.trans H; with_reducible exact H2_) | with_reducible exact H | (rw [hy195]; exact H) | exact H
                                                        have Ny195 := Aside0.mk hy195
                                                        clear hy195
                                                        obtain ⟨y197, hy197⟩ : ∃ y_ : List (List Int), y_ = (x5_2.set (x6_1 : Int).toNat y195) := ⟨_, rfl⟩
                                                        replace H : (spec_l04Table.l1 kj18 l0 l1 y197 x6_1 (wrap64 (x7_2 - 1))) = some r := by first | (rw [hy197]; with_reducible exact H) | (have H2_ := (Option.bind_some _ _).symm.trans H; rw [hy197]; with_reducible exact H2_) | (have H2_ := (Option.bind_some _ _).symm.trans H; with_reducible exact H2_) | with_reducible exact H | (rw [hy197]; exact H) | exact H
                                                        have Ny197 := Aside0.mk hy197
                                                        clear hy197
                                                        have H' := Aside0.mk H
                                                        clear H
                                                        have p168 : 0 ≤ ((ji22) : Int) := of_decide_eq_true (by first | (with_reducible assumption) | assumption)
                                                        have q168 : (ji22) < (x5_2.length : Int) := of_decide_eq_true (by first | (with_reducible assumption) | assumption)
                                                        obtain ⟨ad168, A168_0, c168_0, e168, hx168_0, hl168_0, hi168_0⟩ := at_L2 (Kd.S_reads' HO_5.out).2.2 (ji22) p168 q168
                                                        obtain rfl : (⟨go14, 0, none⟩ : Addr) = ad168 := (by injection e168)
                                                        obtain ⟨ce168, hce168, hMe168, hcc168⟩ := Kd.S_get HO_5.out [] (ji22) p168 (by first | exact q168 | exact of_decide_eq_true (by first | (with_reducible assumption) | assumption) | (have e_ := (Kd.S_reads' HO_5.out).1; omega))
                                                        obtain ⟨ve168_0, rfl, ge168_0⟩ := hMe168
                                                        have hv168_0 := hcc168 0 _ rfl
                                                        rw [Nat.add_zero, show ((Kd.slice 3 (Kd.int .i64))).sz = 1 from rfl, Nat.mul_one] at hv168_0
                                                        replace hv168_0 := Option.some.inj (hv168_0.symm.trans hx168_0)
                                                        rw [hv168_0] at ge168_0
                                                        have HL168_0 := Aside0.mk (show Kd.R (Kd.int .i64) 3 _ _ _ _ (rd_L2 x5_2 (ji22)) from ge168_0)
                                                        clear hv168_0 ge168_0
                                                        have HX168_0 := Aside0.mk hx168_0
                                                        clear hcc168 hce168
                                                        (first | simp only [add_plain] at hx168_0 | simp only [add_at] at hx168_0 | simp only [Addr.add, Nat.zero_add] at hx168_0 | skip)
                                                        have HR168_0 := Aside0.mk hi168_0
                                                        have HC168_0 := Aside0.mk hl168_0
                                                        clear hi168_0 hl168_0
                                                        replace p168 := eq_true p168
                                                        replace q168 := eq_true q168
                                                        have p169 : 0 ≤ (x7_2 : Int) := of_decide_eq_true (by first | (with_reducible assumption) | assumption)
                                                        have q169 : x7_2 < ((rd_L2 x5_2 (ji22)).length : Int) := of_decide_eq_true (by first | (with_reducible assumption) | assumption)
                                                        obtain ⟨ad169, e169, hx169_0⟩ := Kd.at_int (by repeat (first | (with_reducible exact HR168_0.out) | (with_reducible refine Kd.C_alloc ?_ _) | (with_reducible refine Kd.C_drewN ?_ _) | (with_reducible refine Kd.C_drew ?_) | exact HR168_0.out)) x7_2 p169 q169
                                                        cases e169
                                                        replace p169 := eq_true p169
                                                        replace q169 := eq_true q169
                                                        have p170 : 0 ≤ (x6_1 : Int) := of_decide_eq_true (by first | (with_reducible assumption) | assumption)
                                                        have q170 : x6_1 < (x5_2.length : Int) := of_decide_eq_true (by first | (with_reducible assumption) | assumption)
                                                        obtain ⟨ad170, A170_0, c170_0, e170, hx170_0, hl170_0, hi170_0⟩ := at_L2 (Kd.S_reads' HO_5.out).2.2 x6_1 p170 q170
                                                        obtain rfl : (⟨go14, 0, none⟩ : Addr) = ad170 := (by injection e170)
                                                        obtain ⟨ce170, hce170, hMe170, hcc170⟩ := Kd.S_get HO_5.out [] x6_1 p170 (by first | exact q170 | exact of_decide_eq_true (by first | (with_reducible assumption) | assumption) | (have e_ := (Kd.S_reads' HO_5.out).1; omega))
                                                        obtain ⟨ve170_0, rfl, ge170_0⟩ := hMe170
                                                        have hv170_0 := hcc170 0 _ rfl
                                                        rw [Nat.add_zero, show ((Kd.slice 3 (Kd.int .i64))).sz = 1 from rfl, Nat.mul_one] at hv170_0
                                                        replace hv170_0 := Option.some.inj (hv170_0.symm.trans hx170_0)
                                                        rw [hv170_0] at ge170_0
                                                        have HL170_0 := Aside0.mk (show Kd.R (Kd.int .i64) 3 _ _ _ _ (rd_L2 x5_2 x6_1) from ge170_0)
                                                        clear hv170_0 ge170_0
                                                        have HX170_0 := Aside0.mk hx170_0
                                                        clear hcc170 hce170
                                                        (first | simp only [add_plain] at hx170_0 | simp only [add_at] at hx170_0 | simp only [Addr.add, Nat.zero_add] at hx170_0 | skip)
                                                        have HR170_0 := Aside0.mk hi170_0
                                                        have HC170_0 := Aside0.mk hl170_0
                                                        clear hi170_0 hl170_0
                                                        replace p170 := eq_true p170
                                                        replace q170 := eq_true q170
                                                        have p171 : 0 ≤ ((ji29) : Int) := of_decide_eq_true (by first | (with_reducible assumption) | assumption)
                                                        have q171 : (ji29) < ((rd_L2 x5_2 x6_1).length : Int) := of_decide_eq_true (by first | (with_reducible assumption) | assumption)
                                                        obtain ⟨ad171, e171, hx171_0⟩ := Kd.at_int (by repeat (first | (with_reducible exact HR170_0.out) | (with_reducible refine Kd.C_alloc ?_ _) | (with_reducible refine Kd.C_drewN ?_ _) | (with_reducible refine Kd.C_drew ?_) | exact HR170_0.out)) (ji29) p171 q171
                                                        cases e171
                                                        replace p171 := eq_true p171
                                                        replace q171 := eq_true q171
                                                        have p186 : 0 ≤ (x6_1 : Int) := of_decide_eq_true (by first | (with_reducible assumption) | assumption)
                                                        have q186 : x6_1 < (l0.length : Int) := of_decide_eq_true (by first | (with_reducible assumption) | assumption)
                                                        obtain ⟨ad186, e186, hx186_0⟩ := Kd.at_string HR0.out x6_1 p186 q186
                                                        cases e186
                                                        replace hx186_0 := (HB.out.cell (World.block_lt_of_cell? w _ hx186_0)).trans hx186_0
                                                        replace p186 := eq_true p186
                                                        replace q186 := eq_true q186
                                                        have p187 : 0 ≤ (x7_2 : Int) := of_decide_eq_true (by first | (with_reducible assumption) | assumption)
                                                        have q187 : x7_2 < (l1.length : Int) := of_decide_eq_true (by first | (with_reducible assumption) | assumption)
                                                        obtain ⟨ad187, e187, hx187_0⟩ := Kd.at_string HR1.out x7_2 p187 q187
                                                        cases e187
                                                        replace hx187_0 := (HB.out.cell (World.block_lt_of_cell? w _ hx187_0)).trans hx187_0
                                                        replace p187 := eq_true p187
                                                        replace q187 := eq_true q187
                                                        have p194 : 0 ≤ (x6_1 : Int) := of_decide_eq_true (by first | (with_reducible assumption) | assumption)
                                                        have q194 : x6_1 < (x5_2.length : Int) := of_decide_eq_true (by first | (with_reducible assumption) | assumption)
                                                        obtain ⟨ad194, A194_0, c194_0, e194, hx194_0, hl194_0, hi194_0⟩ := at_L2 (Kd.S_reads' HO_5.out).2.2 x6_1 p194 q194
                                                        obtain rfl : (⟨go14, 0, none⟩ : Addr) = ad194 := (by injection e194)
                                                        obtain ⟨ce194, hce194, hMe194, hcc194⟩ := Kd.S_get HO_5.out [] x6_1 p194 (by first | exact q194 | exact of_decide_eq_true (by first | (with_reducible assumption) | assumption) | (have e_ := (Kd.S_reads' HO_5.out).1; omega))
                                                        obtain ⟨ve194_0, rfl, ge194_0⟩ := hMe194
                                                        have hv194_0 := hcc194 0 _ rfl
                                                        rw [Nat.add_zero, show ((Kd.slice 3 (Kd.int .i64))).sz = 1 from rfl, Nat.mul_one] at hv194_0
                                                        replace hv194_0 := Option.some.inj (hv194_0.symm.trans hx194_0)
                                                        rw [hv194_0] at ge194_0
                                                        have HL194_0 := Aside0.mk (show Kd.R (Kd.int .i64) 3 _ _ _ _ (rd_L2 x5_2 x6_1) from ge194_0)
                                                        clear hv194_0 ge194_0
                                                        have HX194_0 := Aside0.mk hx194_0
                                                        clear hcc194 hce194
                                                        (first | simp only [add_plain] at hx194_0 | simp only [add_at] at hx194_0 | simp only [Addr.add, Nat.zero_add] at hx194_0 | skip)
                                                        have HR194_0 := Aside0.mk hi194_0
                                                        have HC194_0 := Aside0.mk hl194_0
                                                        clear hi194_0 hl194_0
                                                        replace p194 := eq_true p194
                                                        replace q194 := eq_true q194
                                                        have ea_ := Option.some.inj (hx170_0.symm.trans hx194_0)
                                                        injection ea_ with ea_ en_ ec_
                                                        subst ea_
                                                        subst ec_
                                                        clear en_
                                                        have p54 : 0 ≤ (x7_2 : Int) := of_decide_eq_true (by first | (with_reducible assumption) | assumption)
                                                        have q54 : (x7_2 : Int) < (((rd_L2 x5_2 x6_1).length : Int) : Int) := of_decide_eq_true (by first | (with_reducible assumption) | assumption)
                                                        obtain ⟨go54, co54, eo54, gb54, gl54, cl54, HG54⟩ := Kd.R_form HL194_0.out (by omega)
                                                        (first | cases eo54 | (injection eo54 with ea_ en_ ec_; (first | subst ea_ | (injection ea_ with ea_; subst ea_)); subst ec_; clear en_))
                                                        have GB54 := Aside0.mk gb54
                                                        have GG54 := Aside0.mk HG54
                                                        clear gb54 gl54 HG54
                                                        (first | simp only [add_plain] at hx171_0 | skip)
                                                        obtain ⟨hx54_0, hf54_0⟩ := Kd.R_celln 0 HL194_0.out (x7_2 : Int) p54 q54
                                                        replace p54 := eq_true p54
                                                        replace q54 := eq_true q54
                                                        have hq55 : (x6_1 : Int) < (x5_2.length : Int) := (by have h_ : (x6_1 : Int) < ((x5_2.length : Int) : Int) := of_decide_eq_true (by first | (with_reducible assumption) | assumption); first | exact h_ | (have e_ := (Kd.S_reads' HO_5.out).1; omega) | simpa only [List.length_set, List.length_set] using h_)
                                                        obtain ⟨oki55, ce55, hcl55, hM55, hcc55, hok55, hbk55⟩ := Kd.S_borrow HO_5.out [] (x6_1 : Int) (of_decide_eq_true (by first | (with_reducible assumption) | assumption)) hq55
                                                        obtain ⟨ve55_0, rfl, ge55_0⟩ := hM55
                                                        have hv55 := hcc55 0 _ rfl
                                                        rw [Nat.add_zero, show ((Kd.slice 3 (Kd.int .i64))).sz = 1 from rfl, Nat.mul_one] at hv55
                                                        replace hv55 := Option.some.inj (hv55.symm.trans HX194_0.out)
                                                        subst hv55
                                                        clear hcc55 hcl55
                                                        replace ge55_0 := (show Kd.R (Kd.int .i64) 3 _ _ _ _ (rd_L2 x5_2 x6_1) from ge55_0)
                                                        have HP55 := Kd.R_putg ge55_0 (x7_2 : Int) (rd (rd_L2 x5_2 (ji22)) x7_2)
                                                        go_wp2_with (first | ((with_reducible refine gate_store (t := 3) (p := 90) rfl ?_); (try (rw [drewN_self wc]; generalize hq_ : World.drewN wc _ = wc; (try (replace hx168_0 := cell_at hq_ hx168_0)); (try (replace hx169_0 := cell_at hq_ hx169_0)); (try (replace hx170_0 := cell_at hq_ hx170_0)); (try (replace hx171_0 := cell_at hq_ hx171_0)); (try (replace hx186_0 := cell_at hq_ hx186_0)); (try (replace hx187_0 := cell_at hq_ hx187_0)); (try (replace hx190_0 := cell_at hq_ hx190_0)); (try (replace hx194_0 := cell_at hq_ hx194_0)); (try (replace hx50_0 := cell_at hq_ hx50_0)); (try (replace hx54_0 := cell_at hq_ hx54_0)); (try (replace hf50_0 := frozen_at hq_ hf50_0)); (try (replace hf54_0 := frozen_at hq_ hf54_0)); (try (replace HX168_0 := Aside0.mk (cell_at hq_ HX168_0.out))); (try (replace HX170_0 := Aside0.mk (cell_at hq_ HX170_0.out))); (try (replace HX190_0 := Aside0.mk (cell_at hq_ HX190_0.out))); (try (replace HX194_0 := Aside0.mk (cell_at hq_ HX194_0.out))); have n0_ := Aside0.mk (Kd.S_at hq_ HO_5.out); (try have n1_ := Aside0.mk (Kd.R_at hq_ HL201.out)); have n2_ := Aside0.mk (below_at hq_ HB.out); (try clear HL201); clear hq_ HO_5 HB; have HO_5 := n0_; (try have HL201 := n1_); have HB := n2_; (try clear n1_); clear n0_ n2_; (try (have hq55 : (x6_1 : Int) < (x5_2.length : Int) := (by have h_ : (x6_1 : Int) < ((x5_2.length : Int) : Int) := of_decide_eq_true (by first | (with_reducible assumption) | assumption); first | exact h_ | (have e_ := (Kd.S_reads' HO_5.out).1; omega) | simpa only [List.length_set, List.length_set] using h_))); (try (obtain ⟨oki55, ce55, hcl55, hM55, hcc55, hok55, hbk55⟩ := Kd.S_borrow HO_5.out [] (x6_1 : Int) (of_decide_eq_true (by first | (with_reducible assumption) | assumption)) hq55)); (try (obtain ⟨ve55_0, rfl, ge55_0⟩ := hM55)); (try (have hv55 := hcc55 0 _ rfl)); (try (rw [Nat.add_zero, show ((Kd.slice 3 (Kd.int .i64))).sz = 1 from rfl, Nat.mul_one] at hv55)); (try (replace hv55 := Option.some.inj (hv55.symm.trans HX194_0.out))); (try (subst hv55)); (try (clear hcc55 hcl55)); (try (replace ge55_0 := (show Kd.R (Kd.int .i64) 3 _ _ _ _ (rd_L2 x5_2 x6_1) from ge55_0))); (try (have HP55 := Kd.R_putg ge55_0 (x7_2 : Int) (rd (rd_L2 x5_2 (ji22)) x7_2))))); refine store_event (t := 3) (p := 90) (v := ?vo_w56) (w1 := (wc.setCell ⟨go54, (x7_2 : Int).toNat, none⟩ (.int .i64 (rd (rd_L2 x5_2 (ji22)) x7_2)))) ?hg ?ho ?hn ?hr ?_; (case ho => rfl); (case hg => rfl); (case hn => rfl); (case hr => first | (go_simp; done) | (go_simp; rfl)); intro w56 hw; have hg : wc.grownBy w56 (some go54) := (by rw [hw]; exact HP55.2); have hz_ : Kd.R (Kd.int .i64) 3 w56 w.heap.size oki55 (.slice (some ⟨go54, 0, none⟩) (rd_L2 x5_2 x6_1).length c170_0) y195 := (by rw [hw, Ny195.out]; exact HP55.1); have hp_ : Kd.S (Kd.slice 3 (Kd.int .i64)) 35 w56 w.heap.size (fun _ => True) (.slice (some ⟨go14, 0, none⟩) x5_2.length co14) y197 := (by rw [Ny197.out]; exact hbk55 hg (fun k_ e_ => by injection e_ with e_; subst e_; exact ge55_0.1 _ rfl) (Kd.M_row hz_)); have hm_ := Kd.R_mono hz_ hok55; clear HP55 hbk55; have n0_ := Aside0.mk (hp_); have n1_ := Aside0.mk ((by rw [hw]; exact below_set (HB.out) GB54.out : Below w.heap.size w w56)); have n2_ := Aside0.mk (hm_); have n3_ := Aside0.mk ((Kd.R_reads' hm_).2.1); clear HO_5; clear HB; clear HL168_0; clear HL170_0; clear HL194_0; have HO_5 := n0_; have HB := n1_; have HL201 := n2_; have HC196 := n3_; clear n0_ n1_ n2_ n3_; clear hg hw hp_ hz_ hm_ hok55))
                                                        repeat (go_quiet (first | ((with_reducible refine gate_store (t := 3) (p := 90) rfl ?_); (try (rw [drewN_self wc]; generalize hq_ : World.drewN wc _ = wc; (try (replace hx168_0 := cell_at hq_ hx168_0)); (try (replace hx169_0 := cell_at hq_ hx169_0)); (try (replace hx170_0 := cell_at hq_ hx170_0)); (try (replace hx171_0 := cell_at hq_ hx171_0)); (try (replace hx186_0 := cell_at hq_ hx186_0)); (try (replace hx187_0 := cell_at hq_ hx187_0)); (try (replace hx194_0 := cell_at hq_ hx194_0)); (try (replace hx54_0 := cell_at hq_ hx54_0)); (try (replace hf54_0 := frozen_at hq_ hf54_0)); (try (replace HX168_0 := Aside0.mk (cell_at hq_ HX168_0.out))); (try (replace HX170_0 := Aside0.mk (cell_at hq_ HX170_0.out))); (try (replace HX190_0 := Aside0.mk (cell_at hq_ HX190_0.out))); (try (replace HX194_0 := Aside0.mk (cell_at hq_ HX194_0.out))); have n0_ := Aside0.mk (Kd.S_at hq_ HO_5.out); (try have n1_ := Aside0.mk (Kd.R_at hq_ HL201.out)); have n2_ := Aside0.mk (below_at hq_ HB.out); (try clear HL201); clear hq_ HO_5 HB; have HO_5 := n0_; (try have HL201 := n1_); have HB := n2_; (try clear n1_); clear n0_ n2_; (try (have hq55 : (x6_1 : Int) < (x5_2.length : Int) := (by have h_ : (x6_1 : Int) < ((x5_2.length : Int) : Int) := of_decide_eq_true (by first | (with_reducible assumption) | assumption); first | exact h_ | (have e_ := (Kd.S_reads' HO_5.out).1; omega) | simpa only [List.length_set, List.length_set] using h_))); (try (obtain ⟨oki55, ce55, hcl55, hM55, hcc55, hok55, hbk55⟩ := Kd.S_borrow HO_5.out [] (x6_1 : Int) (of_decide_eq_true (by first | (with_reducible assumption) | assumption)) hq55)); (try (obtain ⟨ve55_0, rfl, ge55_0⟩ := hM55)); (try (have hv55 := hcc55 0 _ rfl)); (try (rw [Nat.add_zero, show ((Kd.slice 3 (Kd.int .i64))).sz = 1 from rfl, Nat.mul_one] at hv55)); (try (replace hv55 := Option.some.inj (hv55.symm.trans HX194_0.out))); (try (subst hv55)); (try (clear hcc55 hcl55)); (try (replace ge55_0 := (show Kd.R (Kd.int .i64) 3 _ _ _ _ (rd_L2 x5_2 x6_1) from ge55_0))); (try (have HP55 := Kd.R_putg ge55_0 (x7_2 : Int) (rd (rd_L2 x5_2 (ji22)) x7_2))))); refine store_event (t := 3) (p := 90) (v := ?vo_w56) (w1 := (wc.setCell ⟨go54, (x7_2 : Int).toNat, none⟩ (.int .i64 (rd (rd_L2 x5_2 (ji22)) x7_2)))) ?hg ?ho ?hn ?hr ?_; (case ho => rfl); (case hg => rfl); (case hn => rfl); (case hr => first | (go_simp; done) | (go_simp; rfl)); intro w56 hw; have hg : wc.grownBy w56 (some go54) := (by rw [hw]; exact HP55.2); have hz_ : Kd.R (Kd.int .i64) 3 w56 w.heap.size oki55 (.slice (some ⟨go54, 0, none⟩) (rd_L2 x5_2 x6_1).length c170_0) y195 := (by rw [hw, Ny195.out]; exact HP55.1); have hp_ : Kd.S (Kd.slice 3 (Kd.int .i64)) 35 w56 w.heap.size (fun _ => True) (.slice (some ⟨go14, 0, none⟩) x5_2.length co14) y197 := (by rw [Ny197.out]; exact hbk55 hg (fun k_ e_ => by injection e_ with e_; subst e_; exact ge55_0.1 _ rfl) (Kd.M_row hz_)); have hm_ := Kd.R_mono hz_ hok55; clear HP55 hbk55; have n0_ := Aside0.mk (hp_); have n1_ := Aside0.mk ((by rw [hw]; exact below_set (HB.out) GB54.out : Below w.heap.size w w56)); have n2_ := Aside0.mk (hm_); have n3_ := Aside0.mk ((Kd.R_reads' hm_).2.1); clear HO_5; clear HB; clear HL168_0; clear HL170_0; clear HL194_0; have HO_5 := n0_; have HB := n1_; have HL201 := n2_; have HC196 := n3_; clear n0_ n1_ n2_ n3_; clear hg hw hp_ hz_ hm_ hok55)); try go_wp2_with (first | ((with_reducible refine gate_store (t := 3) (p := 90) rfl ?_); (try (rw [drewN_self wc]; generalize hq_ : World.drewN wc _ = wc; (try (replace hx168_0 := cell_at hq_ hx168_0)); (try (replace hx169_0 := cell_at hq_ hx169_0)); (try (replace hx170_0 := cell_at hq_ hx170_0)); (try (replace hx171_0 := cell_at hq_ hx171_0)); (try (replace hx186_0 := cell_at hq_ hx186_0)); (try (replace hx187_0 := cell_at hq_ hx187_0)); (try (replace hx194_0 := cell_at hq_ hx194_0)); (try (replace hx54_0 := cell_at hq_ hx54_0)); (try (replace hf54_0 := frozen_at hq_ hf54_0)); (try (replace HX168_0 := Aside0.mk (cell_at hq_ HX168_0.out))); (try (replace HX170_0 := Aside0.mk (cell_at hq_ HX170_0.out))); (try (replace HX190_0 := Aside0.mk (cell_at hq_ HX190_0.out))); (try (replace HX194_0 := Aside0.mk (cell_at hq_ HX194_0.out))); have n0_ := Aside0.mk (Kd.S_at hq_ HO_5.out); (try have n1_ := Aside0.mk (Kd.R_at hq_ HL201.out)); have n2_ := Aside0.mk (below_at hq_ HB.out); (try clear HL201); clear hq_ HO_5 HB; have HO_5 := n0_; (try have HL201 := n1_); have HB := n2_; (try clear n1_); clear n0_ n2_; (try (have hq55 : (x6_1 : Int) < (x5_2.length : Int) := (by have h_ : (x6_1 : Int) < ((x5_2.length : Int) : Int) := of_decide_eq_true (by first | (with_reducible assumption) | assumption); first | exact h_ | (have e_ := (Kd.S_reads' HO_5.out).1; omega) | simpa only [List.length_set, List.length_set] using h_))); (try (obtain ⟨oki55, ce55, hcl55, hM55, hcc55, hok55, hbk55⟩ := Kd.S_borrow HO_5.out [] (x6_1 : Int) (of_decide_eq_true (by first | (with_reducible assumption) | assumption)) hq55)); (try (obtain ⟨ve55_0, rfl, ge55_0⟩ := hM55)); (try (have hv55 := hcc55 0 _ rfl)); (try (rw [Nat.add_zero, show ((Kd.slice 3 (Kd.int .i64))).sz = 1 from rfl, Nat.mul_one] at hv55)); (try (replace hv55 := Option.some.inj (hv55.symm.trans HX194_0.out))); (try (subst hv55)); (try (clear hcc55 hcl55)); (try (replace ge55_0 := (show Kd.R (Kd.int .i64) 3 _ _ _ _ (rd_L2 x5_2 x6_1) from ge55_0))); (try (have HP55 := Kd.R_putg ge55_0 (x7_2 : Int) (rd (rd_L2 x5_2 (ji22)) x7_2))))); refine store_event (t := 3) (p := 90) (v := ?vo_w56) (w1 := (wc.setCell ⟨go54, (x7_2 : Int).toNat, none⟩ (.int .i64 (rd (rd_L2 x5_2 (ji22)) x7_2)))) ?hg ?ho ?hn ?hr ?_; (case ho => rfl); (case hg => rfl); (case hn => rfl); (case hr => first | (go_simp; done) | (go_simp; rfl)); intro w56 hw; have hg : wc.grownBy w56 (some go54) := (by rw [hw]; exact HP55.2); have hz_ : Kd.R (Kd.int .i64) 3 w56 w.heap.size oki55 (.slice (some ⟨go54, 0, none⟩) (rd_L2 x5_2 x6_1).length c170_0) y195 := (by rw [hw, Ny195.out]; exact HP55.1); have hp_ : Kd.S (Kd.slice 3 (Kd.int .i64)) 35 w56 w.heap.size (fun _ => True) (.slice (some ⟨go14, 0, none⟩) x5_2.length co14) y197 := (by rw [Ny197.out]; exact hbk55 hg (fun k_ e_ => by injection e_ with e_; subst e_; exact ge55_0.1 _ rfl) (Kd.M_row hz_)); have hm_ := Kd.R_mono hz_ hok55; clear HP55 hbk55; have n0_ := Aside0.mk (hp_); have n1_ := Aside0.mk ((by rw [hw]; exact below_set (HB.out) GB54.out : Below w.heap.size w w56)); have n2_ := Aside0.mk (hm_); have n3_ := Aside0.mk ((Kd.R_reads' hm_).2.1); clear HO_5; clear HB; clear HL168_0; clear HL170_0; clear HL194_0; have HO_5 := n0_; have HB := n1_; have HL201 := n2_; have HC196 := n3_; clear n0_ n1_ n2_ n3_; clear hg hw hp_ hz_ hm_ hok55)))
                                                        (try simp only [← hl5_2])
                                                        go_roundg kj18
                                                        case measure => have := HK1.out; have := HK2.out; have := HJ18.out; omega
                                                        case rel => exact ⟨(y197), (wrap64 (x7_2 - 1)), (by first | rfl | (simp; done) | (simp [*]; done)), H', ⟨by have := HK1.out; have := HK2.out; have := HJ18.out; omega⟩, ⟨by (try simp only [hl5_2]); (with_reducible repeat (first | apply Kd.S_alloc | apply Kd.S_drewN | apply Kd.S_drew)); exact HO_5.out⟩, ⟨by repeat (first | (with_reducible first | exact HB.out | apply below_alloc | apply pw_below_drewN | apply below_drew1) | exact HB.out)⟩⟩
                                                      · rw [if_neg c53] at H
                                                        exact absurd H (by simp)
                                                  · rw [if_neg c46] at H
                                                    exact absurd H (by simp)
                                                · rw [if_neg c45] at H
                                                  exact absurd H (by simp)
                                            · rw [if_neg c31] at H
                                              exact absurd H (by simp)
                                          · rw [if_neg c30] at H
                                            exact absurd H (by simp)
                                        · rw [if_neg c28] at H
                                          exact absurd H (by simp)
                                      · rw [if_neg c27] at H
                                        exact absurd H (by simp)
                                    · rw [if_neg c26] at H
                                      exact absurd H (by simp)
                                  · rw [if_neg c25] at H
                                    exact absurd H (by simp)
                                · rw [if_neg c24] at H
                                  exact absurd H (by simp)
                              · rw [if_neg c23] at H
                                exact absurd H (by simp)
                            · replace c21 := Bool.eq_false_iff.mpr c21
                              subst c21
                              have H1 : (spec_l04Table.l0 kj18 l0 l1 x5_2 (wrap64 (x6_1 - 1))) = some r := by rw [if_neg (show ¬ (false = true) by decide)] at H; exact H
                              clear H
                              have H := H1
                              clear H1
                              have H' := Aside0.mk H
                              clear H
                              go_wp2
                              repeat (go_quiet (fail); try go_wp2)
                              (try simp only [← hl5_2])
                              go_roundg kj18
                              case measure => have := HK1.out; have := HK2.out; have := HJ18.out; omega
                              case rel => exact ⟨(x5_2), (wrap64 (x6_1 - 1)), (by first | rfl | (simp; done) | (simp [*]; done)), H', ⟨by have := HK1.out; have := HK2.out; have := HJ18.out; omega⟩, ⟨by (try simp only [hl5_2]); (with_reducible repeat (first | apply Kd.S_alloc | apply Kd.S_drewN | apply Kd.S_drew)); exact HO_5.out⟩, ⟨by repeat (first | (with_reducible first | exact HB.out | apply below_alloc | apply pw_below_drewN | apply below_drew1) | exact HB.out)⟩⟩
                  · rw [if_neg c13] at H
                    exact absurd H (by simp)
                · rw [if_neg c12] at H
                  exact absurd H (by simp)
              · rw [if_neg c11] at H
                exact absurd H (by simp)
            · rw [if_neg c10] at H
              exact absurd H (by simp)
          · rw [if_neg c8] at H
            have c8b0 : decide (0 ≤ x6_1) = false := decide_eq_false c8
            clear c8
            obtain rfl := Option.some.inj H
            go_wp2
            repeat (go_quiet (fail); try go_wp2)
            go_ret
            exact ⟨_, by first | rfl | (simp [errW_none, errW_some] <;> rfl) | (simp only [← hji3]; first | rfl | (simp [errW_none, errW_some] <;> rfl)) | (simp [*, errW_none, errW_some] <;> rfl), by (with_reducible repeat (first | apply Kd.S_alloc | apply Kd.S_drewN | apply Kd.S_drew)); exact HO_5.out, by repeat (first | (with_reducible first | exact HB.out | apply below_alloc | apply pw_below_drewN | apply below_drew1) | exact HB.out)⟩
    · rw [if_neg c5] at H
      exact absurd H (by simp)
  · rw [if_neg c4] at H
    exact absurd H (by simp)

end Go.Proofs.Ytnimljoagcokaaa.PFnExactAlign
