-- Made by a program (the kit's print with additions of this session: wip/tools/patch_print.py, ext.py).
import Derived.Test.YtnimljoagcokaaaPFnExactEditsOfx0
namespace Go.Proofs.Ytnimljoagcokaaa.PFnExactEditsOf
open Go.RowKit Go.Proofs.YtnimljoagcokaaaW.PrintWords Go.Proofs.YtnimljoagcokaaaW.PrintLast Go.Proofs.YtnimljoagcokaaaW.PrintMore
attribute [local go_sem] max2_int min2_int max_two min_two max_three min_three max_four min_four   -- for this text's walks alone
set_option linter.unusedVariables false
set_option linter.unusedSimpArgs false

/-! ### spec_l04Table: function 56 -/
mutual
def spec_l04Table.l0 : Nat → List ByteArray → List ByteArray → List (List Int) → Int → Option ((List (List Int)))
  | 0, _, _, _, _ => none
  | k + 1, x0, x1, x5, x6 => if x6 ≥ 0 then (if 0 ≤ (wrap64 ((x1.length : Int) + 1)) then (if (wrap64 ((x1.length : Int) + 1) : Int).toNat ≤ 35184372088832 then (if 0 ≤ x6 then (if x6 < (x5.length : Int) then (spec_l04Table.l1 k x0 x1 (x5.set (x6 : Int).toNat (List.replicate (wrap64 ((x1.length : Int) + 1) : Int).toNat 0)) x6 (wrap64 ((x1.length : Int) - 1))) else (none)) else (none)) else (none)) else (none)) else (some x5)
def spec_l04Table.l1 : Nat → List ByteArray → List ByteArray → List (List Int) → Int → Int → Option ((List (List Int)))
  | 0, _, _, _, _, _ => none
  | k + 1, x0, x1, x5, x6, x7 => if x7 ≥ 0 then (spec_l04Table.j2 k x0 x1 x5 x6 x7 (decide (x6 < (x0.length : Int)))) else (spec_l04Table.j2 k x0 x1 x5 x6 x7 false)
def spec_l04Table.j2 : Nat → List ByteArray → List ByteArray → List (List Int) → Int → Int → Bool → Option ((List (List Int)))
  | 0, _, _, _, _, _, _ => none
  | k + 1, x0, x1, x5, x6, x7, x36 => if x36 = true then (if 0 ≤ (wrap64 (x6 + 1)) then (if (wrap64 (x6 + 1)) < (x5.length : Int) then (if 0 ≤ x7 then (if x7 < ((rd_L4 x5 (wrap64 (x6 + 1))).length : Int) then (if 0 ≤ x6 then (if x6 < (x5.length : Int) then (if 0 ≤ (wrap64 (x7 + 1)) then (if (wrap64 (x7 + 1)) < ((rd_L4 x5 x6).length : Int) then (if (rd (rd_L4 x5 x6) (wrap64 (x7 + 1))) > (rd (rd_L4 x5 (wrap64 (x6 + 1))) x7) then (if x6 < (x0.length : Int) then (if x7 < (x1.length : Int) then (if (rdOf ByteArray.empty x0 x6).toList = (rdOf ByteArray.empty x1 x7).toList then (if (wrap64 (x7 + 1)) < ((rd_L4 x5 (wrap64 (x6 + 1))).length : Int) then (if x7 < ((rd_L4 x5 x6).length : Int) then (spec_l04Table.l1 k x0 x1 (x5.set (x6 : Int).toNat ((rd_L4 x5 x6).set (x7 : Int).toNat (wrap64 ((rd (rd_L4 x5 (wrap64 (x6 + 1))) (wrap64 (x7 + 1))) + 1)))) x6 (wrap64 (x7 - 1))) else (none)) else (none)) else (if x7 < ((rd_L4 x5 x6).length : Int) then (spec_l04Table.l1 k x0 x1 (x5.set (x6 : Int).toNat ((rd_L4 x5 x6).set (x7 : Int).toNat (rd (rd_L4 x5 x6) (wrap64 (x7 + 1))))) x6 (wrap64 (x7 - 1))) else (none))) else (none)) else (none)) else (if x6 < (x0.length : Int) then (if x7 < (x1.length : Int) then (if (rdOf ByteArray.empty x0 x6).toList = (rdOf ByteArray.empty x1 x7).toList then (if (wrap64 (x7 + 1)) < ((rd_L4 x5 (wrap64 (x6 + 1))).length : Int) then (if x7 < ((rd_L4 x5 x6).length : Int) then (spec_l04Table.l1 k x0 x1 (x5.set (x6 : Int).toNat ((rd_L4 x5 x6).set (x7 : Int).toNat (wrap64 ((rd (rd_L4 x5 (wrap64 (x6 + 1))) (wrap64 (x7 + 1))) + 1)))) x6 (wrap64 (x7 - 1))) else (none)) else (none)) else (if x7 < ((rd_L4 x5 x6).length : Int) then (spec_l04Table.l1 k x0 x1 (x5.set (x6 : Int).toNat ((rd_L4 x5 x6).set (x7 : Int).toNat (rd (rd_L4 x5 (wrap64 (x6 + 1))) x7))) x6 (wrap64 (x7 - 1))) else (none))) else (none)) else (none))) else (none)) else (none)) else (none)) else (none)) else (none)) else (none)) else (none)) else (none)) else (spec_l04Table.l0 k x0 x1 x5 (wrap64 (x6 - 1)))
end
def spec_l04Table.f (k : Nat) (l0 : List ByteArray) (l1 : List ByteArray) : Option ((List (List Int))) := if 0 ≤ (wrap64 ((l0.length : Int) + 1)) then (if (wrap64 ((l0.length : Int) + 1) : Int).toNat ≤ 11728124029610 then (spec_l04Table.l0 k l0 l1 (List.replicate (wrap64 ((l0.length : Int) + 1) : Int).toNat []) (l0.length : Int)) else (none)) else (none)
theorem spec_l04Table.mono_l : ∀ k, (∀ y0 y1 y2 y3, LeO (spec_l04Table.l0 k y0 y1 y2 y3) (spec_l04Table.l0 (k + 1) y0 y1 y2 y3)) ∧ (∀ y0 y1 y2 y3 y4, LeO (spec_l04Table.l1 k y0 y1 y2 y3 y4) (spec_l04Table.l1 (k + 1) y0 y1 y2 y3 y4)) ∧ (∀ y0 y1 y2 y3 y4 y5, LeO (spec_l04Table.j2 k y0 y1 y2 y3 y4 y5) (spec_l04Table.j2 (k + 1) y0 y1 y2 y3 y4 y5))
  | 0 => ⟨fun _ _ _ _ r h => by simp [spec_l04Table.l0] at h, fun _ _ _ _ _ r h => by simp [spec_l04Table.l1] at h, fun _ _ _ _ _ _ r h => by simp [spec_l04Table.j2] at h⟩
  | k + 1 => by
    obtain ⟨ih0, ih1, ih2⟩ := spec_l04Table.mono_l k
    refine ⟨?_, ?_, ?_⟩
    ·intro y0 y1 y2 y3
     unfold spec_l04Table.l0
     repeat' first
     | (with_reducible exact ih0 _ _ _ _)
     | (with_reducible exact ih1 _ _ _ _ _)
     | (with_reducible exact ih2 _ _ _ _ _ _)
     | (with_reducible exact LeO.refl _)
     | (with_reducible exact LeO.none _)
     | (with_reducible refine LeO.ite ?_ ?_)
     | (with_reducible refine LeO.bind ?_ (fun _ => ?_))
     | exact ih0 _ _ _ _
     | exact ih1 _ _ _ _ _
     | exact ih2 _ _ _ _ _ _
     | exact LeO.none _
     | refine LeO.ite ?_ ?_
     | refine LeO.bind ?_ (fun _ => ?_)
    ·intro y0 y1 y2 y3 y4
     unfold spec_l04Table.l1
     repeat' first
     | (with_reducible exact ih0 _ _ _ _)
     | (with_reducible exact ih1 _ _ _ _ _)
     | (with_reducible exact ih2 _ _ _ _ _ _)
     | (with_reducible exact LeO.refl _)
     | (with_reducible exact LeO.none _)
     | (with_reducible refine LeO.ite ?_ ?_)
     | (with_reducible refine LeO.bind ?_ (fun _ => ?_))
     | exact ih0 _ _ _ _
     | exact ih1 _ _ _ _ _
     | exact ih2 _ _ _ _ _ _
     | exact LeO.none _
     | refine LeO.ite ?_ ?_
     | refine LeO.bind ?_ (fun _ => ?_)
    ·intro y0 y1 y2 y3 y4 y5
     unfold spec_l04Table.j2
     repeat' first
     | (with_reducible exact ih0 _ _ _ _)
     | (with_reducible exact ih1 _ _ _ _ _)
     | (with_reducible exact ih2 _ _ _ _ _ _)
     | (with_reducible exact LeO.refl _)
     | (with_reducible exact LeO.none _)
     | (with_reducible refine LeO.ite ?_ ?_)
     | (with_reducible refine LeO.bind ?_ (fun _ => ?_))
     | exact ih0 _ _ _ _
     | exact ih1 _ _ _ _ _
     | exact ih2 _ _ _ _ _ _
     | exact LeO.none _
     | refine LeO.ite ?_ ?_
     | refine LeO.bind ?_ (fun _ => ?_)
theorem spec_l04Table.mono : ∀ a0 a1 k, LeO (spec_l04Table.f k a0 a1) (spec_l04Table.f (k + 1) a0 a1) := by
  intro a0 a1 k
  obtain ⟨ih0, ih1, ih2⟩ := spec_l04Table.mono_l k
  unfold spec_l04Table.f
  repeat' first
     | (with_reducible exact ih0 _ _ _ _)
     | (with_reducible exact ih1 _ _ _ _ _)
     | (with_reducible exact ih2 _ _ _ _ _ _)
     | (with_reducible exact LeO.refl _)
     | (with_reducible exact LeO.none _)
     | (with_reducible refine LeO.ite ?_ ?_)
     | (with_reducible refine LeO.bind ?_ (fun _ => ?_))
     | exact ih0 _ _ _ _
     | exact ih1 _ _ _ _ _
     | exact ih2 _ _ _ _ _ _
     | exact LeO.none _
     | refine LeO.ite ?_ ?_
     | refine LeO.bind ?_ (fun _ => ?_)
set_option maxHeartbeats 8000000 in
set_option maxRecDepth 100000 in
theorem spec_l04Table.calls (k : Nat) (A0 : Option Addr) (c0 : Nat) (l0 : List ByteArray) (A1 : Option Addr) (c1 : Nat) (l1 : List ByteArray) (r : List (List Int)) (w : World) (hr0 : Kd.C Kd.string w A0 l0.length l0) (hc0 : l0.length ≤ c0) (hr1 : Kd.C Kd.string w A1 l1.length l1) (hc1 : l1.length ≤ c1) (h : spec_l04Table.f k l0 l1 = some r) :
    Calls Try.prog 56 #[.slice A0 l0.length c0, .slice A1 l1.length c1] w fun e w' => ∃ v0_ : Value, e = .returned (v0_) ∧ Kd.S (Kd.slice 3 (Kd.int .i64)) 35 w' w.heap.size (fun _ => True) v0_ r ∧ Below w.heap.size w w' := by
  have HR0 := Aside0.mk hr0
  have HC0 := Aside0.mk hc0
  clear hr0 hc0
  have HR1 := Aside0.mk hr1
  have HC1 := Aside0.mk hc1
  clear hr1 hc1
  have HB := Aside0.mk (Below.refl w.heap.size w)
  have H : (if 0 ≤ (wrap64 ((l0.length : Int) + 1)) then (if (wrap64 ((l0.length : Int) + 1) : Int).toNat ≤ 11728124029610 then (spec_l04Table.l0 k l0 l1 (List.replicate (wrap64 ((l0.length : Int) + 1) : Int).toNat []) (l0.length : Int)) else (none)) else (none)) = some r := h
  clear h
  obtain ⟨ji3, hji3⟩ : ∃ j_ : Int, (wrap64 ((l0.length : Int) + 1)) = j_ := ⟨_, rfl⟩
  replace H : (if 0 ≤ (ji3) then (if (ji3 : Int).toNat ≤ 11728124029610 then (spec_l04Table.l0 k l0 l1 (List.replicate (ji3 : Int).toNat []) (l0.length : Int)) else (none)) else (none)) = some r := by first | (rw [hji3] at H; exact H) | (simp only [hji3] at H ⊢; exact H)
  have hji3w : (IntKind.i64.wrap ((l0.length : Int) + 1)) = ji3 := (i64_w _).trans hji3
  by_cases c4 : 0 ≤ (ji3)
  · rw [if_pos c4] at H
    have c4b0 := eq_true c4
    have c4b1 : decide (0 ≤ (ji3)) = true := decide_eq_true c4
    clear c4
    by_cases c5 : (ji3 : Int).toNat ≤ 11728124029610
    ·rw [if_pos c5] at H
     have c5b0 := eq_true c5
     have c5b1 : decide ((ji3 : Int).toNat ≤ 11728124029610) = true := decide_eq_true c5
     clear c5
     obtain ⟨y128, hy128⟩ : ∃ y_ : List (List Int), y_ = (List.replicate (ji3 : Int).toNat []) := ⟨_, rfl⟩
     replace H : (spec_l04Table.l0 k l0 l1 y128 (l0.length : Int)) = some r := by first | (rw [hy128]; with_reducible exact H) | (have H2_ := (Option.bind_some _ _).symm.trans H; rw [hy128]; with_reducible exact H2_) | (have H2_ := (Option.bind_some _ _).symm.trans H; with_reducible exact H2_) | with_reducible exact H | (rw [hy128]; exact H) | exact H
     have Ny128 := Aside0.mk hy128
     clear hy128
     have H' := Aside0.mk H
     clear H
     go_enter Try.func56, Try.ntmps56
     go_wp2_with (first | ((with_reducible refine gate_dst (N := 12) rfl ?_); (try (refine gate_guard (by rfl) ?_; dsimp only)); refine Kd.S_make (Kd.slice 3 (Kd.int .i64)) _ 35 rfl (N := 12) rfl 69 _ _ rfl ji3 rfl rfl Try.underlying69 (.slice none 0 0) 24 info35 rfl (by decide) (by omega) [] (ok := fun _ => True) (okp := fun _ => True) ⟨_, rfl, Kd.R_nil _ _ _ _ _⟩ (fun _ hk => hk) trivial (of_decide_eq_true (by first | (with_reducible assumption) | assumption)) (Nat.le_trans (Nat.mul_le_mul_right _ (of_decide_eq_true (by first | (with_reducible assumption) | assumption) : ji3.toNat ≤ 11728124029610)) (by omega)) (Below.refl _ _) (Nat.le_refl _) ?_; intro v129 w6 ho7 hb hg_ hnew_; clear hg_ hnew_; (first | rw [← Ny128.out] at ho7 | (simp only [Int.reduceToNat] at ho7; rw [← Ny128.out] at ho7)); have n0_ := Aside0.mk (Kd.S_lower ho7 (below_size (by repeat (first | (with_reducible first | exact HB.out | apply below_alloc | apply pw_below_drewN | apply below_drew1) | exact HB.out)))); have n1_ := Aside0.mk (below_step (by repeat (first | (with_reducible first | exact HB.out | apply below_alloc | apply pw_below_drewN | apply below_drew1) | exact HB.out)) hb); clear HB; have HO130 := n0_; have HB := n1_; clear n0_ n1_; clear hb ho7))
     repeat (go_quiet (first | ((with_reducible refine gate_dst (N := 12) rfl ?_); (try (refine gate_guard (by rfl) ?_; dsimp only)); refine Kd.S_make (Kd.slice 3 (Kd.int .i64)) _ 35 rfl (N := 12) rfl 69 _ _ rfl ji3 rfl rfl Try.underlying69 (.slice none 0 0) 24 info35 rfl (by decide) (by omega) [] (ok := fun _ => True) (okp := fun _ => True) ⟨_, rfl, Kd.R_nil _ _ _ _ _⟩ (fun _ hk => hk) trivial (of_decide_eq_true (by first | (with_reducible assumption) | assumption)) (Nat.le_trans (Nat.mul_le_mul_right _ (of_decide_eq_true (by first | (with_reducible assumption) | assumption) : ji3.toNat ≤ 11728124029610)) (by omega)) (Below.refl _ _) (Nat.le_refl _) ?_; intro v129 w6 ho7 hb hg_ hnew_; clear hg_ hnew_; (first | rw [← Ny128.out] at ho7 | (simp only [Int.reduceToNat] at ho7; rw [← Ny128.out] at ho7)); have n0_ := Aside0.mk (Kd.S_lower ho7 (below_size (by repeat (first | (with_reducible first | exact HB.out | apply below_alloc | apply pw_below_drewN | apply below_drew1) | exact HB.out)))); have n1_ := Aside0.mk (below_step (by repeat (first | (with_reducible first | exact HB.out | apply below_alloc | apply pw_below_drewN | apply below_drew1) | exact HB.out)) hb); clear HB; have HO130 := n0_; have HB := n1_; clear n0_ n1_; clear hb ho7)); try go_wp2_with (first | ((with_reducible refine gate_dst (N := 12) rfl ?_); (try (refine gate_guard (by rfl) ?_; dsimp only)); refine Kd.S_make (Kd.slice 3 (Kd.int .i64)) _ 35 rfl (N := 12) rfl 69 _ _ rfl ji3 rfl rfl Try.underlying69 (.slice none 0 0) 24 info35 rfl (by decide) (by omega) [] (ok := fun _ => True) (okp := fun _ => True) ⟨_, rfl, Kd.R_nil _ _ _ _ _⟩ (fun _ hk => hk) trivial (of_decide_eq_true (by first | (with_reducible assumption) | assumption)) (Nat.le_trans (Nat.mul_le_mul_right _ (of_decide_eq_true (by first | (with_reducible assumption) | assumption) : ji3.toNat ≤ 11728124029610)) (by omega)) (Below.refl _ _) (Nat.le_refl _) ?_; intro v129 w6 ho7 hb hg_ hnew_; clear hg_ hnew_; (first | rw [← Ny128.out] at ho7 | (simp only [Int.reduceToNat] at ho7; rw [← Ny128.out] at ho7)); have n0_ := Aside0.mk (Kd.S_lower ho7 (below_size (by repeat (first | (with_reducible first | exact HB.out | apply below_alloc | apply pw_below_drewN | apply below_drew1) | exact HB.out)))); have n1_ := Aside0.mk (below_step (by repeat (first | (with_reducible first | exact HB.out | apply below_alloc | apply pw_below_drewN | apply below_drew1) | exact HB.out)) hb); clear HB; have HO130 := n0_; have HB := n1_; clear n0_ n1_; clear hb ho7)))
     go_loopg [6] k (fun kq v6 w' => ∃ (x5_1 : List (List Int)) (x6_1 : Int), v6 = .int .i64 x6_1 ∧ Aside0 (spec_l04Table.l0 kq l0 l1 x5_1 x6_1 = some r) ∧ Aside0 (kq ≤ k) ∧ Aside0 (Kd.S (Kd.slice 3 (Kd.int .i64)) 35 w' w.heap.size (fun _ => True) v129 x5_1) ∧ Aside0 (Below w.heap.size w w'))
     case atStart => exact ⟨(y128), ((l0.length : Int)), (by first | rfl | (simp; done) | (simp [*]; done)), H', ⟨Nat.le_refl _⟩, ⟨by (with_reducible repeat (first | apply Kd.S_alloc | apply Kd.S_drewN | apply Kd.S_drew)); exact HO130.out⟩, ⟨by repeat (first | (with_reducible first | exact HB.out | apply below_alloc | apply pw_below_drewN | apply below_drew1) | exact HB.out)⟩⟩
     case round =>
      clear H'
      try clear c1
      try clear p2
      try clear c4
      try clear c4b0
      try clear c4b1
      try clear c5
      try clear c5b0
      try clear c5b1
      try clear p6
      obtain ⟨x5_1, x6_1, rfl, HA, HK1, HO_5, HB⟩ := hrel
      cases gk with
      | zero => exact absurd HA.out (by simp [spec_l04Table.l0])
      | succ k1 =>
       have H := HA.out
       clear HA
       simp only [spec_l04Table.l0] at H
       by_cases c8 : x6_1 ≥ 0
       ·rw [if_pos c8] at H
        have c8b0 : decide (0 ≤ x6_1) = true := decide_eq_true c8
        clear c8
        obtain ⟨ji9, hji9⟩ : ∃ j_ : Int, (wrap64 ((l1.length : Int) + 1)) = j_ := ⟨_, rfl⟩
        replace H : (if 0 ≤ (ji9) then (if (ji9 : Int).toNat ≤ 35184372088832 then (if 0 ≤ x6_1 then (if x6_1 < (x5_1.length : Int) then (spec_l04Table.l1 k1 l0 l1 (x5_1.set (x6_1 : Int).toNat (List.replicate (ji9 : Int).toNat 0)) x6_1 (wrap64 ((l1.length : Int) - 1))) else (none)) else (none)) else (none)) else (none)) = some r := by first | (rw [hji9] at H; exact H) | (simp only [hji9] at H ⊢; exact H)
        have hji9w : (IntKind.i64.wrap ((l1.length : Int) + 1)) = ji9 := (i64_w _).trans hji9
        by_cases c10 : 0 ≤ (ji9)
        ·rw [if_pos c10] at H
         have c10b0 := eq_true c10
         have c10b1 : decide (0 ≤ (ji9)) = true := decide_eq_true c10
         clear c10
         by_cases c11 : (ji9 : Int).toNat ≤ 35184372088832
         ·rw [if_pos c11] at H
          have c11b0 := eq_true c11
          have c11b1 : decide ((ji9 : Int).toNat ≤ 35184372088832) = true := decide_eq_true c11
          clear c11
          obtain ⟨y131, hy131⟩ : ∃ y_ : List Int, y_ = (List.replicate (ji9 : Int).toNat 0) := ⟨_, rfl⟩
          replace H : (if 0 ≤ x6_1 then (if x6_1 < (x5_1.length : Int) then (spec_l04Table.l1 k1 l0 l1 (x5_1.set (x6_1 : Int).toNat y131) x6_1 (wrap64 ((l1.length : Int) - 1))) else (none)) else (none)) = some r := by first | (rw [hy131]; with_reducible exact H) | (have H2_ := (Option.bind_some _ _).symm.trans H; rw [hy131]; with_reducible exact H2_) | (have H2_ := (Option.bind_some _ _).symm.trans H; with_reducible exact H2_) | with_reducible exact H | (rw [hy131]; exact H) | exact H
          have Ny131 := Aside0.mk hy131
          clear hy131
          by_cases c12 : 0 ≤ x6_1
          ·rw [if_pos c12] at H
           have c12b0 : decide (0 ≤ x6_1) = true := decide_eq_true c12
           clear c12
           by_cases c13 : x6_1 < (x5_1.length : Int)
           ·rw [if_pos c13] at H
            have c13b0 : decide (x6_1 < (x5_1.length : Int)) = true := decide_eq_true c13
            clear c13
            obtain ⟨y134, hy134⟩ : ∃ y_ : List (List Int), y_ = (x5_1.set (x6_1 : Int).toNat y131) := ⟨_, rfl⟩
            replace H : (spec_l04Table.l1 k1 l0 l1 y134 x6_1 (wrap64 ((l1.length : Int) - 1))) = some r := by first | (rw [hy134]; with_reducible exact H) | (have H2_ := (Option.bind_some _ _).symm.trans H; rw [hy134]; with_reducible exact H2_) | (have H2_ := (Option.bind_some _ _).symm.trans H; with_reducible exact H2_) | with_reducible exact H | (rw [hy134]; exact H) | exact H
            have Ny134 := Aside0.mk hy134
            clear hy134
            have H' := Aside0.mk H
            clear H
            go_wp2_with (first | ((with_reducible refine gate_dst (N := 24) rfl ?_); (try (refine gate_guard (by rfl) ?_; dsimp only)); refine Kd.R_make (Kd.int .i64) _ 3 rfl (N := 24) rfl 35 _ _ rfl ji9 rfl rfl Try.underlying35 (.int .i64 0) 8 info3 rfl (by decide) (by omega) 0 (ok := fun _ => True) (okp := fun _ => True) rfl (fun _ hk => hk) trivial (of_decide_eq_true (by first | (with_reducible assumption) | assumption)) (Nat.le_trans (Nat.mul_le_mul_right _ (of_decide_eq_true (by first | (with_reducible assumption) | assumption) : ji9.toNat ≤ 35184372088832)) (by omega)) (Below.refl _ _) (Nat.le_refl _) ?_; intro v132 w15 ho16 hb hg_ hnew_; clear hg_ hnew_; (first | rw [← Ny131.out] at ho16 | (simp only [Int.reduceToNat] at ho16; rw [← Ny131.out] at ho16)); have n0_ := Aside0.mk (Kd.S_elder' (by (with_reducible repeat (first | apply Kd.S_alloc | apply Kd.S_drewN | apply Kd.S_drew)); exact HO_5.out) (Kd.R_base ho16) hb); have n1_ := Aside0.mk (Kd.R_lower ho16 (below_size (by repeat (first | (with_reducible first | exact HB.out | apply below_alloc | apply pw_below_drewN | apply below_drew1) | exact HB.out)))); have n2_ := Aside0.mk (below_step (by repeat (first | (with_reducible first | exact HB.out | apply below_alloc | apply pw_below_drewN | apply below_drew1) | exact HB.out)) hb); clear HO_5; clear HB; have HO_5 := n0_; have HO133 := n1_; have HB := n2_; clear n0_ n1_ n2_; clear hb ho16; have p14 : 0 ≤ (x6_1 : Int) := of_decide_eq_true (by first | (with_reducible assumption) | assumption); have q14 : (x6_1 : Int) < ((x5_1.length : Int) : Int) := of_decide_eq_true (by first | (with_reducible assumption) | assumption); obtain ⟨go14, co14, eo14, gb14, gl14, cl14, HG14⟩ := Kd.S_form HO_5.out (by omega); (first | cases eo14 | (injection eo14 with ea_ en_ ec_; (first | subst ea_ | (injection ea_ with ea_; subst ea_)); subst ec_; clear en_)); have GB14 := Aside0.mk gb14; have GG14 := Aside0.mk HG14; clear gb14 gl14 HG14; obtain ⟨_, ce14, hcl14, hM14, hcc14, hfr14, _, _⟩ := Kd.S_elem HO_5.out [] (x6_1 : Int) p14 q14; obtain ⟨ve14_0, rfl, ge14_0⟩ := hM14; have hx14_0 := hcc14 0 _ rfl; have hf14_0 := hfr14 0; (try simp only [show ((Kd.slice 3 (Kd.int .i64))).sz = 1 from rfl, Nat.mul_one, Nat.add_zero] at hx14_0); (try simp only [show ((Kd.slice 3 (Kd.int .i64))).sz = 1 from rfl, Nat.mul_one, Nat.add_zero] at hf14_0); (try clear hcl14); (try clear hcc14); (try clear hfr14); (try clear hM14); replace p14 := eq_true p14; replace q14 := eq_true q14; have n_ := Aside0.mk (Kd.S_mono (ok' := (fun k_ => some k_ ≠ (v132 : Value).ownBlock)) HO_5.out (fun k_ hk => hk.2)); clear HO_5; have HO_5 := n_; clear n_; have HX17 := Aside0.mk (show Kd.S (Kd.slice 3 (Kd.int .i64)) 35 w15 w.heap.size (fun k_ => ((fun _ => True)) k_ ∧ ¬ ((fun k_ => some k_ = (v132 : Value).ownBlock)) k_) (.slice (some ⟨go14, 0, none⟩) x5_1.length co14) x5_1 from (by (with_reducible repeat (first | apply Kd.S_alloc | apply Kd.S_drewN | apply Kd.S_drew)); exact Kd.S_mono HO_5.out (fun k_ hk => ⟨trivial, fun e_ => hk e_⟩))); obtain ⟨oki17, ce17, hcl17, hM17, hcc17, hfr17, hoki17, hH17⟩ := Kd.S_elem HX17.out [] (x6_1 : Int) (of_decide_eq_true (by first | (with_reducible assumption) | assumption)) (by have h_ : (x6_1 : Int) < ((x5_1.length : Int) : Int) := of_decide_eq_true (by first | (with_reducible assumption) | assumption); first | exact h_ | (have e_ := (Kd.S_reads' HO_5.out).1; omega) | simpa using h_); obtain ⟨ve17_0, rfl, ge17_0⟩ := hM17; have HP17 := Kd.S_seg hH17 (of_decide_eq_true (by first | (with_reducible assumption) | assumption)) (by have h_ : (x6_1 : Int) < ((x5_1.length : Int) : Int) := of_decide_eq_true (by first | (with_reducible assumption) | assumption); first | exact h_ | (have e_ := (Kd.S_reads' HO_5.out).1; omega) | simpa using h_) (seg := [v132]) (j := 0) (show 1 ≤ 1 from by decide) (x' := y131) (Kd.M_row (Kd.R_mono (Kd.R_tight rfl (Kd.R_mono (ok' := fun k_ => ((fun _ => True)) k_ ∧ k_ ≠ go14) (Kd.R_apart' (HO133.out) (Kd.S_typed HO_5.out) (by decide)) (fun k_ hk => ⟨trivial, fun e_ => (hk.2) (by rw [e_]; rfl)⟩))) (fun _ h_ => Or.inr (h_)))) (fun _ hk => hk) (fun k_ hk_ => ((Kd.R_mono (ok' := fun k_ => ((fun _ => True)) k_ ∧ k_ ≠ go14) (Kd.R_apart' (HO133.out) (Kd.S_typed HO_5.out) (by decide)) (fun k_ hk => ⟨trivial, fun e_ => (hk.2) (by rw [e_]; rfl)⟩))).1 k_ hk_.symm); have hx17_0 := hcc17 0 _ rfl; (try simp only [show ((Kd.slice 3 (Kd.int .i64))).sz = 1 from rfl, Nat.mul_one, Nat.add_zero] at hx17_0); have hf17_0 := hfr17 0; (try simp only [show ((Kd.slice 3 (Kd.int .i64))).sz = 1 from rfl, Nat.mul_one, Nat.add_zero] at hf17_0); (try clear hcl17); (try clear hcc17); (try clear hfr17); (try clear hM17); (try clear hoki17); (try clear hH17); (try simp only [show ((Kd.slice 3 (Kd.int .i64))).sz = 1 from rfl, Nat.mul_one, Nat.add_zero] at HP17)) | ((with_reducible refine gate_store (t := 35) (p := 25) rfl ?_); (try (rw [drewN_self w15]; generalize hq_ : World.drewN w15 _ = w15; (try (replace hx14_0 := cell_at hq_ hx14_0)); (try (replace hx17_0 := cell_at hq_ hx17_0)); (try (replace hf14_0 := frozen_at hq_ hf14_0)); (try (replace hf17_0 := frozen_at hq_ hf17_0)); have n0_ := Aside0.mk (Kd.S_at hq_ HO_5.out); have n1_ := Aside0.mk (below_at hq_ HB.out); clear hq_ HO_5 HB; have HO_5 := n0_; have HB := n1_; clear n0_ n1_; (try (have n_ := Aside0.mk (Kd.S_mono (ok' := (fun k_ => some k_ ≠ (v132 : Value).ownBlock)) HO_5.out (fun k_ hk => hk.2)); clear HO_5; have HO_5 := n_; clear n_)); (try (have HX17 := Aside0.mk (show Kd.S (Kd.slice 3 (Kd.int .i64)) 35 w15 w.heap.size (fun k_ => ((fun _ => True)) k_ ∧ ¬ ((fun k_ => some k_ = (v132 : Value).ownBlock)) k_) (.slice (some ⟨go14, 0, none⟩) x5_1.length co14) x5_1 from (by (with_reducible repeat (first | apply Kd.S_alloc | apply Kd.S_drewN | apply Kd.S_drew)); exact Kd.S_mono HO_5.out (fun k_ hk => ⟨trivial, fun e_ => hk e_⟩))))); (try (obtain ⟨oki17, ce17, hcl17, hM17, hcc17, hfr17, hoki17, hH17⟩ := Kd.S_elem HX17.out [] (x6_1 : Int) (of_decide_eq_true (by first | (with_reducible assumption) | assumption)) (by have h_ : (x6_1 : Int) < ((x5_1.length : Int) : Int) := of_decide_eq_true (by first | (with_reducible assumption) | assumption); first | exact h_ | (have e_ := (Kd.S_reads' HO_5.out).1; omega) | simpa using h_))); (try (obtain ⟨ve17_0, rfl, ge17_0⟩ := hM17)); (try (have HP17 := Kd.S_seg hH17 (of_decide_eq_true (by first | (with_reducible assumption) | assumption)) (by have h_ : (x6_1 : Int) < ((x5_1.length : Int) : Int) := of_decide_eq_true (by first | (with_reducible assumption) | assumption); first | exact h_ | (have e_ := (Kd.S_reads' HO_5.out).1; omega) | simpa using h_) (seg := [v132]) (j := 0) (show 1 ≤ 1 from by decide) (x' := y131) (Kd.M_row (Kd.R_mono (Kd.R_tight rfl (Kd.R_mono (ok' := fun k_ => ((fun _ => True)) k_ ∧ k_ ≠ go14) (Kd.R_apart' (HO133.out) (Kd.S_typed HO_5.out) (by decide)) (fun k_ hk => ⟨trivial, fun e_ => (hk.2) (by rw [e_]; rfl)⟩))) (fun _ h_ => Or.inr (h_)))) (fun _ hk => hk) (fun k_ hk_ => ((Kd.R_mono (ok' := fun k_ => ((fun _ => True)) k_ ∧ k_ ≠ go14) (Kd.R_apart' (HO133.out) (Kd.S_typed HO_5.out) (by decide)) (fun k_ hk => ⟨trivial, fun e_ => (hk.2) (by rw [e_]; rfl)⟩))).1 k_ hk_.symm))); (try (have hx17_0 := hcc17 0 _ rfl)); (try (try simp only [show ((Kd.slice 3 (Kd.int .i64))).sz = 1 from rfl, Nat.mul_one, Nat.add_zero] at hx17_0)); (try (have hf17_0 := hfr17 0)); (try (try simp only [show ((Kd.slice 3 (Kd.int .i64))).sz = 1 from rfl, Nat.mul_one, Nat.add_zero] at hf17_0)); (try (clear hcl17 hcc17 hfr17 hM17 hoki17 hH17)); (try (try simp only [show ((Kd.slice 3 (Kd.int .i64))).sz = 1 from rfl, Nat.mul_one, Nat.add_zero] at HP17)))); refine store_event (t := 35) (p := 25) (v := ?vo_w18) (w1 := (w15.setCell ⟨go14, (x6_1 : Int).toNat, none⟩ (v132))) ?hg ?ho ?hn ?hr ?_; (case ho => rfl); (case hg => rfl); (case hn => rfl); (case hr => first | (go_simp; done) | (go_simp; rfl) | (obtain ⟨_, _, e_, _⟩ := Kd.R_reads (Aside0.out ‹Aside0 (Kd.R _ _ _ _ _ v132 _)›); go_simp; done) | (obtain ⟨_, _, e_, _⟩ := Kd.R_reads (Aside0.out ‹Aside0 (Kd.R _ _ _ _ _ v132 _)›); go_simp; rfl) | (obtain ⟨_, _, e_, _⟩ := Kd.R_reads (Kd.S_R (Aside0.out ‹Aside0 (Kd.S _ _ _ _ _ v132 _)›)); go_simp; done) | (obtain ⟨_, _, e_, _⟩ := Kd.R_reads (Kd.S_R (Aside0.out ‹Aside0 (Kd.S _ _ _ _ _ v132 _)›)); go_simp; rfl) | (obtain ⟨_, _, e_, _⟩ := Kd.N_reads (Aside0.out ‹Aside0 (Kd.N _ _ _ _ _ v132 _)›); go_simp; done) | (obtain ⟨_, _, e_, _⟩ := Kd.N_reads (Aside0.out ‹Aside0 (Kd.N _ _ _ _ _ v132 _)›); go_simp; rfl) | (obtain ⟨_, _, e_, _⟩ := Kd.Q_reads (Aside0.out ‹Aside0 (Kd.Q _ _ _ _ _ v132 _)›); go_simp; done) | (obtain ⟨_, _, e_, _⟩ := Kd.Q_reads (Aside0.out ‹Aside0 (Kd.Q _ _ _ _ _ v132 _)›); go_simp; rfl)); intro w18 hw; have hg : w15.grownBy w18 (some go14) := (by rw [hw]; exact HP17.2); have hp_ : Kd.S (Kd.slice 3 (Kd.int .i64)) 35 w18 w.heap.size (fun _ => True) (.slice (some ⟨go14, 0, none⟩) x5_1.length co14) y134 := (by rw [hw, Ny134.out]; exact HP17.1); clear HP17; have n0_ := Aside0.mk (hp_); have n1_ := Aside0.mk ((by rw [hw]; exact below_set (HB.out) GB14.out : Below w.heap.size w w18)); clear HO_5; clear HB; clear HO133; have HO_5 := n0_; have HB := n1_; clear n0_ n1_; clear hg hw hp_))
            repeat (go_quiet (first | ((with_reducible refine gate_dst (N := 24) rfl ?_); (try (refine gate_guard (by rfl) ?_; dsimp only)); refine Kd.R_make (Kd.int .i64) _ 3 rfl (N := 24) rfl 35 _ _ rfl ji9 rfl rfl Try.underlying35 (.int .i64 0) 8 info3 rfl (by decide) (by omega) 0 (ok := fun _ => True) (okp := fun _ => True) rfl (fun _ hk => hk) trivial (of_decide_eq_true (by first | (with_reducible assumption) | assumption)) (Nat.le_trans (Nat.mul_le_mul_right _ (of_decide_eq_true (by first | (with_reducible assumption) | assumption) : ji9.toNat ≤ 35184372088832)) (by omega)) (Below.refl _ _) (Nat.le_refl _) ?_; intro v132 w15 ho16 hb hg_ hnew_; clear hg_ hnew_; (first | rw [← Ny131.out] at ho16 | (simp only [Int.reduceToNat] at ho16; rw [← Ny131.out] at ho16)); have n0_ := Aside0.mk (Kd.S_elder' (by (with_reducible repeat (first | apply Kd.S_alloc | apply Kd.S_drewN | apply Kd.S_drew)); exact HO_5.out) (Kd.R_base ho16) hb); have n1_ := Aside0.mk (Kd.R_lower ho16 (below_size (by repeat (first | (with_reducible first | exact HB.out | apply below_alloc | apply pw_below_drewN | apply below_drew1) | exact HB.out)))); have n2_ := Aside0.mk (below_step (by repeat (first | (with_reducible first | exact HB.out | apply below_alloc | apply pw_below_drewN | apply below_drew1) | exact HB.out)) hb); clear HO_5; clear HB; have HO_5 := n0_; have HO133 := n1_; have HB := n2_; clear n0_ n1_ n2_; clear hb ho16; have p14 : 0 ≤ (x6_1 : Int) := of_decide_eq_true (by first | (with_reducible assumption) | assumption); have q14 : (x6_1 : Int) < ((x5_1.length : Int) : Int) := of_decide_eq_true (by first | (with_reducible assumption) | assumption); obtain ⟨go14, co14, eo14, gb14, gl14, cl14, HG14⟩ := Kd.S_form HO_5.out (by omega); (first | cases eo14 | (injection eo14 with ea_ en_ ec_; (first | subst ea_ | (injection ea_ with ea_; subst ea_)); subst ec_; clear en_)); have GB14 := Aside0.mk gb14; have GG14 := Aside0.mk HG14; clear gb14 gl14 HG14; obtain ⟨_, ce14, hcl14, hM14, hcc14, hfr14, _, _⟩ := Kd.S_elem HO_5.out [] (x6_1 : Int) p14 q14; obtain ⟨ve14_0, rfl, ge14_0⟩ := hM14; have hx14_0 := hcc14 0 _ rfl; have hf14_0 := hfr14 0; (try simp only [show ((Kd.slice 3 (Kd.int .i64))).sz = 1 from rfl, Nat.mul_one, Nat.add_zero] at hx14_0); (try simp only [show ((Kd.slice 3 (Kd.int .i64))).sz = 1 from rfl, Nat.mul_one, Nat.add_zero] at hf14_0); (try clear hcl14); (try clear hcc14); (try clear hfr14); (try clear hM14); replace p14 := eq_true p14; replace q14 := eq_true q14; have n_ := Aside0.mk (Kd.S_mono (ok' := (fun k_ => some k_ ≠ (v132 : Value).ownBlock)) HO_5.out (fun k_ hk => hk.2)); clear HO_5; have HO_5 := n_; clear n_; have HX17 := Aside0.mk (show Kd.S (Kd.slice 3 (Kd.int .i64)) 35 w15 w.heap.size (fun k_ => ((fun _ => True)) k_ ∧ ¬ ((fun k_ => some k_ = (v132 : Value).ownBlock)) k_) (.slice (some ⟨go14, 0, none⟩) x5_1.length co14) x5_1 from (by (with_reducible repeat (first | apply Kd.S_alloc | apply Kd.S_drewN | apply Kd.S_drew)); exact Kd.S_mono HO_5.out (fun k_ hk => ⟨trivial, fun e_ => hk e_⟩))); obtain ⟨oki17, ce17, hcl17, hM17, hcc17, hfr17, hoki17, hH17⟩ := Kd.S_elem HX17.out [] (x6_1 : Int) (of_decide_eq_true (by first | (with_reducible assumption) | assumption)) (by have h_ : (x6_1 : Int) < ((x5_1.length : Int) : Int) := of_decide_eq_true (by first | (with_reducible assumption) | assumption); first | exact h_ | (have e_ := (Kd.S_reads' HO_5.out).1; omega) | simpa using h_); obtain ⟨ve17_0, rfl, ge17_0⟩ := hM17; have HP17 := Kd.S_seg hH17 (of_decide_eq_true (by first | (with_reducible assumption) | assumption)) (by have h_ : (x6_1 : Int) < ((x5_1.length : Int) : Int) := of_decide_eq_true (by first | (with_reducible assumption) | assumption); first | exact h_ | (have e_ := (Kd.S_reads' HO_5.out).1; omega) | simpa using h_) (seg := [v132]) (j := 0) (show 1 ≤ 1 from by decide) (x' := y131) (Kd.M_row (Kd.R_mono (Kd.R_tight rfl (Kd.R_mono (ok' := fun k_ => ((fun _ => True)) k_ ∧ k_ ≠ go14) (Kd.R_apart' (HO133.out) (Kd.S_typed HO_5.out) (by decide)) (fun k_ hk => ⟨trivial, fun e_ => (hk.2) (by rw [e_]; rfl)⟩))) (fun _ h_ => Or.inr (h_)))) (fun _ hk => hk) (fun k_ hk_ => ((Kd.R_mono (ok' := fun k_ => ((fun _ => True)) k_ ∧ k_ ≠ go14) (Kd.R_apart' (HO133.out) (Kd.S_typed HO_5.out) (by decide)) (fun k_ hk => ⟨trivial, fun e_ => (hk.2) (by rw [e_]; rfl)⟩))).1 k_ hk_.symm); have hx17_0 := hcc17 0 _ rfl; (try simp only [show ((Kd.slice 3 (Kd.int .i64))).sz = 1 from rfl, Nat.mul_one, Nat.add_zero] at hx17_0); have hf17_0 := hfr17 0; (try simp only [show ((Kd.slice 3 (Kd.int .i64))).sz = 1 from rfl, Nat.mul_one, Nat.add_zero] at hf17_0); (try clear hcl17); (try clear hcc17); (try clear hfr17); (try clear hM17); (try clear hoki17); (try clear hH17); (try simp only [show ((Kd.slice 3 (Kd.int .i64))).sz = 1 from rfl, Nat.mul_one, Nat.add_zero] at HP17)) | ((with_reducible refine gate_store (t := 35) (p := 25) rfl ?_); (try (rw [drewN_self w15]; generalize hq_ : World.drewN w15 _ = w15; (try (replace hx14_0 := cell_at hq_ hx14_0)); (try (replace hx17_0 := cell_at hq_ hx17_0)); (try (replace hf14_0 := frozen_at hq_ hf14_0)); (try (replace hf17_0 := frozen_at hq_ hf17_0)); have n0_ := Aside0.mk (Kd.S_at hq_ HO_5.out); have n1_ := Aside0.mk (below_at hq_ HB.out); clear hq_ HO_5 HB; have HO_5 := n0_; have HB := n1_; clear n0_ n1_; (try (have n_ := Aside0.mk (Kd.S_mono (ok' := (fun k_ => some k_ ≠ (v132 : Value).ownBlock)) HO_5.out (fun k_ hk => hk.2)); clear HO_5; have HO_5 := n_; clear n_)); (try (have HX17 := Aside0.mk (show Kd.S (Kd.slice 3 (Kd.int .i64)) 35 w15 w.heap.size (fun k_ => ((fun _ => True)) k_ ∧ ¬ ((fun k_ => some k_ = (v132 : Value).ownBlock)) k_) (.slice (some ⟨go14, 0, none⟩) x5_1.length co14) x5_1 from (by (with_reducible repeat (first | apply Kd.S_alloc | apply Kd.S_drewN | apply Kd.S_drew)); exact Kd.S_mono HO_5.out (fun k_ hk => ⟨trivial, fun e_ => hk e_⟩))))); (try (obtain ⟨oki17, ce17, hcl17, hM17, hcc17, hfr17, hoki17, hH17⟩ := Kd.S_elem HX17.out [] (x6_1 : Int) (of_decide_eq_true (by first | (with_reducible assumption) | assumption)) (by have h_ : (x6_1 : Int) < ((x5_1.length : Int) : Int) := of_decide_eq_true (by first | (with_reducible assumption) | assumption); first | exact h_ | (have e_ := (Kd.S_reads' HO_5.out).1; omega) | simpa using h_))); (try (obtain ⟨ve17_0, rfl, ge17_0⟩ := hM17)); (try (have HP17 := Kd.S_seg hH17 (of_decide_eq_true (by first | (with_reducible assumption) | assumption)) (by have h_ : (x6_1 : Int) < ((x5_1.length : Int) : Int) := of_decide_eq_true (by first | (with_reducible assumption) | assumption); first | exact h_ | (have e_ := (Kd.S_reads' HO_5.out).1; omega) | simpa using h_) (seg := [v132]) (j := 0) (show 1 ≤ 1 from by decide) (x' := y131) (Kd.M_row (Kd.R_mono (Kd.R_tight rfl (Kd.R_mono (ok' := fun k_ => ((fun _ => True)) k_ ∧ k_ ≠ go14) (Kd.R_apart' (HO133.out) (Kd.S_typed HO_5.out) (by decide)) (fun k_ hk => ⟨trivial, fun e_ => (hk.2) (by rw [e_]; rfl)⟩))) (fun _ h_ => Or.inr (h_)))) (fun _ hk => hk) (fun k_ hk_ => ((Kd.R_mono (ok' := fun k_ => ((fun _ => True)) k_ ∧ k_ ≠ go14) (Kd.R_apart' (HO133.out) (Kd.S_typed HO_5.out) (by decide)) (fun k_ hk => ⟨trivial, fun e_ => (hk.2) (by rw [e_]; rfl)⟩))).1 k_ hk_.symm))); (try (have hx17_0 := hcc17 0 _ rfl)); (try (try simp only [show ((Kd.slice 3 (Kd.int .i64))).sz = 1 from rfl, Nat.mul_one, Nat.add_zero] at hx17_0)); (try (have hf17_0 := hfr17 0)); (try (try simp only [show ((Kd.slice 3 (Kd.int .i64))).sz = 1 from rfl, Nat.mul_one, Nat.add_zero] at hf17_0)); (try (clear hcl17 hcc17 hfr17 hM17 hoki17 hH17)); (try (try simp only [show ((Kd.slice 3 (Kd.int .i64))).sz = 1 from rfl, Nat.mul_one, Nat.add_zero] at HP17)))); refine store_event (t := 35) (p := 25) (v := ?vo_w18) (w1 := (w15.setCell ⟨go14, (x6_1 : Int).toNat, none⟩ (v132))) ?hg ?ho ?hn ?hr ?_; (case ho => rfl); (case hg => rfl); (case hn => rfl); (case hr => first | (go_simp; done) | (go_simp; rfl) | (obtain ⟨_, _, e_, _⟩ := Kd.R_reads (Aside0.out ‹Aside0 (Kd.R _ _ _ _ _ v132 _)›); go_simp; done) | (obtain ⟨_, _, e_, _⟩ := Kd.R_reads (Aside0.out ‹Aside0 (Kd.R _ _ _ _ _ v132 _)›); go_simp; rfl) | (obtain ⟨_, _, e_, _⟩ := Kd.R_reads (Kd.S_R (Aside0.out ‹Aside0 (Kd.S _ _ _ _ _ v132 _)›)); go_simp; done) | (obtain ⟨_, _, e_, _⟩ := Kd.R_reads (Kd.S_R (Aside0.out ‹Aside0 (Kd.S _ _ _ _ _ v132 _)›)); go_simp; rfl) | (obtain ⟨_, _, e_, _⟩ := Kd.N_reads (Aside0.out ‹Aside0 (Kd.N _ _ _ _ _ v132 _)›); go_simp; done) | (obtain ⟨_, _, e_, _⟩ := Kd.N_reads (Aside0.out ‹Aside0 (Kd.N _ _ _ _ _ v132 _)›); go_simp; rfl) | (obtain ⟨_, _, e_, _⟩ := Kd.Q_reads (Aside0.out ‹Aside0 (Kd.Q _ _ _ _ _ v132 _)›); go_simp; done) | (obtain ⟨_, _, e_, _⟩ := Kd.Q_reads (Aside0.out ‹Aside0 (Kd.Q _ _ _ _ _ v132 _)›); go_simp; rfl)); intro w18 hw; have hg : w15.grownBy w18 (some go14) := (by rw [hw]; exact HP17.2); have hp_ : Kd.S (Kd.slice 3 (Kd.int .i64)) 35 w18 w.heap.size (fun _ => True) (.slice (some ⟨go14, 0, none⟩) x5_1.length co14) y134 := (by rw [hw, Ny134.out]; exact HP17.1); clear HP17; have n0_ := Aside0.mk (hp_); have n1_ := Aside0.mk ((by rw [hw]; exact below_set (HB.out) GB14.out : Below w.heap.size w w18)); clear HO_5; clear HB; clear HO133; have HO_5 := n0_; have HB := n1_; clear n0_ n1_; clear hg hw hp_)); try go_wp2_with (first | ((with_reducible refine gate_dst (N := 24) rfl ?_); (try (refine gate_guard (by rfl) ?_; dsimp only)); refine Kd.R_make (Kd.int .i64) _ 3 rfl (N := 24) rfl 35 _ _ rfl ji9 rfl rfl Try.underlying35 (.int .i64 0) 8 info3 rfl (by decide) (by omega) 0 (ok := fun _ => True) (okp := fun _ => True) rfl (fun _ hk => hk) trivial (of_decide_eq_true (by first | (with_reducible assumption) | assumption)) (Nat.le_trans (Nat.mul_le_mul_right _ (of_decide_eq_true (by first | (with_reducible assumption) | assumption) : ji9.toNat ≤ 35184372088832)) (by omega)) (Below.refl _ _) (Nat.le_refl _) ?_; intro v132 w15 ho16 hb hg_ hnew_; clear hg_ hnew_; (first | rw [← Ny131.out] at ho16 | (simp only [Int.reduceToNat] at ho16; rw [← Ny131.out] at ho16)); have n0_ := Aside0.mk (Kd.S_elder' (by (with_reducible repeat (first | apply Kd.S_alloc | apply Kd.S_drewN | apply Kd.S_drew)); exact HO_5.out) (Kd.R_base ho16) hb); have n1_ := Aside0.mk (Kd.R_lower ho16 (below_size (by repeat (first | (with_reducible first | exact HB.out | apply below_alloc | apply pw_below_drewN | apply below_drew1) | exact HB.out)))); have n2_ := Aside0.mk (below_step (by repeat (first | (with_reducible first | exact HB.out | apply below_alloc | apply pw_below_drewN | apply below_drew1) | exact HB.out)) hb); clear HO_5; clear HB; have HO_5 := n0_; have HO133 := n1_; have HB := n2_; clear n0_ n1_ n2_; clear hb ho16; have p14 : 0 ≤ (x6_1 : Int) := of_decide_eq_true (by first | (with_reducible assumption) | assumption); have q14 : (x6_1 : Int) < ((x5_1.length : Int) : Int) := of_decide_eq_true (by first | (with_reducible assumption) | assumption); obtain ⟨go14, co14, eo14, gb14, gl14, cl14, HG14⟩ := Kd.S_form HO_5.out (by omega); (first | cases eo14 | (injection eo14 with ea_ en_ ec_; (first | subst ea_ | (injection ea_ with ea_; subst ea_)); subst ec_; clear en_)); have GB14 := Aside0.mk gb14; have GG14 := Aside0.mk HG14; clear gb14 gl14 HG14; obtain ⟨_, ce14, hcl14, hM14, hcc14, hfr14, _, _⟩ := Kd.S_elem HO_5.out [] (x6_1 : Int) p14 q14; obtain ⟨ve14_0, rfl, ge14_0⟩ := hM14; have hx14_0 := hcc14 0 _ rfl; have hf14_0 := hfr14 0; (try simp only [show ((Kd.slice 3 (Kd.int .i64))).sz = 1 from rfl, Nat.mul_one, Nat.add_zero] at hx14_0); (try simp only [show ((Kd.slice 3 (Kd.int .i64))).sz = 1 from rfl, Nat.mul_one, Nat.add_zero] at hf14_0); (try clear hcl14); (try clear hcc14); (try clear hfr14); (try clear hM14); replace p14 := eq_true p14; replace q14 := eq_true q14; have n_ := Aside0.mk (Kd.S_mono (ok' := (fun k_ => some k_ ≠ (v132 : Value).ownBlock)) HO_5.out (fun k_ hk => hk.2)); clear HO_5; have HO_5 := n_; clear n_; have HX17 := Aside0.mk (show Kd.S (Kd.slice 3 (Kd.int .i64)) 35 w15 w.heap.size (fun k_ => ((fun _ => True)) k_ ∧ ¬ ((fun k_ => some k_ = (v132 : Value).ownBlock)) k_) (.slice (some ⟨go14, 0, none⟩) x5_1.length co14) x5_1 from (by (with_reducible repeat (first | apply Kd.S_alloc | apply Kd.S_drewN | apply Kd.S_drew)); exact Kd.S_mono HO_5.out (fun k_ hk => ⟨trivial, fun e_ => hk e_⟩))); obtain ⟨oki17, ce17, hcl17, hM17, hcc17, hfr17, hoki17, hH17⟩ := Kd.S_elem HX17.out [] (x6_1 : Int) (of_decide_eq_true (by first | (with_reducible assumption) | assumption)) (by have h_ : (x6_1 : Int) < ((x5_1.length : Int) : Int) := of_decide_eq_true (by first | (with_reducible assumption) | assumption); first | exact h_ | (have e_ := (Kd.S_reads' HO_5.out).1; omega) | simpa using h_); obtain ⟨ve17_0, rfl, ge17_0⟩ := hM17; have HP17 := Kd.S_seg hH17 (of_decide_eq_true (by first | (with_reducible assumption) | assumption)) (by have h_ : (x6_1 : Int) < ((x5_1.length : Int) : Int) := of_decide_eq_true (by first | (with_reducible assumption) | assumption); first | exact h_ | (have e_ := (Kd.S_reads' HO_5.out).1; omega) | simpa using h_) (seg := [v132]) (j := 0) (show 1 ≤ 1 from by decide) (x' := y131) (Kd.M_row (Kd.R_mono (Kd.R_tight rfl (Kd.R_mono (ok' := fun k_ => ((fun _ => True)) k_ ∧ k_ ≠ go14) (Kd.R_apart' (HO133.out) (Kd.S_typed HO_5.out) (by decide)) (fun k_ hk => ⟨trivial, fun e_ => (hk.2) (by rw [e_]; rfl)⟩))) (fun _ h_ => Or.inr (h_)))) (fun _ hk => hk) (fun k_ hk_ => ((Kd.R_mono (ok' := fun k_ => ((fun _ => True)) k_ ∧ k_ ≠ go14) (Kd.R_apart' (HO133.out) (Kd.S_typed HO_5.out) (by decide)) (fun k_ hk => ⟨trivial, fun e_ => (hk.2) (by rw [e_]; rfl)⟩))).1 k_ hk_.symm); have hx17_0 := hcc17 0 _ rfl; (try simp only [show ((Kd.slice 3 (Kd.int .i64))).sz = 1 from rfl, Nat.mul_one, Nat.add_zero] at hx17_0); have hf17_0 := hfr17 0; (try simp only [show ((Kd.slice 3 (Kd.int .i64))).sz = 1 from rfl, Nat.mul_one, Nat.add_zero] at hf17_0); (try clear hcl17); (try clear hcc17); (try clear hfr17); (try clear hM17); (try clear hoki17); (try clear hH17); (try simp only [show ((Kd.slice 3 (Kd.int .i64))).sz = 1 from rfl, Nat.mul_one, Nat.add_zero] at HP17)) | ((with_reducible refine gate_store (t := 35) (p := 25) rfl ?_); (try (rw [drewN_self w15]; generalize hq_ : World.drewN w15 _ = w15; (try (replace hx14_0 := cell_at hq_ hx14_0)); (try (replace hx17_0 := cell_at hq_ hx17_0)); (try (replace hf14_0 := frozen_at hq_ hf14_0)); (try (replace hf17_0 := frozen_at hq_ hf17_0)); have n0_ := Aside0.mk (Kd.S_at hq_ HO_5.out); have n1_ := Aside0.mk (below_at hq_ HB.out); clear hq_ HO_5 HB; have HO_5 := n0_; have HB := n1_; clear n0_ n1_; (try (have n_ := Aside0.mk (Kd.S_mono (ok' := (fun k_ => some k_ ≠ (v132 : Value).ownBlock)) HO_5.out (fun k_ hk => hk.2)); clear HO_5; have HO_5 := n_; clear n_)); (try (have HX17 := Aside0.mk (show Kd.S (Kd.slice 3 (Kd.int .i64)) 35 w15 w.heap.size (fun k_ => ((fun _ => True)) k_ ∧ ¬ ((fun k_ => some k_ = (v132 : Value).ownBlock)) k_) (.slice (some ⟨go14, 0, none⟩) x5_1.length co14) x5_1 from (by (with_reducible repeat (first | apply Kd.S_alloc | apply Kd.S_drewN | apply Kd.S_drew)); exact Kd.S_mono HO_5.out (fun k_ hk => ⟨trivial, fun e_ => hk e_⟩))))); (try (obtain ⟨oki17, ce17, hcl17, hM17, hcc17, hfr17, hoki17, hH17⟩ := Kd.S_elem HX17.out [] (x6_1 : Int) (of_decide_eq_true (by first | (with_reducible assumption) | assumption)) (by have h_ : (x6_1 : Int) < ((x5_1.length : Int) : Int) := of_decide_eq_true (by first | (with_reducible assumption) | assumption); first | exact h_ | (have e_ := (Kd.S_reads' HO_5.out).1; omega) | simpa using h_))); (try (obtain ⟨ve17_0, rfl, ge17_0⟩ := hM17)); (try (have HP17 := Kd.S_seg hH17 (of_decide_eq_true (by first | (with_reducible assumption) | assumption)) (by have h_ : (x6_1 : Int) < ((x5_1.length : Int) : Int) := of_decide_eq_true (by first | (with_reducible assumption) | assumption); first | exact h_ | (have e_ := (Kd.S_reads' HO_5.out).1; omega) | simpa using h_) (seg := [v132]) (j := 0) (show 1 ≤ 1 from by decide) (x' := y131) (Kd.M_row (Kd.R_mono (Kd.R_tight rfl (Kd.R_mono (ok' := fun k_ => ((fun _ => True)) k_ ∧ k_ ≠ go14) (Kd.R_apart' (HO133.out) (Kd.S_typed HO_5.out) (by decide)) (fun k_ hk => ⟨trivial, fun e_ => (hk.2) (by rw [e_]; rfl)⟩))) (fun _ h_ => Or.inr (h_)))) (fun _ hk => hk) (fun k_ hk_ => ((Kd.R_mono (ok' := fun k_ => ((fun _ => True)) k_ ∧ k_ ≠ go14) (Kd.R_apart' (HO133.out) (Kd.S_typed HO_5.out) (by decide)) (fun k_ hk => ⟨trivial, fun e_ => (hk.2) (by rw [e_]; rfl)⟩))).1 k_ hk_.symm))); (try (have hx17_0 := hcc17 0 _ rfl)); (try (try simp only [show ((Kd.slice 3 (Kd.int .i64))).sz = 1 from rfl, Nat.mul_one, Nat.add_zero] at hx17_0)); (try (have hf17_0 := hfr17 0)); (try (try simp only [show ((Kd.slice 3 (Kd.int .i64))).sz = 1 from rfl, Nat.mul_one, Nat.add_zero] at hf17_0)); (try (clear hcl17 hcc17 hfr17 hM17 hoki17 hH17)); (try (try simp only [show ((Kd.slice 3 (Kd.int .i64))).sz = 1 from rfl, Nat.mul_one, Nat.add_zero] at HP17)))); refine store_event (t := 35) (p := 25) (v := ?vo_w18) (w1 := (w15.setCell ⟨go14, (x6_1 : Int).toNat, none⟩ (v132))) ?hg ?ho ?hn ?hr ?_; (case ho => rfl); (case hg => rfl); (case hn => rfl); (case hr => first | (go_simp; done) | (go_simp; rfl) | (obtain ⟨_, _, e_, _⟩ := Kd.R_reads (Aside0.out ‹Aside0 (Kd.R _ _ _ _ _ v132 _)›); go_simp; done) | (obtain ⟨_, _, e_, _⟩ := Kd.R_reads (Aside0.out ‹Aside0 (Kd.R _ _ _ _ _ v132 _)›); go_simp; rfl) | (obtain ⟨_, _, e_, _⟩ := Kd.R_reads (Kd.S_R (Aside0.out ‹Aside0 (Kd.S _ _ _ _ _ v132 _)›)); go_simp; done) | (obtain ⟨_, _, e_, _⟩ := Kd.R_reads (Kd.S_R (Aside0.out ‹Aside0 (Kd.S _ _ _ _ _ v132 _)›)); go_simp; rfl) | (obtain ⟨_, _, e_, _⟩ := Kd.N_reads (Aside0.out ‹Aside0 (Kd.N _ _ _ _ _ v132 _)›); go_simp; done) | (obtain ⟨_, _, e_, _⟩ := Kd.N_reads (Aside0.out ‹Aside0 (Kd.N _ _ _ _ _ v132 _)›); go_simp; rfl) | (obtain ⟨_, _, e_, _⟩ := Kd.Q_reads (Aside0.out ‹Aside0 (Kd.Q _ _ _ _ _ v132 _)›); go_simp; done) | (obtain ⟨_, _, e_, _⟩ := Kd.Q_reads (Aside0.out ‹Aside0 (Kd.Q _ _ _ _ _ v132 _)›); go_simp; rfl)); intro w18 hw; have hg : w15.grownBy w18 (some go14) := (by rw [hw]; exact HP17.2); have hp_ : Kd.S (Kd.slice 3 (Kd.int .i64)) 35 w18 w.heap.size (fun _ => True) (.slice (some ⟨go14, 0, none⟩) x5_1.length co14) y134 := (by rw [hw, Ny134.out]; exact HP17.1); clear HP17; have n0_ := Aside0.mk (hp_); have n1_ := Aside0.mk ((by rw [hw]; exact below_set (HB.out) GB14.out : Below w.heap.size w w18)); clear HO_5; clear HB; clear HO133; have HO_5 := n0_; have HB := n1_; clear n0_ n1_; clear hg hw hp_)))
            go_loopg [7] k1 (fun kq v7 w' => ∃ (x5_2 : List (List Int)) (x7_2 : Int), v7 = .int .i64 x7_2 ∧ Aside0 (spec_l04Table.l1 kq l0 l1 x5_2 x6_1 x7_2 = some r) ∧ Aside0 (kq ≤ k1) ∧ Aside0 (Kd.S (Kd.slice 3 (Kd.int .i64)) 35 w' w.heap.size (fun _ => True) (.slice (some ⟨go14, 0, none⟩) x5_1.length co14) x5_2) ∧ Aside0 (Below w.heap.size w w'))
            case atStart => exact ⟨(y134), (wrap64 ((l1.length : Int) - 1)), (by first | rfl | (simp; done) | (simp [*]; done)), H', ⟨Nat.le_refl _⟩, ⟨by (with_reducible repeat (first | apply Kd.S_alloc | apply Kd.S_drewN | apply Kd.S_drew)); exact HO_5.out⟩, ⟨by repeat (first | (with_reducible first | exact HB.out | apply below_alloc | apply pw_below_drewN | apply below_drew1) | exact HB.out)⟩⟩
            case round =>
             clear H'
             try clear c1
             try clear p1
             try clear q1
             try clear hx1
             try clear p2
             try clear c4
             try clear c4b0
             try clear c4b1
             try clear c5
             try clear c5b0
             try clear c5b1
             try clear p6
             try clear c8
             try clear c8b0
             try clear c10
             try clear c10b0
             try clear c10b1
             try clear c11
             try clear c11b0
             try clear c11b1
             try clear c12
             try clear c12b0
             try clear c13
             try clear c13b0
             try clear c14
             try clear p14
             try clear q14
             try clear hx14
             try clear hf14
             try clear c17
             try clear hx17
             try clear hf17
             try clear hx14_0
             try clear hx17_0
             try clear p14
             try clear p2
             try clear p6
             try clear q14
             obtain ⟨x5_2, x7_2, rfl, HA, HK2, HO_5, HB⟩ := hrel
             have hl5_2 := (Kd.S_reads' HO_5.out).1
             rw [hl5_2] at HO_5
             (try simp only [hl5_2])
             cases gk with
             | zero => exact absurd HA.out (by simp [spec_l04Table.l1])
             | succ k2 =>
              have H := HA.out
              clear HA
              simp only [spec_l04Table.l1] at H
              have HC19 := Aside0.mk H
              clear H
              go_upto_region 7 with (fail)
              repeat (go_quiet (fail); go_upto_region 7 with (fail))
              go_cut [36] (fun v36 wc => ∃ (kq : Nat) (x36_18 : Bool), v36 = .bool x36_18 ∧ Aside0 (spec_l04Table.j2 kq l0 l1 x5_2 x6_1 x7_2 x36_18 = some r) ∧ Aside0 (kq ≤ k2) ∧ Aside0 (Kd.S (Kd.slice 3 (Kd.int .i64)) 35 wc w.heap.size (fun _ => True) (.slice (some ⟨go14, 0, none⟩) x5_2.length co14) x5_2) ∧ Aside0 (Below w.heap.size w wc))
              case first =>
               have H := HC19.out
               clear HC19
               by_cases c20 : x7_2 ≥ 0
               ·rw [if_pos c20] at H
                have c20b0 : decide (0 ≤ x7_2) = true := decide_eq_true c20
                clear c20
                (first | rw [c20b0] | (simp only [i64_w, i32_w]; rw [c20b0]) | skip)
                have H' := Aside0.mk H
                clear H
                go_wp2
                repeat (go_quiet (fail); try go_wp2)
                go_meet
                case rel => exact ⟨_, (decide (x6_1 < (l0.length : Int))), (by first | rfl | (simp; done) | (simp [*]; done)), H', ⟨by have := HK1.out; have := HK2.out; first | omega | exact Nat.le_refl _⟩, ⟨by (try simp only [hl5_2]); (with_reducible repeat (first | apply Kd.S_alloc | apply Kd.S_drewN | apply Kd.S_drew)); exact HO_5.out⟩, ⟨by repeat (first | (with_reducible first | exact HB.out | apply below_alloc | apply pw_below_drewN | apply below_drew1) | exact HB.out)⟩⟩
               ·rw [if_neg c20] at H
                have c20b0 : decide (0 ≤ x7_2) = false := decide_eq_false c20
                clear c20
                (first | rw [c20b0] | (simp only [i64_w, i32_w]; rw [c20b0]) | skip)
                have H' := Aside0.mk H
                clear H
                go_wp2
                repeat (go_quiet (fail); try go_wp2)
                go_meet
                case rel => exact ⟨_, (false), (by first | rfl | (simp; done) | (simp [*]; done)), H', ⟨by have := HK1.out; have := HK2.out; first | omega | exact Nat.le_refl _⟩, ⟨by (try simp only [hl5_2]); (with_reducible repeat (first | apply Kd.S_alloc | apply Kd.S_drewN | apply Kd.S_drew)); exact HO_5.out⟩, ⟨by repeat (first | (with_reducible first | exact HB.out | apply below_alloc | apply pw_below_drewN | apply below_drew1) | exact HB.out)⟩⟩
              case rest =>
               clear HC19
               try clear c1
               try clear p1
               try clear q1
               try clear hx1
               try clear c2
               try clear p2
               try clear c4
               try clear c4b0
               try clear c4b1
               try clear c5
               try clear c5b0
               try clear c5b1
               try clear p6
               try clear c8
               try clear c8b0
               try clear c10
               try clear c10b0
               try clear c10b1
               try clear c11
               try clear c11b0
               try clear c11b1
               try clear c12
               try clear c12b0
               try clear c13
               try clear c13b0
               try clear c14
               try clear p14
               try clear q14
               try clear hx14
               try clear hf14
               try clear c17
               try clear hx17
               try clear hf17
               try clear c20
               try clear c20b0
               try clear hx14_0
               try clear hx17_0
               try clear p1
               try clear p14
               try clear p2
               try clear p6
               try clear q1
               try clear q14
               obtain ⟨kq, x36_18, rfl, HA, HJ18, HO_5, HB⟩ := hcut
               cases kq with
               | zero => exact absurd HA.out (by simp [spec_l04Table.j2])
               | succ kj18 =>
                have H := HA.out
                clear HA
                simp only [spec_l04Table.j2] at H
                by_cases c21 : x36_18 = true
                ·subst c21
                 have H1 : (if 0 ≤ (wrap64 (x6_1 + 1)) then (if (wrap64 (x6_1 + 1)) < (x5_2.length : Int) then (if 0 ≤ x7_2 then (if x7_2 < ((rd_L4 x5_2 (wrap64 (x6_1 + 1))).length : Int) then (if 0 ≤ x6_1 then (if x6_1 < (x5_2.length : Int) then (if 0 ≤ (wrap64 (x7_2 + 1)) then (if (wrap64 (x7_2 + 1)) < ((rd_L4 x5_2 x6_1).length : Int) then (if (rd (rd_L4 x5_2 x6_1) (wrap64 (x7_2 + 1))) > (rd (rd_L4 x5_2 (wrap64 (x6_1 + 1))) x7_2) then (if x6_1 < (l0.length : Int) then (if x7_2 < (l1.length : Int) then (if (rdOf ByteArray.empty l0 x6_1).toList = (rdOf ByteArray.empty l1 x7_2).toList then (if (wrap64 (x7_2 + 1)) < ((rd_L4 x5_2 (wrap64 (x6_1 + 1))).length : Int) then (if x7_2 < ((rd_L4 x5_2 x6_1).length : Int) then (spec_l04Table.l1 kj18 l0 l1 (x5_2.set (x6_1 : Int).toNat ((rd_L4 x5_2 x6_1).set (x7_2 : Int).toNat (wrap64 ((rd (rd_L4 x5_2 (wrap64 (x6_1 + 1))) (wrap64 (x7_2 + 1))) + 1)))) x6_1 (wrap64 (x7_2 - 1))) else (none)) else (none)) else (if x7_2 < ((rd_L4 x5_2 x6_1).length : Int) then (spec_l04Table.l1 kj18 l0 l1 (x5_2.set (x6_1 : Int).toNat ((rd_L4 x5_2 x6_1).set (x7_2 : Int).toNat (rd (rd_L4 x5_2 x6_1) (wrap64 (x7_2 + 1))))) x6_1 (wrap64 (x7_2 - 1))) else (none))) else (none)) else (none)) else (if x6_1 < (l0.length : Int) then (if x7_2 < (l1.length : Int) then (if (rdOf ByteArray.empty l0 x6_1).toList = (rdOf ByteArray.empty l1 x7_2).toList then (if (wrap64 (x7_2 + 1)) < ((rd_L4 x5_2 (wrap64 (x6_1 + 1))).length : Int) then (if x7_2 < ((rd_L4 x5_2 x6_1).length : Int) then (spec_l04Table.l1 kj18 l0 l1 (x5_2.set (x6_1 : Int).toNat ((rd_L4 x5_2 x6_1).set (x7_2 : Int).toNat (wrap64 ((rd (rd_L4 x5_2 (wrap64 (x6_1 + 1))) (wrap64 (x7_2 + 1))) + 1)))) x6_1 (wrap64 (x7_2 - 1))) else (none)) else (none)) else (if x7_2 < ((rd_L4 x5_2 x6_1).length : Int) then (spec_l04Table.l1 kj18 l0 l1 (x5_2.set (x6_1 : Int).toNat ((rd_L4 x5_2 x6_1).set (x7_2 : Int).toNat (rd (rd_L4 x5_2 (wrap64 (x6_1 + 1))) x7_2))) x6_1 (wrap64 (x7_2 - 1))) else (none))) else (none)) else (none))) else (none)) else (none)) else (none)) else (none)) else (none)) else (none)) else (none)) else (none)) = some r := by rw [if_pos rfl] at H; exact H
                 clear H
                 have H := H1
                 clear H1
                 obtain ⟨ji22, hji22⟩ : ∃ j_ : Int, (wrap64 (x6_1 + 1)) = j_ := ⟨_, rfl⟩
                 replace H : (if 0 ≤ (ji22) then (if (ji22) < (x5_2.length : Int) then (if 0 ≤ x7_2 then (if x7_2 < ((rd_L4 x5_2 (ji22)).length : Int) then (if 0 ≤ x6_1 then (if x6_1 < (x5_2.length : Int) then (if 0 ≤ (wrap64 (x7_2 + 1)) then (if (wrap64 (x7_2 + 1)) < ((rd_L4 x5_2 x6_1).length : Int) then (if (rd (rd_L4 x5_2 x6_1) (wrap64 (x7_2 + 1))) > (rd (rd_L4 x5_2 (ji22)) x7_2) then (if x6_1 < (l0.length : Int) then (if x7_2 < (l1.length : Int) then (if (rdOf ByteArray.empty l0 x6_1).toList = (rdOf ByteArray.empty l1 x7_2).toList then (if (wrap64 (x7_2 + 1)) < ((rd_L4 x5_2 (ji22)).length : Int) then (if x7_2 < ((rd_L4 x5_2 x6_1).length : Int) then (spec_l04Table.l1 kj18 l0 l1 (x5_2.set (x6_1 : Int).toNat ((rd_L4 x5_2 x6_1).set (x7_2 : Int).toNat (wrap64 ((rd (rd_L4 x5_2 (ji22)) (wrap64 (x7_2 + 1))) + 1)))) x6_1 (wrap64 (x7_2 - 1))) else (none)) else (none)) else (if x7_2 < ((rd_L4 x5_2 x6_1).length : Int) then (spec_l04Table.l1 kj18 l0 l1 (x5_2.set (x6_1 : Int).toNat ((rd_L4 x5_2 x6_1).set (x7_2 : Int).toNat (rd (rd_L4 x5_2 x6_1) (wrap64 (x7_2 + 1))))) x6_1 (wrap64 (x7_2 - 1))) else (none))) else (none)) else (none)) else (if x6_1 < (l0.length : Int) then (if x7_2 < (l1.length : Int) then (if (rdOf ByteArray.empty l0 x6_1).toList = (rdOf ByteArray.empty l1 x7_2).toList then (if (wrap64 (x7_2 + 1)) < ((rd_L4 x5_2 (ji22)).length : Int) then (if x7_2 < ((rd_L4 x5_2 x6_1).length : Int) then (spec_l04Table.l1 kj18 l0 l1 (x5_2.set (x6_1 : Int).toNat ((rd_L4 x5_2 x6_1).set (x7_2 : Int).toNat (wrap64 ((rd (rd_L4 x5_2 (ji22)) (wrap64 (x7_2 + 1))) + 1)))) x6_1 (wrap64 (x7_2 - 1))) else (none)) else (none)) else (if x7_2 < ((rd_L4 x5_2 x6_1).length : Int) then (spec_l04Table.l1 kj18 l0 l1 (x5_2.set (x6_1 : Int).toNat ((rd_L4 x5_2 x6_1).set (x7_2 : Int).toNat (rd (rd_L4 x5_2 (ji22)) x7_2))) x6_1 (wrap64 (x7_2 - 1))) else (none))) else (none)) else (none))) else (none)) else (none)) else (none)) else (none)) else (none)) else (none)) else (none)) else (none)) = some r := by first | (rw [hji22] at H; exact H) | (simp only [hji22] at H ⊢; exact H)
                 have hji22w : (IntKind.i64.wrap (x6_1 + 1)) = ji22 := (i64_w _).trans hji22
                 by_cases c23 : 0 ≤ (ji22)
                 ·rw [if_pos c23] at H
                  have c23b0 : decide (0 ≤ (ji22)) = true := decide_eq_true c23
                  clear c23
                  by_cases c24 : (ji22) < (x5_2.length : Int)
                  ·rw [if_pos c24] at H
                   have c24b0 : decide ((ji22) < (x5_2.length : Int)) = true := decide_eq_true c24
                   clear c24
                   by_cases c25 : 0 ≤ x7_2
                   ·rw [if_pos c25] at H
                    have c25b0 : decide (0 ≤ x7_2) = true := decide_eq_true c25
                    clear c25
                    by_cases c26 : x7_2 < ((rd_L4 x5_2 (ji22)).length : Int)
                    ·rw [if_pos c26] at H
                     have c26b0 : decide (x7_2 < ((rd_L4 x5_2 (ji22)).length : Int)) = true := decide_eq_true c26
                     clear c26
                     by_cases c27 : 0 ≤ x6_1
                     ·rw [if_pos c27] at H
                      have c27b0 : decide (0 ≤ x6_1) = true := decide_eq_true c27
                      clear c27
                      by_cases c28 : x6_1 < (x5_2.length : Int)
                      ·rw [if_pos c28] at H
                       have c28b0 : decide (x6_1 < (x5_2.length : Int)) = true := decide_eq_true c28
                       clear c28
                       obtain ⟨ji29, hji29⟩ : ∃ j_ : Int, (wrap64 (x7_2 + 1)) = j_ := ⟨_, rfl⟩
                       replace H : (if 0 ≤ (ji29) then (if (ji29) < ((rd_L4 x5_2 x6_1).length : Int) then (if (rd (rd_L4 x5_2 x6_1) (ji29)) > (rd (rd_L4 x5_2 (ji22)) x7_2) then (if x6_1 < (l0.length : Int) then (if x7_2 < (l1.length : Int) then (if (rdOf ByteArray.empty l0 x6_1).toList = (rdOf ByteArray.empty l1 x7_2).toList then (if (ji29) < ((rd_L4 x5_2 (ji22)).length : Int) then (if x7_2 < ((rd_L4 x5_2 x6_1).length : Int) then (spec_l04Table.l1 kj18 l0 l1 (x5_2.set (x6_1 : Int).toNat ((rd_L4 x5_2 x6_1).set (x7_2 : Int).toNat (wrap64 ((rd (rd_L4 x5_2 (ji22)) (ji29)) + 1)))) x6_1 (wrap64 (x7_2 - 1))) else (none)) else (none)) else (if x7_2 < ((rd_L4 x5_2 x6_1).length : Int) then (spec_l04Table.l1 kj18 l0 l1 (x5_2.set (x6_1 : Int).toNat ((rd_L4 x5_2 x6_1).set (x7_2 : Int).toNat (rd (rd_L4 x5_2 x6_1) (ji29)))) x6_1 (wrap64 (x7_2 - 1))) else (none))) else (none)) else (none)) else (if x6_1 < (l0.length : Int) then (if x7_2 < (l1.length : Int) then (if (rdOf ByteArray.empty l0 x6_1).toList = (rdOf ByteArray.empty l1 x7_2).toList then (if (ji29) < ((rd_L4 x5_2 (ji22)).length : Int) then (if x7_2 < ((rd_L4 x5_2 x6_1).length : Int) then (spec_l04Table.l1 kj18 l0 l1 (x5_2.set (x6_1 : Int).toNat ((rd_L4 x5_2 x6_1).set (x7_2 : Int).toNat (wrap64 ((rd (rd_L4 x5_2 (ji22)) (ji29)) + 1)))) x6_1 (wrap64 (x7_2 - 1))) else (none)) else (none)) else (if x7_2 < ((rd_L4 x5_2 x6_1).length : Int) then (spec_l04Table.l1 kj18 l0 l1 (x5_2.set (x6_1 : Int).toNat ((rd_L4 x5_2 x6_1).set (x7_2 : Int).toNat (rd (rd_L4 x5_2 (ji22)) x7_2))) x6_1 (wrap64 (x7_2 - 1))) else (none))) else (none)) else (none))) else (none)) else (none)) = some r := by first | (rw [hji29] at H; exact H) | (simp only [hji29] at H ⊢; exact H)
                       have hji29w : (IntKind.i64.wrap (x7_2 + 1)) = ji29 := (i64_w _).trans hji29
                       by_cases c30 : 0 ≤ (ji29)
                       ·rw [if_pos c30] at H
                        have c30b0 : decide (0 ≤ (ji29)) = true := decide_eq_true c30
                        clear c30
                        by_cases c31 : (ji29) < ((rd_L4 x5_2 x6_1).length : Int)
                        ·rw [if_pos c31] at H
                         have c31b0 : decide ((ji29) < ((rd_L4 x5_2 x6_1).length : Int)) = true := decide_eq_true c31
                         clear c31
                         by_cases c32 : (rd (rd_L4 x5_2 x6_1) (ji29)) > (rd (rd_L4 x5_2 (ji22)) x7_2)
                         ·rw [if_pos c32] at H
                          have c32b0 : decide ((rd (rd_L4 x5_2 (ji22)) x7_2) < (rd (rd_L4 x5_2 x6_1) (ji29))) = true := decide_eq_true c32
                          clear c32
                          by_cases c33 : x6_1 < (l0.length : Int)
                          ·rw [if_pos c33] at H
                           have c33b0 : decide (x6_1 < (l0.length : Int)) = true := decide_eq_true c33
                           clear c33
                           by_cases c34 : x7_2 < (l1.length : Int)
                           ·rw [if_pos c34] at H
                            have c34b0 : decide (x7_2 < (l1.length : Int)) = true := decide_eq_true c34
                            clear c34
                            by_cases c35 : (rdOf ByteArray.empty l0 x6_1).toList = (rdOf ByteArray.empty l1 x7_2).toList
                            ·rw [if_pos c35] at H
                             have c35b0 : ((rdOf ByteArray.empty l0 x6_1).toList == (rdOf ByteArray.empty l1 x7_2).toList) = true := beq_iff_eq.mpr c35
                             have c35b1 : ((rdOf ByteArray.empty l0 x6_1).toList != (rdOf ByteArray.empty l1 x7_2).toList) = false := bne_eq_false_iff_eq.mpr c35
                             clear c35
                             by_cases c36 : (ji29) < ((rd_L4 x5_2 (ji22)).length : Int)
                             ·rw [if_pos c36] at H
                              have c36b0 : decide ((ji29) < ((rd_L4 x5_2 (ji22)).length : Int)) = true := decide_eq_true c36
                              clear c36
                              by_cases c37 : x7_2 < ((rd_L4 x5_2 x6_1).length : Int)
                              ·rw [if_pos c37] at H
                               have c37b0 : decide (x7_2 < ((rd_L4 x5_2 x6_1).length : Int)) = true := decide_eq_true c37
                               clear c37
                               obtain ⟨y146, hy146⟩ : ∃ y_ : List Int, y_ = ((rd_L4 x5_2 x6_1).set (x7_2 : Int).toNat (wrap64 ((rd (rd_L4 x5_2 (ji22)) (ji29)) + 1))) := ⟨_, rfl⟩
                               replace H : (spec_l04Table.l1 kj18 l0 l1 (x5_2.set (x6_1 : Int).toNat y146) x6_1 (wrap64 (x7_2 - 1))) = some r := by first | (rw [hy146]; with_reducible exact H) | (have H2_ := (Option.bind_some _ _).symm.trans H; rw [hy146]; with_reducible exact H2_) | (have H2_ := (Option.bind_some _ _).symm.trans H; with_reducible exact H2_) | with_reducible exact H | (rw [hy146]; exact H) | exact H
                               have Ny146 := Aside0.mk hy146
                               clear hy146
                               obtain ⟨y148, hy148⟩ : ∃ y_ : List (List Int), y_ = (x5_2.set (x6_1 : Int).toNat y146) := ⟨_, rfl⟩
                               replace H : (spec_l04Table.l1 kj18 l0 l1 y148 x6_1 (wrap64 (x7_2 - 1))) = some r := by first | (rw [hy148]; with_reducible exact H) | (have H2_ := (Option.bind_some _ _).symm.trans H; rw [hy148]; with_reducible exact H2_) | (have H2_ := (Option.bind_some _ _).symm.trans H; with_reducible exact H2_) | with_reducible exact H | (rw [hy148]; exact H) | exact H
                               have Ny148 := Aside0.mk hy148
                               clear hy148
                               have H' := Aside0.mk H
                               clear H
                               have p135 : 0 ≤ ((ji22) : Int) := of_decide_eq_true (by first | (with_reducible assumption) | assumption)
                               have q135 : (ji22) < (x5_2.length : Int) := of_decide_eq_true (by first | (with_reducible assumption) | assumption)
                               obtain ⟨ad135, A135_0, c135_0, e135, hx135_0, hl135_0, hi135_0⟩ := at_L4 (Kd.S_reads' HO_5.out).2.2 (ji22) p135 q135
                               obtain rfl : (⟨go14, 0, none⟩ : Addr) = ad135 := (by injection e135)
                               obtain ⟨ce135, hce135, hMe135, hcc135⟩ := Kd.S_get HO_5.out [] (ji22) p135 (by first | exact q135 | exact of_decide_eq_true (by first | (with_reducible assumption) | assumption) | (have e_ := (Kd.S_reads' HO_5.out).1; omega))
                               obtain ⟨ve135_0, rfl, ge135_0⟩ := hMe135
                               have hv135_0 := hcc135 0 _ rfl
                               rw [Nat.add_zero, show ((Kd.slice 3 (Kd.int .i64))).sz = 1 from rfl, Nat.mul_one] at hv135_0
                               replace hv135_0 := Option.some.inj (hv135_0.symm.trans hx135_0)
                               rw [hv135_0] at ge135_0
                               have HL135_0 := Aside0.mk (show Kd.R (Kd.int .i64) 3 _ _ _ _ (rd_L4 x5_2 (ji22)) from ge135_0)
                               clear hv135_0 ge135_0
                               have HX135_0 := Aside0.mk hx135_0
                               clear hcc135 hce135
                               (first | simp only [add_plain] at hx135_0 | simp only [add_at] at hx135_0 | simp only [Addr.add, Nat.zero_add] at hx135_0 | skip)
                               have HR135_0 := Aside0.mk hi135_0
                               have HC135_0 := Aside0.mk hl135_0
                               clear hi135_0 hl135_0
                               replace p135 := eq_true p135
                               replace q135 := eq_true q135
                               have p136 : 0 ≤ (x7_2 : Int) := of_decide_eq_true (by first | (with_reducible assumption) | assumption)
                               have q136 : x7_2 < ((rd_L4 x5_2 (ji22)).length : Int) := of_decide_eq_true (by first | (with_reducible assumption) | assumption)
                               obtain ⟨ad136, e136, hx136_0⟩ := Kd.at_int (by repeat (first | (with_reducible exact HR135_0.out) | (with_reducible refine Kd.C_alloc ?_ _) | (with_reducible refine Kd.C_drewN ?_ _) | (with_reducible refine Kd.C_drew ?_) | exact HR135_0.out)) x7_2 p136 q136
                               cases e136
                               replace p136 := eq_true p136
                               replace q136 := eq_true q136
                               have p137 : 0 ≤ (x6_1 : Int) := of_decide_eq_true (by first | (with_reducible assumption) | assumption)
                               have q137 : x6_1 < (x5_2.length : Int) := of_decide_eq_true (by first | (with_reducible assumption) | assumption)
                               obtain ⟨ad137, A137_0, c137_0, e137, hx137_0, hl137_0, hi137_0⟩ := at_L4 (Kd.S_reads' HO_5.out).2.2 x6_1 p137 q137
                               obtain rfl : (⟨go14, 0, none⟩ : Addr) = ad137 := (by injection e137)
                               obtain ⟨ce137, hce137, hMe137, hcc137⟩ := Kd.S_get HO_5.out [] x6_1 p137 (by first | exact q137 | exact of_decide_eq_true (by first | (with_reducible assumption) | assumption) | (have e_ := (Kd.S_reads' HO_5.out).1; omega))
                               obtain ⟨ve137_0, rfl, ge137_0⟩ := hMe137
                               have hv137_0 := hcc137 0 _ rfl
                               rw [Nat.add_zero, show ((Kd.slice 3 (Kd.int .i64))).sz = 1 from rfl, Nat.mul_one] at hv137_0
                               replace hv137_0 := Option.some.inj (hv137_0.symm.trans hx137_0)
                               rw [hv137_0] at ge137_0
                               have HL137_0 := Aside0.mk (show Kd.R (Kd.int .i64) 3 _ _ _ _ (rd_L4 x5_2 x6_1) from ge137_0)
                               clear hv137_0 ge137_0
                               have HX137_0 := Aside0.mk hx137_0
                               clear hcc137 hce137
                               (first | simp only [add_plain] at hx137_0 | simp only [add_at] at hx137_0 | simp only [Addr.add, Nat.zero_add] at hx137_0 | skip)
                               have HR137_0 := Aside0.mk hi137_0
                               have HC137_0 := Aside0.mk hl137_0
                               clear hi137_0 hl137_0
                               replace p137 := eq_true p137
                               replace q137 := eq_true q137
                               have p138 : 0 ≤ ((ji29) : Int) := of_decide_eq_true (by first | (with_reducible assumption) | assumption)
                               have q138 : (ji29) < ((rd_L4 x5_2 x6_1).length : Int) := of_decide_eq_true (by first | (with_reducible assumption) | assumption)
                               obtain ⟨ad138, e138, hx138_0⟩ := Kd.at_int (by repeat (first | (with_reducible exact HR137_0.out) | (with_reducible refine Kd.C_alloc ?_ _) | (with_reducible refine Kd.C_drewN ?_ _) | (with_reducible refine Kd.C_drew ?_) | exact HR137_0.out)) (ji29) p138 q138
                               cases e138
                               replace p138 := eq_true p138
                               replace q138 := eq_true q138
                               have p139 : 0 ≤ (x6_1 : Int) := of_decide_eq_true (by first | (with_reducible assumption) | assumption)
                               have q139 : x6_1 < (x5_2.length : Int) := of_decide_eq_true (by first | (with_reducible assumption) | assumption)
                               obtain ⟨ad139, A139_0, c139_0, e139, hx139_0, hl139_0, hi139_0⟩ := at_L4 (Kd.S_reads' HO_5.out).2.2 x6_1 p139 q139
                               obtain rfl : (⟨go14, 0, none⟩ : Addr) = ad139 := (by injection e139)
                               obtain ⟨ce139, hce139, hMe139, hcc139⟩ := Kd.S_get HO_5.out [] x6_1 p139 (by first | exact q139 | exact of_decide_eq_true (by first | (with_reducible assumption) | assumption) | (have e_ := (Kd.S_reads' HO_5.out).1; omega))
                               obtain ⟨ve139_0, rfl, ge139_0⟩ := hMe139
                               have hv139_0 := hcc139 0 _ rfl
                               rw [Nat.add_zero, show ((Kd.slice 3 (Kd.int .i64))).sz = 1 from rfl, Nat.mul_one] at hv139_0
                               replace hv139_0 := Option.some.inj (hv139_0.symm.trans hx139_0)
                               rw [hv139_0] at ge139_0
                               have HL139_0 := Aside0.mk (show Kd.R (Kd.int .i64) 3 _ _ _ _ (rd_L4 x5_2 x6_1) from ge139_0)
                               clear hv139_0 ge139_0
                               have HX139_0 := Aside0.mk hx139_0
                               clear hcc139 hce139
                               (first | simp only [add_plain] at hx139_0 | simp only [add_at] at hx139_0 | simp only [Addr.add, Nat.zero_add] at hx139_0 | skip)
                               have HR139_0 := Aside0.mk hi139_0
                               have HC139_0 := Aside0.mk hl139_0
                               clear hi139_0 hl139_0
                               replace p139 := eq_true p139
                               replace q139 := eq_true q139
                               have ea_ := Option.some.inj (hx137_0.symm.trans hx139_0)
                               injection ea_ with ea_ en_ ec_
                               subst ea_
                               subst ec_
                               clear en_
                               have p140 : 0 ≤ ((ji29) : Int) := of_decide_eq_true (by first | (with_reducible assumption) | assumption)
                               have q140 : (ji29) < ((rd_L4 x5_2 x6_1).length : Int) := of_decide_eq_true (by first | (with_reducible assumption) | assumption)
                               obtain ⟨ad140, e140, hx140_0⟩ := Kd.at_int (by repeat (first | (with_reducible exact HR139_0.out) | (with_reducible refine Kd.C_alloc ?_ _) | (with_reducible refine Kd.C_drewN ?_ _) | (with_reducible refine Kd.C_drew ?_) | exact HR139_0.out)) (ji29) p140 q140
                               cases e140
                               replace p140 := eq_true p140
                               replace q140 := eq_true q140
                               have p141 : 0 ≤ (x6_1 : Int) := of_decide_eq_true (by first | (with_reducible assumption) | assumption)
                               have q141 : x6_1 < (l0.length : Int) := of_decide_eq_true (by first | (with_reducible assumption) | assumption)
                               obtain ⟨ad141, e141, hx141_0⟩ := Kd.at_string HR0.out x6_1 p141 q141
                               cases e141
                               replace hx141_0 := (HB.out.cell (World.block_lt_of_cell? w _ hx141_0)).trans hx141_0
                               replace p141 := eq_true p141
                               replace q141 := eq_true q141
                               have p142 : 0 ≤ (x7_2 : Int) := of_decide_eq_true (by first | (with_reducible assumption) | assumption)
                               have q142 : x7_2 < (l1.length : Int) := of_decide_eq_true (by first | (with_reducible assumption) | assumption)
                               obtain ⟨ad142, e142, hx142_0⟩ := Kd.at_string HR1.out x7_2 p142 q142
                               cases e142
                               replace hx142_0 := (HB.out.cell (World.block_lt_of_cell? w _ hx142_0)).trans hx142_0
                               replace p142 := eq_true p142
                               replace q142 := eq_true q142
                               have p143 : 0 ≤ ((ji22) : Int) := of_decide_eq_true (by first | (with_reducible assumption) | assumption)
                               have q143 : (ji22) < (x5_2.length : Int) := of_decide_eq_true (by first | (with_reducible assumption) | assumption)
                               obtain ⟨ad143, A143_0, c143_0, e143, hx143_0, hl143_0, hi143_0⟩ := at_L4 (Kd.S_reads' HO_5.out).2.2 (ji22) p143 q143
                               obtain rfl : (⟨go14, 0, none⟩ : Addr) = ad143 := (by injection e143)
                               obtain ⟨ce143, hce143, hMe143, hcc143⟩ := Kd.S_get HO_5.out [] (ji22) p143 (by first | exact q143 | exact of_decide_eq_true (by first | (with_reducible assumption) | assumption) | (have e_ := (Kd.S_reads' HO_5.out).1; omega))
                               obtain ⟨ve143_0, rfl, ge143_0⟩ := hMe143
                               have hv143_0 := hcc143 0 _ rfl
                               rw [Nat.add_zero, show ((Kd.slice 3 (Kd.int .i64))).sz = 1 from rfl, Nat.mul_one] at hv143_0
                               replace hv143_0 := Option.some.inj (hv143_0.symm.trans hx143_0)
                               rw [hv143_0] at ge143_0
                               have HL143_0 := Aside0.mk (show Kd.R (Kd.int .i64) 3 _ _ _ _ (rd_L4 x5_2 (ji22)) from ge143_0)
                               clear hv143_0 ge143_0
                               have HX143_0 := Aside0.mk hx143_0
                               clear hcc143 hce143
                               (first | simp only [add_plain] at hx143_0 | simp only [add_at] at hx143_0 | simp only [Addr.add, Nat.zero_add] at hx143_0 | skip)
                               have HR143_0 := Aside0.mk hi143_0
                               have HC143_0 := Aside0.mk hl143_0
                               clear hi143_0 hl143_0
                               replace p143 := eq_true p143
                               replace q143 := eq_true q143
                               have ea_ := Option.some.inj (hx135_0.symm.trans hx143_0)
                               injection ea_ with ea_ en_ ec_
                               subst ea_
                               subst ec_
                               clear en_
                               have p144 : 0 ≤ ((ji29) : Int) := of_decide_eq_true (by first | (with_reducible assumption) | assumption)
                               have q144 : (ji29) < ((rd_L4 x5_2 (ji22)).length : Int) := of_decide_eq_true (by first | (with_reducible assumption) | assumption)
                               obtain ⟨ad144, e144, hx144_0⟩ := Kd.at_int (by repeat (first | (with_reducible exact HR143_0.out) | (with_reducible refine Kd.C_alloc ?_ _) | (with_reducible refine Kd.C_drewN ?_ _) | (with_reducible refine Kd.C_drew ?_) | exact HR143_0.out)) (ji29) p144 q144
                               cases e144
                               replace p144 := eq_true p144
                               replace q144 := eq_true q144
                               have p145 : 0 ≤ (x6_1 : Int) := of_decide_eq_true (by first | (with_reducible assumption) | assumption)
                               have q145 : x6_1 < (x5_2.length : Int) := of_decide_eq_true (by first | (with_reducible assumption) | assumption)
                               obtain ⟨ad145, A145_0, c145_0, e145, hx145_0, hl145_0, hi145_0⟩ := at_L4 (Kd.S_reads' HO_5.out).2.2 x6_1 p145 q145
                               obtain rfl : (⟨go14, 0, none⟩ : Addr) = ad145 := (by injection e145)
                               obtain ⟨ce145, hce145, hMe145, hcc145⟩ := Kd.S_get HO_5.out [] x6_1 p145 (by first | exact q145 | exact of_decide_eq_true (by first | (with_reducible assumption) | assumption) | (have e_ := (Kd.S_reads' HO_5.out).1; omega))
                               obtain ⟨ve145_0, rfl, ge145_0⟩ := hMe145
                               have hv145_0 := hcc145 0 _ rfl
                               rw [Nat.add_zero, show ((Kd.slice 3 (Kd.int .i64))).sz = 1 from rfl, Nat.mul_one] at hv145_0
                               replace hv145_0 := Option.some.inj (hv145_0.symm.trans hx145_0)
                               rw [hv145_0] at ge145_0
                               have HL145_0 := Aside0.mk (show Kd.R (Kd.int .i64) 3 _ _ _ _ (rd_L4 x5_2 x6_1) from ge145_0)
                               clear hv145_0 ge145_0
                               have HX145_0 := Aside0.mk hx145_0
                               clear hcc145 hce145
                               (first | simp only [add_plain] at hx145_0 | simp only [add_at] at hx145_0 | simp only [Addr.add, Nat.zero_add] at hx145_0 | skip)
                               have HR145_0 := Aside0.mk hi145_0
                               have HC145_0 := Aside0.mk hl145_0
                               clear hi145_0 hl145_0
                               replace p145 := eq_true p145
                               replace q145 := eq_true q145
                               have ea_ := Option.some.inj (hx137_0.symm.trans hx145_0)
                               injection ea_ with ea_ en_ ec_
                               subst ea_
                               subst ec_
                               clear en_
                               have p38 : 0 ≤ (x7_2 : Int) := of_decide_eq_true (by first | (with_reducible assumption) | assumption)
                               have q38 : (x7_2 : Int) < (((rd_L4 x5_2 x6_1).length : Int) : Int) := of_decide_eq_true (by first | (with_reducible assumption) | assumption)
                               obtain ⟨go38, co38, eo38, gb38, gl38, cl38, HG38⟩ := Kd.R_form HL145_0.out (by omega)
                               (first | cases eo38 | (injection eo38 with ea_ en_ ec_; (first | subst ea_ | (injection ea_ with ea_; subst ea_)); subst ec_; clear en_))
                               have GB38 := Aside0.mk gb38
                               have GG38 := Aside0.mk HG38
                               clear gb38 gl38 HG38
                               (first | simp only [add_plain] at hx140_0 | skip)
                               obtain ⟨hx38_0, hf38_0⟩ := Kd.R_celln 0 HL145_0.out (x7_2 : Int) p38 q38
                               replace p38 := eq_true p38
                               replace q38 := eq_true q38
                               have hq39 : (x6_1 : Int) < (x5_2.length : Int) := (by have h_ : (x6_1 : Int) < ((x5_2.length : Int) : Int) := of_decide_eq_true (by first | (with_reducible assumption) | assumption); first | exact h_ | (have e_ := (Kd.S_reads' HO_5.out).1; omega) | simpa only [List.length_set, List.length_set] using h_)
                               obtain ⟨oki39, ce39, hcl39, hM39, hcc39, hok39, hbk39⟩ := Kd.S_borrow HO_5.out [] (x6_1 : Int) (of_decide_eq_true (by first | (with_reducible assumption) | assumption)) hq39
                               obtain ⟨ve39_0, rfl, ge39_0⟩ := hM39
                               have hv39 := hcc39 0 _ rfl
                               rw [Nat.add_zero, show ((Kd.slice 3 (Kd.int .i64))).sz = 1 from rfl, Nat.mul_one] at hv39
                               replace hv39 := Option.some.inj (hv39.symm.trans HX145_0.out)
                               subst hv39
                               clear hcc39 hcl39
                               replace ge39_0 := (show Kd.R (Kd.int .i64) 3 _ _ _ _ (rd_L4 x5_2 x6_1) from ge39_0)
                               have HP39 := Kd.R_putg ge39_0 (x7_2 : Int) (wrap64 ((rd (rd_L4 x5_2 (ji22)) (ji29)) + 1))
                               go_wp2_with (first | ((with_reducible refine gate_store (t := 3) (p := 90) rfl ?_); (try (rw [drewN_self wc]; generalize hq_ : World.drewN wc _ = wc; (try (replace hx135_0 := cell_at hq_ hx135_0)); (try (replace hx136_0 := cell_at hq_ hx136_0)); (try (replace hx137_0 := cell_at hq_ hx137_0)); (try (replace hx138_0 := cell_at hq_ hx138_0)); (try (replace hx139_0 := cell_at hq_ hx139_0)); (try (replace hx140_0 := cell_at hq_ hx140_0)); (try (replace hx141_0 := cell_at hq_ hx141_0)); (try (replace hx142_0 := cell_at hq_ hx142_0)); (try (replace hx143_0 := cell_at hq_ hx143_0)); (try (replace hx144_0 := cell_at hq_ hx144_0)); (try (replace hx145_0 := cell_at hq_ hx145_0)); (try (replace hx38_0 := cell_at hq_ hx38_0)); (try (replace hf38_0 := frozen_at hq_ hf38_0)); (try (replace HX135_0 := Aside0.mk (cell_at hq_ HX135_0.out))); (try (replace HX137_0 := Aside0.mk (cell_at hq_ HX137_0.out))); (try (replace HX139_0 := Aside0.mk (cell_at hq_ HX139_0.out))); (try (replace HX143_0 := Aside0.mk (cell_at hq_ HX143_0.out))); (try (replace HX145_0 := Aside0.mk (cell_at hq_ HX145_0.out))); have n0_ := Aside0.mk (Kd.S_at hq_ HO_5.out); (try have n1_ := Aside0.mk (Kd.R_at hq_ HL165.out)); have n2_ := Aside0.mk (below_at hq_ HB.out); (try clear HL165); clear hq_ HO_5 HB; have HO_5 := n0_; (try have HL165 := n1_); have HB := n2_; (try clear n1_); clear n0_ n2_; (try (have hq39 : (x6_1 : Int) < (x5_2.length : Int) := (by have h_ : (x6_1 : Int) < ((x5_2.length : Int) : Int) := of_decide_eq_true (by first | (with_reducible assumption) | assumption); first | exact h_ | (have e_ := (Kd.S_reads' HO_5.out).1; omega) | simpa only [List.length_set, List.length_set] using h_))); (try (obtain ⟨oki39, ce39, hcl39, hM39, hcc39, hok39, hbk39⟩ := Kd.S_borrow HO_5.out [] (x6_1 : Int) (of_decide_eq_true (by first | (with_reducible assumption) | assumption)) hq39)); (try (obtain ⟨ve39_0, rfl, ge39_0⟩ := hM39)); (try (have hv39 := hcc39 0 _ rfl)); (try (rw [Nat.add_zero, show ((Kd.slice 3 (Kd.int .i64))).sz = 1 from rfl, Nat.mul_one] at hv39)); (try (replace hv39 := Option.some.inj (hv39.symm.trans HX145_0.out))); (try (subst hv39)); (try (clear hcc39 hcl39)); (try (replace ge39_0 := (show Kd.R (Kd.int .i64) 3 _ _ _ _ (rd_L4 x5_2 x6_1) from ge39_0))); (try (have HP39 := Kd.R_putg ge39_0 (x7_2 : Int) (wrap64 ((rd (rd_L4 x5_2 (ji22)) (ji29)) + 1)))))); refine store_event (t := 3) (p := 90) (v := ?vo_w40) (w1 := (wc.setCell ⟨go38, (x7_2 : Int).toNat, none⟩ (.int .i64 (wrap64 ((rd (rd_L4 x5_2 (ji22)) (ji29)) + 1))))) ?hg ?ho ?hn ?hr ?_; (case ho => rfl); (case hg => rfl); (case hn => rfl); (case hr => first | (go_simp; done) | (go_simp; rfl)); intro w40 hw; have hg : wc.grownBy w40 (some go38) := (by rw [hw]; exact HP39.2); have hz_ : Kd.R (Kd.int .i64) 3 w40 w.heap.size oki39 (.slice (some ⟨go38, 0, none⟩) (rd_L4 x5_2 x6_1).length c137_0) y146 := (by rw [hw, Ny146.out]; exact HP39.1); have hp_ : Kd.S (Kd.slice 3 (Kd.int .i64)) 35 w40 w.heap.size (fun _ => True) (.slice (some ⟨go14, 0, none⟩) x5_2.length co14) y148 := (by rw [Ny148.out]; exact hbk39 hg (fun k_ e_ => by injection e_ with e_; subst e_; exact ge39_0.1 _ rfl) (Kd.M_row hz_)); have hm_ := Kd.R_mono hz_ hok39; clear HP39 hbk39; have n0_ := Aside0.mk (hp_); have n1_ := Aside0.mk ((by rw [hw]; exact below_set (HB.out) GB38.out : Below w.heap.size w w40)); have n2_ := Aside0.mk (hm_); have n3_ := Aside0.mk ((Kd.R_reads' hm_).2.1); clear HO_5; clear HB; clear HL135_0; clear HL137_0; clear HL139_0; clear HL143_0; clear HL145_0; have HO_5 := n0_; have HB := n1_; have HL165 := n2_; have HC147 := n3_; clear n0_ n1_ n2_ n3_; clear hg hw hp_ hz_ hm_ hok39))
                               repeat (go_quiet (first | ((with_reducible refine gate_store (t := 3) (p := 90) rfl ?_); (try (rw [drewN_self wc]; generalize hq_ : World.drewN wc _ = wc; (try (replace hx135_0 := cell_at hq_ hx135_0)); (try (replace hx136_0 := cell_at hq_ hx136_0)); (try (replace hx137_0 := cell_at hq_ hx137_0)); (try (replace hx138_0 := cell_at hq_ hx138_0)); (try (replace hx139_0 := cell_at hq_ hx139_0)); (try (replace hx140_0 := cell_at hq_ hx140_0)); (try (replace hx141_0 := cell_at hq_ hx141_0)); (try (replace hx142_0 := cell_at hq_ hx142_0)); (try (replace hx143_0 := cell_at hq_ hx143_0)); (try (replace hx144_0 := cell_at hq_ hx144_0)); (try (replace hx145_0 := cell_at hq_ hx145_0)); (try (replace hx38_0 := cell_at hq_ hx38_0)); (try (replace hf38_0 := frozen_at hq_ hf38_0)); (try (replace HX135_0 := Aside0.mk (cell_at hq_ HX135_0.out))); (try (replace HX137_0 := Aside0.mk (cell_at hq_ HX137_0.out))); (try (replace HX139_0 := Aside0.mk (cell_at hq_ HX139_0.out))); (try (replace HX143_0 := Aside0.mk (cell_at hq_ HX143_0.out))); (try (replace HX145_0 := Aside0.mk (cell_at hq_ HX145_0.out))); have n0_ := Aside0.mk (Kd.S_at hq_ HO_5.out); (try have n1_ := Aside0.mk (Kd.R_at hq_ HL165.out)); have n2_ := Aside0.mk (below_at hq_ HB.out); (try clear HL165); clear hq_ HO_5 HB; have HO_5 := n0_; (try have HL165 := n1_); have HB := n2_; (try clear n1_); clear n0_ n2_; (try (have hq39 : (x6_1 : Int) < (x5_2.length : Int) := (by have h_ : (x6_1 : Int) < ((x5_2.length : Int) : Int) := of_decide_eq_true (by first | (with_reducible assumption) | assumption); first | exact h_ | (have e_ := (Kd.S_reads' HO_5.out).1; omega) | simpa only [List.length_set, List.length_set] using h_))); (try (obtain ⟨oki39, ce39, hcl39, hM39, hcc39, hok39, hbk39⟩ := Kd.S_borrow HO_5.out [] (x6_1 : Int) (of_decide_eq_true (by first | (with_reducible assumption) | assumption)) hq39)); (try (obtain ⟨ve39_0, rfl, ge39_0⟩ := hM39)); (try (have hv39 := hcc39 0 _ rfl)); (try (rw [Nat.add_zero, show ((Kd.slice 3 (Kd.int .i64))).sz = 1 from rfl, Nat.mul_one] at hv39)); (try (replace hv39 := Option.some.inj (hv39.symm.trans HX145_0.out))); (try (subst hv39)); (try (clear hcc39 hcl39)); (try (replace ge39_0 := (show Kd.R (Kd.int .i64) 3 _ _ _ _ (rd_L4 x5_2 x6_1) from ge39_0))); (try (have HP39 := Kd.R_putg ge39_0 (x7_2 : Int) (wrap64 ((rd (rd_L4 x5_2 (ji22)) (ji29)) + 1)))))); refine store_event (t := 3) (p := 90) (v := ?vo_w40) (w1 := (wc.setCell ⟨go38, (x7_2 : Int).toNat, none⟩ (.int .i64 (wrap64 ((rd (rd_L4 x5_2 (ji22)) (ji29)) + 1))))) ?hg ?ho ?hn ?hr ?_; (case ho => rfl); (case hg => rfl); (case hn => rfl); (case hr => first | (go_simp; done) | (go_simp; rfl)); intro w40 hw; have hg : wc.grownBy w40 (some go38) := (by rw [hw]; exact HP39.2); have hz_ : Kd.R (Kd.int .i64) 3 w40 w.heap.size oki39 (.slice (some ⟨go38, 0, none⟩) (rd_L4 x5_2 x6_1).length c137_0) y146 := (by rw [hw, Ny146.out]; exact HP39.1); have hp_ : Kd.S (Kd.slice 3 (Kd.int .i64)) 35 w40 w.heap.size (fun _ => True) (.slice (some ⟨go14, 0, none⟩) x5_2.length co14) y148 := (by rw [Ny148.out]; exact hbk39 hg (fun k_ e_ => by injection e_ with e_; subst e_; exact ge39_0.1 _ rfl) (Kd.M_row hz_)); have hm_ := Kd.R_mono hz_ hok39; clear HP39 hbk39; have n0_ := Aside0.mk (hp_); have n1_ := Aside0.mk ((by rw [hw]; exact below_set (HB.out) GB38.out : Below w.heap.size w w40)); have n2_ := Aside0.mk (hm_); have n3_ := Aside0.mk ((Kd.R_reads' hm_).2.1); clear HO_5; clear HB; clear HL135_0; clear HL137_0; clear HL139_0; clear HL143_0; clear HL145_0; have HO_5 := n0_; have HB := n1_; have HL165 := n2_; have HC147 := n3_; clear n0_ n1_ n2_ n3_; clear hg hw hp_ hz_ hm_ hok39)); try go_wp2_with (first | ((with_reducible refine gate_store (t := 3) (p := 90) rfl ?_); (try (rw [drewN_self wc]; generalize hq_ : World.drewN wc _ = wc; (try (replace hx135_0 := cell_at hq_ hx135_0)); (try (replace hx136_0 := cell_at hq_ hx136_0)); (try (replace hx137_0 := cell_at hq_ hx137_0)); (try (replace hx138_0 := cell_at hq_ hx138_0)); (try (replace hx139_0 := cell_at hq_ hx139_0)); (try (replace hx140_0 := cell_at hq_ hx140_0)); (try (replace hx141_0 := cell_at hq_ hx141_0)); (try (replace hx142_0 := cell_at hq_ hx142_0)); (try (replace hx143_0 := cell_at hq_ hx143_0)); (try (replace hx144_0 := cell_at hq_ hx144_0)); (try (replace hx145_0 := cell_at hq_ hx145_0)); (try (replace hx38_0 := cell_at hq_ hx38_0)); (try (replace hf38_0 := frozen_at hq_ hf38_0)); (try (replace HX135_0 := Aside0.mk (cell_at hq_ HX135_0.out))); (try (replace HX137_0 := Aside0.mk (cell_at hq_ HX137_0.out))); (try (replace HX139_0 := Aside0.mk (cell_at hq_ HX139_0.out))); (try (replace HX143_0 := Aside0.mk (cell_at hq_ HX143_0.out))); (try (replace HX145_0 := Aside0.mk (cell_at hq_ HX145_0.out))); have n0_ := Aside0.mk (Kd.S_at hq_ HO_5.out); (try have n1_ := Aside0.mk (Kd.R_at hq_ HL165.out)); have n2_ := Aside0.mk (below_at hq_ HB.out); (try clear HL165); clear hq_ HO_5 HB; have HO_5 := n0_; (try have HL165 := n1_); have HB := n2_; (try clear n1_); clear n0_ n2_; (try (have hq39 : (x6_1 : Int) < (x5_2.length : Int) := (by have h_ : (x6_1 : Int) < ((x5_2.length : Int) : Int) := of_decide_eq_true (by first | (with_reducible assumption) | assumption); first | exact h_ | (have e_ := (Kd.S_reads' HO_5.out).1; omega) | simpa only [List.length_set, List.length_set] using h_))); (try (obtain ⟨oki39, ce39, hcl39, hM39, hcc39, hok39, hbk39⟩ := Kd.S_borrow HO_5.out [] (x6_1 : Int) (of_decide_eq_true (by first | (with_reducible assumption) | assumption)) hq39)); (try (obtain ⟨ve39_0, rfl, ge39_0⟩ := hM39)); (try (have hv39 := hcc39 0 _ rfl)); (try (rw [Nat.add_zero, show ((Kd.slice 3 (Kd.int .i64))).sz = 1 from rfl, Nat.mul_one] at hv39)); (try (replace hv39 := Option.some.inj (hv39.symm.trans HX145_0.out))); (try (subst hv39)); (try (clear hcc39 hcl39)); (try (replace ge39_0 := (show Kd.R (Kd.int .i64) 3 _ _ _ _ (rd_L4 x5_2 x6_1) from ge39_0))); (try (have HP39 := Kd.R_putg ge39_0 (x7_2 : Int) (wrap64 ((rd (rd_L4 x5_2 (ji22)) (ji29)) + 1)))))); refine store_event (t := 3) (p := 90) (v := ?vo_w40) (w1 := (wc.setCell ⟨go38, (x7_2 : Int).toNat, none⟩ (.int .i64 (wrap64 ((rd (rd_L4 x5_2 (ji22)) (ji29)) + 1))))) ?hg ?ho ?hn ?hr ?_; (case ho => rfl); (case hg => rfl); (case hn => rfl); (case hr => first | (go_simp; done) | (go_simp; rfl)); intro w40 hw; have hg : wc.grownBy w40 (some go38) := (by rw [hw]; exact HP39.2); have hz_ : Kd.R (Kd.int .i64) 3 w40 w.heap.size oki39 (.slice (some ⟨go38, 0, none⟩) (rd_L4 x5_2 x6_1).length c137_0) y146 := (by rw [hw, Ny146.out]; exact HP39.1); have hp_ : Kd.S (Kd.slice 3 (Kd.int .i64)) 35 w40 w.heap.size (fun _ => True) (.slice (some ⟨go14, 0, none⟩) x5_2.length co14) y148 := (by rw [Ny148.out]; exact hbk39 hg (fun k_ e_ => by injection e_ with e_; subst e_; exact ge39_0.1 _ rfl) (Kd.M_row hz_)); have hm_ := Kd.R_mono hz_ hok39; clear HP39 hbk39; have n0_ := Aside0.mk (hp_); have n1_ := Aside0.mk ((by rw [hw]; exact below_set (HB.out) GB38.out : Below w.heap.size w w40)); have n2_ := Aside0.mk (hm_); have n3_ := Aside0.mk ((Kd.R_reads' hm_).2.1); clear HO_5; clear HB; clear HL135_0; clear HL137_0; clear HL139_0; clear HL143_0; clear HL145_0; have HO_5 := n0_; have HB := n1_; have HL165 := n2_; have HC147 := n3_; clear n0_ n1_ n2_ n3_; clear hg hw hp_ hz_ hm_ hok39)))
                               (try simp only [← hl5_2])
                               go_roundg kj18
                               case measure => have := HK1.out; have := HK2.out; have := HJ18.out; omega
                               case rel => exact ⟨(y148), (wrap64 (x7_2 - 1)), (by first | rfl | (simp; done) | (simp [*]; done)), H', ⟨by have := HK1.out; have := HK2.out; have := HJ18.out; omega⟩, ⟨by (try simp only [hl5_2]); (with_reducible repeat (first | apply Kd.S_alloc | apply Kd.S_drewN | apply Kd.S_drew)); exact HO_5.out⟩, ⟨by repeat (first | (with_reducible first | exact HB.out | apply below_alloc | apply pw_below_drewN | apply below_drew1) | exact HB.out)⟩⟩
                              ·rw [if_neg c37] at H
                               exact absurd H (by simp)
                             ·rw [if_neg c36] at H
                              exact absurd H (by simp)
                            ·rw [if_neg c35] at H
                             have c35b0 : ((rdOf ByteArray.empty l0 x6_1).toList == (rdOf ByteArray.empty l1 x7_2).toList) = false := beq_eq_false_iff_ne.mpr c35
                             have c35b1 : ((rdOf ByteArray.empty l0 x6_1).toList != (rdOf ByteArray.empty l1 x7_2).toList) = true := bne_iff_ne.mpr c35
                             by_cases c41 : x7_2 < ((rd_L4 x5_2 x6_1).length : Int)
                             ·rw [if_pos c41] at H
                              have c41b0 : decide (x7_2 < ((rd_L4 x5_2 x6_1).length : Int)) = true := decide_eq_true c41
                              clear c41
                              obtain ⟨y150, hy150⟩ : ∃ y_ : List Int, y_ = ((rd_L4 x5_2 x6_1).set (x7_2 : Int).toNat (rd (rd_L4 x5_2 x6_1) (ji29))) := ⟨_, rfl⟩
                              replace H : (spec_l04Table.l1 kj18 l0 l1 (x5_2.set (x6_1 : Int).toNat y150) x6_1 (wrap64 (x7_2 - 1))) = some r := by first | (rw [hy150]; with_reducible exact H) | (have H2_ := (Option.bind_some _ _).symm.trans H; rw [hy150]; with_reducible exact H2_) | (have H2_ := (Option.bind_some _ _).symm.trans H; with_reducible exact H2_) | with_reducible exact H | (rw [hy150]; exact H) | exact H
                              have Ny150 := Aside0.mk hy150
                              clear hy150
                              obtain ⟨y152, hy152⟩ : ∃ y_ : List (List Int), y_ = (x5_2.set (x6_1 : Int).toNat y150) := ⟨_, rfl⟩
                              replace H : (spec_l04Table.l1 kj18 l0 l1 y152 x6_1 (wrap64 (x7_2 - 1))) = some r := by first | (rw [hy152]; with_reducible exact H) | (have H2_ := (Option.bind_some _ _).symm.trans H; rw [hy152]; with_reducible exact H2_) | (have H2_ := (Option.bind_some _ _).symm.trans H; with_reducible exact H2_) | with_reducible exact H | (rw [hy152]; exact H) | exact H
                              have Ny152 := Aside0.mk hy152
                              clear hy152
                              have H' := Aside0.mk H
                              clear H
                              have p135 : 0 ≤ ((ji22) : Int) := of_decide_eq_true (by first | (with_reducible assumption) | assumption)
                              have q135 : (ji22) < (x5_2.length : Int) := of_decide_eq_true (by first | (with_reducible assumption) | assumption)
                              obtain ⟨ad135, A135_0, c135_0, e135, hx135_0, hl135_0, hi135_0⟩ := at_L4 (Kd.S_reads' HO_5.out).2.2 (ji22) p135 q135
                              obtain rfl : (⟨go14, 0, none⟩ : Addr) = ad135 := (by injection e135)
                              obtain ⟨ce135, hce135, hMe135, hcc135⟩ := Kd.S_get HO_5.out [] (ji22) p135 (by first | exact q135 | exact of_decide_eq_true (by first | (with_reducible assumption) | assumption) | (have e_ := (Kd.S_reads' HO_5.out).1; omega))
                              obtain ⟨ve135_0, rfl, ge135_0⟩ := hMe135
                              have hv135_0 := hcc135 0 _ rfl
                              rw [Nat.add_zero, show ((Kd.slice 3 (Kd.int .i64))).sz = 1 from rfl, Nat.mul_one] at hv135_0
                              replace hv135_0 := Option.some.inj (hv135_0.symm.trans hx135_0)
                              rw [hv135_0] at ge135_0
                              have HL135_0 := Aside0.mk (show Kd.R (Kd.int .i64) 3 _ _ _ _ (rd_L4 x5_2 (ji22)) from ge135_0)
                              clear hv135_0 ge135_0
                              have HX135_0 := Aside0.mk hx135_0
                              clear hcc135 hce135
                              (first | simp only [add_plain] at hx135_0 | simp only [add_at] at hx135_0 | simp only [Addr.add, Nat.zero_add] at hx135_0 | skip)
                              have HR135_0 := Aside0.mk hi135_0
                              have HC135_0 := Aside0.mk hl135_0
                              clear hi135_0 hl135_0
                              replace p135 := eq_true p135
                              replace q135 := eq_true q135
                              have p136 : 0 ≤ (x7_2 : Int) := of_decide_eq_true (by first | (with_reducible assumption) | assumption)
                              have q136 : x7_2 < ((rd_L4 x5_2 (ji22)).length : Int) := of_decide_eq_true (by first | (with_reducible assumption) | assumption)
                              obtain ⟨ad136, e136, hx136_0⟩ := Kd.at_int (by repeat (first | (with_reducible exact HR135_0.out) | (with_reducible refine Kd.C_alloc ?_ _) | (with_reducible refine Kd.C_drewN ?_ _) | (with_reducible refine Kd.C_drew ?_) | exact HR135_0.out)) x7_2 p136 q136
                              cases e136
                              replace p136 := eq_true p136
                              replace q136 := eq_true q136
                              have p137 : 0 ≤ (x6_1 : Int) := of_decide_eq_true (by first | (with_reducible assumption) | assumption)
                              have q137 : x6_1 < (x5_2.length : Int) := of_decide_eq_true (by first | (with_reducible assumption) | assumption)
                              obtain ⟨ad137, A137_0, c137_0, e137, hx137_0, hl137_0, hi137_0⟩ := at_L4 (Kd.S_reads' HO_5.out).2.2 x6_1 p137 q137
                              obtain rfl : (⟨go14, 0, none⟩ : Addr) = ad137 := (by injection e137)
                              obtain ⟨ce137, hce137, hMe137, hcc137⟩ := Kd.S_get HO_5.out [] x6_1 p137 (by first | exact q137 | exact of_decide_eq_true (by first | (with_reducible assumption) | assumption) | (have e_ := (Kd.S_reads' HO_5.out).1; omega))
                              obtain ⟨ve137_0, rfl, ge137_0⟩ := hMe137
                              have hv137_0 := hcc137 0 _ rfl
                              rw [Nat.add_zero, show ((Kd.slice 3 (Kd.int .i64))).sz = 1 from rfl, Nat.mul_one] at hv137_0
                              replace hv137_0 := Option.some.inj (hv137_0.symm.trans hx137_0)
                              rw [hv137_0] at ge137_0
                              have HL137_0 := Aside0.mk (show Kd.R (Kd.int .i64) 3 _ _ _ _ (rd_L4 x5_2 x6_1) from ge137_0)
                              clear hv137_0 ge137_0
                              have HX137_0 := Aside0.mk hx137_0
                              clear hcc137 hce137
                              (first | simp only [add_plain] at hx137_0 | simp only [add_at] at hx137_0 | simp only [Addr.add, Nat.zero_add] at hx137_0 | skip)
                              have HR137_0 := Aside0.mk hi137_0
                              have HC137_0 := Aside0.mk hl137_0
                              clear hi137_0 hl137_0
                              replace p137 := eq_true p137
                              replace q137 := eq_true q137
                              have p138 : 0 ≤ ((ji29) : Int) := of_decide_eq_true (by first | (with_reducible assumption) | assumption)
                              have q138 : (ji29) < ((rd_L4 x5_2 x6_1).length : Int) := of_decide_eq_true (by first | (with_reducible assumption) | assumption)
                              obtain ⟨ad138, e138, hx138_0⟩ := Kd.at_int (by repeat (first | (with_reducible exact HR137_0.out) | (with_reducible refine Kd.C_alloc ?_ _) | (with_reducible refine Kd.C_drewN ?_ _) | (with_reducible refine Kd.C_drew ?_) | exact HR137_0.out)) (ji29) p138 q138
                              cases e138
                              replace p138 := eq_true p138
                              replace q138 := eq_true q138
                              have p139 : 0 ≤ (x6_1 : Int) := of_decide_eq_true (by first | (with_reducible assumption) | assumption)
                              have q139 : x6_1 < (x5_2.length : Int) := of_decide_eq_true (by first | (with_reducible assumption) | assumption)
                              obtain ⟨ad139, A139_0, c139_0, e139, hx139_0, hl139_0, hi139_0⟩ := at_L4 (Kd.S_reads' HO_5.out).2.2 x6_1 p139 q139
                              obtain rfl : (⟨go14, 0, none⟩ : Addr) = ad139 := (by injection e139)
                              obtain ⟨ce139, hce139, hMe139, hcc139⟩ := Kd.S_get HO_5.out [] x6_1 p139 (by first | exact q139 | exact of_decide_eq_true (by first | (with_reducible assumption) | assumption) | (have e_ := (Kd.S_reads' HO_5.out).1; omega))
                              obtain ⟨ve139_0, rfl, ge139_0⟩ := hMe139
                              have hv139_0 := hcc139 0 _ rfl
                              rw [Nat.add_zero, show ((Kd.slice 3 (Kd.int .i64))).sz = 1 from rfl, Nat.mul_one] at hv139_0
                              replace hv139_0 := Option.some.inj (hv139_0.symm.trans hx139_0)
                              rw [hv139_0] at ge139_0
                              have HL139_0 := Aside0.mk (show Kd.R (Kd.int .i64) 3 _ _ _ _ (rd_L4 x5_2 x6_1) from ge139_0)
                              clear hv139_0 ge139_0
                              have HX139_0 := Aside0.mk hx139_0
                              clear hcc139 hce139
                              (first | simp only [add_plain] at hx139_0 | simp only [add_at] at hx139_0 | simp only [Addr.add, Nat.zero_add] at hx139_0 | skip)
                              have HR139_0 := Aside0.mk hi139_0
                              have HC139_0 := Aside0.mk hl139_0
                              clear hi139_0 hl139_0
                              replace p139 := eq_true p139
                              replace q139 := eq_true q139
                              have ea_ := Option.some.inj (hx137_0.symm.trans hx139_0)
                              injection ea_ with ea_ en_ ec_
                              subst ea_
                              subst ec_
                              clear en_
                              have p140 : 0 ≤ ((ji29) : Int) := of_decide_eq_true (by first | (with_reducible assumption) | assumption)
                              have q140 : (ji29) < ((rd_L4 x5_2 x6_1).length : Int) := of_decide_eq_true (by first | (with_reducible assumption) | assumption)
                              obtain ⟨ad140, e140, hx140_0⟩ := Kd.at_int (by repeat (first | (with_reducible exact HR139_0.out) | (with_reducible refine Kd.C_alloc ?_ _) | (with_reducible refine Kd.C_drewN ?_ _) | (with_reducible refine Kd.C_drew ?_) | exact HR139_0.out)) (ji29) p140 q140
                              cases e140
                              replace p140 := eq_true p140
                              replace q140 := eq_true q140
                              have p141 : 0 ≤ (x6_1 : Int) := of_decide_eq_true (by first | (with_reducible assumption) | assumption)
                              have q141 : x6_1 < (l0.length : Int) := of_decide_eq_true (by first | (with_reducible assumption) | assumption)
                              obtain ⟨ad141, e141, hx141_0⟩ := Kd.at_string HR0.out x6_1 p141 q141
                              cases e141
                              replace hx141_0 := (HB.out.cell (World.block_lt_of_cell? w _ hx141_0)).trans hx141_0
                              replace p141 := eq_true p141
                              replace q141 := eq_true q141
                              have p142 : 0 ≤ (x7_2 : Int) := of_decide_eq_true (by first | (with_reducible assumption) | assumption)
                              have q142 : x7_2 < (l1.length : Int) := of_decide_eq_true (by first | (with_reducible assumption) | assumption)
                              obtain ⟨ad142, e142, hx142_0⟩ := Kd.at_string HR1.out x7_2 p142 q142
                              cases e142
                              replace hx142_0 := (HB.out.cell (World.block_lt_of_cell? w _ hx142_0)).trans hx142_0
                              replace p142 := eq_true p142
                              replace q142 := eq_true q142
                              have p149 : 0 ≤ (x6_1 : Int) := of_decide_eq_true (by first | (with_reducible assumption) | assumption)
                              have q149 : x6_1 < (x5_2.length : Int) := of_decide_eq_true (by first | (with_reducible assumption) | assumption)
                              obtain ⟨ad149, A149_0, c149_0, e149, hx149_0, hl149_0, hi149_0⟩ := at_L4 (Kd.S_reads' HO_5.out).2.2 x6_1 p149 q149
                              obtain rfl : (⟨go14, 0, none⟩ : Addr) = ad149 := (by injection e149)
                              obtain ⟨ce149, hce149, hMe149, hcc149⟩ := Kd.S_get HO_5.out [] x6_1 p149 (by first | exact q149 | exact of_decide_eq_true (by first | (with_reducible assumption) | assumption) | (have e_ := (Kd.S_reads' HO_5.out).1; omega))
                              obtain ⟨ve149_0, rfl, ge149_0⟩ := hMe149
                              have hv149_0 := hcc149 0 _ rfl
                              rw [Nat.add_zero, show ((Kd.slice 3 (Kd.int .i64))).sz = 1 from rfl, Nat.mul_one] at hv149_0
                              replace hv149_0 := Option.some.inj (hv149_0.symm.trans hx149_0)
                              rw [hv149_0] at ge149_0
                              have HL149_0 := Aside0.mk (show Kd.R (Kd.int .i64) 3 _ _ _ _ (rd_L4 x5_2 x6_1) from ge149_0)
                              clear hv149_0 ge149_0
                              have HX149_0 := Aside0.mk hx149_0
                              clear hcc149 hce149
                              (first | simp only [add_plain] at hx149_0 | simp only [add_at] at hx149_0 | simp only [Addr.add, Nat.zero_add] at hx149_0 | skip)
                              have HR149_0 := Aside0.mk hi149_0
                              have HC149_0 := Aside0.mk hl149_0
                              clear hi149_0 hl149_0
                              replace p149 := eq_true p149
                              replace q149 := eq_true q149
                              have ea_ := Option.some.inj (hx137_0.symm.trans hx149_0)
                              injection ea_ with ea_ en_ ec_
                              subst ea_
                              subst ec_
                              clear en_
                              have p42 : 0 ≤ (x7_2 : Int) := of_decide_eq_true (by first | (with_reducible assumption) | assumption)
                              have q42 : (x7_2 : Int) < (((rd_L4 x5_2 x6_1).length : Int) : Int) := of_decide_eq_true (by first | (with_reducible assumption) | assumption)
                              obtain ⟨go42, co42, eo42, gb42, gl42, cl42, HG42⟩ := Kd.R_form HL149_0.out (by omega)
                              (first | cases eo42 | (injection eo42 with ea_ en_ ec_; (first | subst ea_ | (injection ea_ with ea_; subst ea_)); subst ec_; clear en_))
                              have GB42 := Aside0.mk gb42
                              have GG42 := Aside0.mk HG42
                              clear gb42 gl42 HG42
                              (first | simp only [add_plain] at hx140_0 | skip)
                              obtain ⟨hx42_0, hf42_0⟩ := Kd.R_celln 0 HL149_0.out (x7_2 : Int) p42 q42
                              replace p42 := eq_true p42
                              replace q42 := eq_true q42
                              have hq43 : (x6_1 : Int) < (x5_2.length : Int) := (by have h_ : (x6_1 : Int) < ((x5_2.length : Int) : Int) := of_decide_eq_true (by first | (with_reducible assumption) | assumption); first | exact h_ | (have e_ := (Kd.S_reads' HO_5.out).1; omega) | simpa only [List.length_set, List.length_set] using h_)
                              obtain ⟨oki43, ce43, hcl43, hM43, hcc43, hok43, hbk43⟩ := Kd.S_borrow HO_5.out [] (x6_1 : Int) (of_decide_eq_true (by first | (with_reducible assumption) | assumption)) hq43
                              obtain ⟨ve43_0, rfl, ge43_0⟩ := hM43
                              have hv43 := hcc43 0 _ rfl
                              rw [Nat.add_zero, show ((Kd.slice 3 (Kd.int .i64))).sz = 1 from rfl, Nat.mul_one] at hv43
                              replace hv43 := Option.some.inj (hv43.symm.trans HX149_0.out)
                              subst hv43
                              clear hcc43 hcl43
                              replace ge43_0 := (show Kd.R (Kd.int .i64) 3 _ _ _ _ (rd_L4 x5_2 x6_1) from ge43_0)
                              have HP43 := Kd.R_putg ge43_0 (x7_2 : Int) (rd (rd_L4 x5_2 x6_1) (ji29))
                              go_wp2_with (first | ((with_reducible refine gate_store (t := 3) (p := 90) rfl ?_); (try (rw [drewN_self wc]; generalize hq_ : World.drewN wc _ = wc; (try (replace hx135_0 := cell_at hq_ hx135_0)); (try (replace hx136_0 := cell_at hq_ hx136_0)); (try (replace hx137_0 := cell_at hq_ hx137_0)); (try (replace hx138_0 := cell_at hq_ hx138_0)); (try (replace hx139_0 := cell_at hq_ hx139_0)); (try (replace hx140_0 := cell_at hq_ hx140_0)); (try (replace hx141_0 := cell_at hq_ hx141_0)); (try (replace hx142_0 := cell_at hq_ hx142_0)); (try (replace hx149_0 := cell_at hq_ hx149_0)); (try (replace hx42_0 := cell_at hq_ hx42_0)); (try (replace hf42_0 := frozen_at hq_ hf42_0)); (try (replace HX135_0 := Aside0.mk (cell_at hq_ HX135_0.out))); (try (replace HX137_0 := Aside0.mk (cell_at hq_ HX137_0.out))); (try (replace HX139_0 := Aside0.mk (cell_at hq_ HX139_0.out))); (try (replace HX145_0 := Aside0.mk (cell_at hq_ HX145_0.out))); (try (replace HX149_0 := Aside0.mk (cell_at hq_ HX149_0.out))); have n0_ := Aside0.mk (Kd.S_at hq_ HO_5.out); (try have n1_ := Aside0.mk (Kd.R_at hq_ HL166.out)); have n2_ := Aside0.mk (below_at hq_ HB.out); (try clear HL166); clear hq_ HO_5 HB; have HO_5 := n0_; (try have HL166 := n1_); have HB := n2_; (try clear n1_); clear n0_ n2_; (try (have hq43 : (x6_1 : Int) < (x5_2.length : Int) := (by have h_ : (x6_1 : Int) < ((x5_2.length : Int) : Int) := of_decide_eq_true (by first | (with_reducible assumption) | assumption); first | exact h_ | (have e_ := (Kd.S_reads' HO_5.out).1; omega) | simpa only [List.length_set, List.length_set] using h_))); (try (obtain ⟨oki43, ce43, hcl43, hM43, hcc43, hok43, hbk43⟩ := Kd.S_borrow HO_5.out [] (x6_1 : Int) (of_decide_eq_true (by first | (with_reducible assumption) | assumption)) hq43)); (try (obtain ⟨ve43_0, rfl, ge43_0⟩ := hM43)); (try (have hv43 := hcc43 0 _ rfl)); (try (rw [Nat.add_zero, show ((Kd.slice 3 (Kd.int .i64))).sz = 1 from rfl, Nat.mul_one] at hv43)); (try (replace hv43 := Option.some.inj (hv43.symm.trans HX149_0.out))); (try (subst hv43)); (try (clear hcc43 hcl43)); (try (replace ge43_0 := (show Kd.R (Kd.int .i64) 3 _ _ _ _ (rd_L4 x5_2 x6_1) from ge43_0))); (try (have HP43 := Kd.R_putg ge43_0 (x7_2 : Int) (rd (rd_L4 x5_2 x6_1) (ji29)))))); refine store_event (t := 3) (p := 90) (v := ?vo_w44) (w1 := (wc.setCell ⟨go42, (x7_2 : Int).toNat, none⟩ (.int .i64 (rd (rd_L4 x5_2 x6_1) (ji29))))) ?hg ?ho ?hn ?hr ?_; (case ho => rfl); (case hg => rfl); (case hn => rfl); (case hr => first | (go_simp; done) | (go_simp; rfl)); intro w44 hw; have hg : wc.grownBy w44 (some go42) := (by rw [hw]; exact HP43.2); have hz_ : Kd.R (Kd.int .i64) 3 w44 w.heap.size oki43 (.slice (some ⟨go42, 0, none⟩) (rd_L4 x5_2 x6_1).length c137_0) y150 := (by rw [hw, Ny150.out]; exact HP43.1); have hp_ : Kd.S (Kd.slice 3 (Kd.int .i64)) 35 w44 w.heap.size (fun _ => True) (.slice (some ⟨go14, 0, none⟩) x5_2.length co14) y152 := (by rw [Ny152.out]; exact hbk43 hg (fun k_ e_ => by injection e_ with e_; subst e_; exact ge43_0.1 _ rfl) (Kd.M_row hz_)); have hm_ := Kd.R_mono hz_ hok43; clear HP43 hbk43; have n0_ := Aside0.mk (hp_); have n1_ := Aside0.mk ((by rw [hw]; exact below_set (HB.out) GB42.out : Below w.heap.size w w44)); have n2_ := Aside0.mk (hm_); have n3_ := Aside0.mk ((Kd.R_reads' hm_).2.1); clear HO_5; clear HB; clear HL135_0; clear HL137_0; clear HL139_0; clear HL149_0; have HO_5 := n0_; have HB := n1_; have HL166 := n2_; have HC151 := n3_; clear n0_ n1_ n2_ n3_; clear hg hw hp_ hz_ hm_ hok43))
                              repeat (go_quiet (first | ((with_reducible refine gate_store (t := 3) (p := 90) rfl ?_); (try (rw [drewN_self wc]; generalize hq_ : World.drewN wc _ = wc; (try (replace hx135_0 := cell_at hq_ hx135_0)); (try (replace hx136_0 := cell_at hq_ hx136_0)); (try (replace hx137_0 := cell_at hq_ hx137_0)); (try (replace hx138_0 := cell_at hq_ hx138_0)); (try (replace hx139_0 := cell_at hq_ hx139_0)); (try (replace hx140_0 := cell_at hq_ hx140_0)); (try (replace hx141_0 := cell_at hq_ hx141_0)); (try (replace hx142_0 := cell_at hq_ hx142_0)); (try (replace hx149_0 := cell_at hq_ hx149_0)); (try (replace hx42_0 := cell_at hq_ hx42_0)); (try (replace hf42_0 := frozen_at hq_ hf42_0)); (try (replace HX135_0 := Aside0.mk (cell_at hq_ HX135_0.out))); (try (replace HX137_0 := Aside0.mk (cell_at hq_ HX137_0.out))); (try (replace HX139_0 := Aside0.mk (cell_at hq_ HX139_0.out))); (try (replace HX145_0 := Aside0.mk (cell_at hq_ HX145_0.out))); (try (replace HX149_0 := Aside0.mk (cell_at hq_ HX149_0.out))); have n0_ := Aside0.mk (Kd.S_at hq_ HO_5.out); (try have n1_ := Aside0.mk (Kd.R_at hq_ HL166.out)); have n2_ := Aside0.mk (below_at hq_ HB.out); (try clear HL166); clear hq_ HO_5 HB; have HO_5 := n0_; (try have HL166 := n1_); have HB := n2_; (try clear n1_); clear n0_ n2_; (try (have hq43 : (x6_1 : Int) < (x5_2.length : Int) := (by have h_ : (x6_1 : Int) < ((x5_2.length : Int) : Int) := of_decide_eq_true (by first | (with_reducible assumption) | assumption); first | exact h_ | (have e_ := (Kd.S_reads' HO_5.out).1; omega) | simpa only [List.length_set, List.length_set] using h_))); (try (obtain ⟨oki43, ce43, hcl43, hM43, hcc43, hok43, hbk43⟩ := Kd.S_borrow HO_5.out [] (x6_1 : Int) (of_decide_eq_true (by first | (with_reducible assumption) | assumption)) hq43)); (try (obtain ⟨ve43_0, rfl, ge43_0⟩ := hM43)); (try (have hv43 := hcc43 0 _ rfl)); (try (rw [Nat.add_zero, show ((Kd.slice 3 (Kd.int .i64))).sz = 1 from rfl, Nat.mul_one] at hv43)); (try (replace hv43 := Option.some.inj (hv43.symm.trans HX149_0.out))); (try (subst hv43)); (try (clear hcc43 hcl43)); (try (replace ge43_0 := (show Kd.R (Kd.int .i64) 3 _ _ _ _ (rd_L4 x5_2 x6_1) from ge43_0))); (try (have HP43 := Kd.R_putg ge43_0 (x7_2 : Int) (rd (rd_L4 x5_2 x6_1) (ji29)))))); refine store_event (t := 3) (p := 90) (v := ?vo_w44) (w1 := (wc.setCell ⟨go42, (x7_2 : Int).toNat, none⟩ (.int .i64 (rd (rd_L4 x5_2 x6_1) (ji29))))) ?hg ?ho ?hn ?hr ?_; (case ho => rfl); (case hg => rfl); (case hn => rfl); (case hr => first | (go_simp; done) | (go_simp; rfl)); intro w44 hw; have hg : wc.grownBy w44 (some go42) := (by rw [hw]; exact HP43.2); have hz_ : Kd.R (Kd.int .i64) 3 w44 w.heap.size oki43 (.slice (some ⟨go42, 0, none⟩) (rd_L4 x5_2 x6_1).length c137_0) y150 := (by rw [hw, Ny150.out]; exact HP43.1); have hp_ : Kd.S (Kd.slice 3 (Kd.int .i64)) 35 w44 w.heap.size (fun _ => True) (.slice (some ⟨go14, 0, none⟩) x5_2.length co14) y152 := (by rw [Ny152.out]; exact hbk43 hg (fun k_ e_ => by injection e_ with e_; subst e_; exact ge43_0.1 _ rfl) (Kd.M_row hz_)); have hm_ := Kd.R_mono hz_ hok43; clear HP43 hbk43; have n0_ := Aside0.mk (hp_); have n1_ := Aside0.mk ((by rw [hw]; exact below_set (HB.out) GB42.out : Below w.heap.size w w44)); have n2_ := Aside0.mk (hm_); have n3_ := Aside0.mk ((Kd.R_reads' hm_).2.1); clear HO_5; clear HB; clear HL135_0; clear HL137_0; clear HL139_0; clear HL149_0; have HO_5 := n0_; have HB := n1_; have HL166 := n2_; have HC151 := n3_; clear n0_ n1_ n2_ n3_; clear hg hw hp_ hz_ hm_ hok43)); try go_wp2_with (first | ((with_reducible refine gate_store (t := 3) (p := 90) rfl ?_); (try (rw [drewN_self wc]; generalize hq_ : World.drewN wc _ = wc; (try (replace hx135_0 := cell_at hq_ hx135_0)); (try (replace hx136_0 := cell_at hq_ hx136_0)); (try (replace hx137_0 := cell_at hq_ hx137_0)); (try (replace hx138_0 := cell_at hq_ hx138_0)); (try (replace hx139_0 := cell_at hq_ hx139_0)); (try (replace hx140_0 := cell_at hq_ hx140_0)); (try (replace hx141_0 := cell_at hq_ hx141_0)); (try (replace hx142_0 := cell_at hq_ hx142_0)); (try (replace hx149_0 := cell_at hq_ hx149_0)); (try (replace hx42_0 := cell_at hq_ hx42_0)); (try (replace hf42_0 := frozen_at hq_ hf42_0)); (try (replace HX135_0 := Aside0.mk (cell_at hq_ HX135_0.out))); (try (replace HX137_0 := Aside0.mk (cell_at hq_ HX137_0.out))); (try (replace HX139_0 := Aside0.mk (cell_at hq_ HX139_0.out))); (try (replace HX145_0 := Aside0.mk (cell_at hq_ HX145_0.out))); (try (replace HX149_0 := Aside0.mk (cell_at hq_ HX149_0.out))); have n0_ := Aside0.mk (Kd.S_at hq_ HO_5.out); (try have n1_ := Aside0.mk (Kd.R_at hq_ HL166.out)); have n2_ := Aside0.mk (below_at hq_ HB.out); (try clear HL166); clear hq_ HO_5 HB; have HO_5 := n0_; (try have HL166 := n1_); have HB := n2_; (try clear n1_); clear n0_ n2_; (try (have hq43 : (x6_1 : Int) < (x5_2.length : Int) := (by have h_ : (x6_1 : Int) < ((x5_2.length : Int) : Int) := of_decide_eq_true (by first | (with_reducible assumption) | assumption); first | exact h_ | (have e_ := (Kd.S_reads' HO_5.out).1; omega) | simpa only [List.length_set, List.length_set] using h_))); (try (obtain ⟨oki43, ce43, hcl43, hM43, hcc43, hok43, hbk43⟩ := Kd.S_borrow HO_5.out [] (x6_1 : Int) (of_decide_eq_true (by first | (with_reducible assumption) | assumption)) hq43)); (try (obtain ⟨ve43_0, rfl, ge43_0⟩ := hM43)); (try (have hv43 := hcc43 0 _ rfl)); (try (rw [Nat.add_zero, show ((Kd.slice 3 (Kd.int .i64))).sz = 1 from rfl, Nat.mul_one] at hv43)); (try (replace hv43 := Option.some.inj (hv43.symm.trans HX149_0.out))); (try (subst hv43)); (try (clear hcc43 hcl43)); (try (replace ge43_0 := (show Kd.R (Kd.int .i64) 3 _ _ _ _ (rd_L4 x5_2 x6_1) from ge43_0))); (try (have HP43 := Kd.R_putg ge43_0 (x7_2 : Int) (rd (rd_L4 x5_2 x6_1) (ji29)))))); refine store_event (t := 3) (p := 90) (v := ?vo_w44) (w1 := (wc.setCell ⟨go42, (x7_2 : Int).toNat, none⟩ (.int .i64 (rd (rd_L4 x5_2 x6_1) (ji29))))) ?hg ?ho ?hn ?hr ?_; (case ho => rfl); (case hg => rfl); (case hn => rfl); (case hr => first | (go_simp; done) | (go_simp; rfl)); intro w44 hw; have hg : wc.grownBy w44 (some go42) := (by rw [hw]; exact HP43.2); have hz_ : Kd.R (Kd.int .i64) 3 w44 w.heap.size oki43 (.slice (some ⟨go42, 0, none⟩) (rd_L4 x5_2 x6_1).length c137_0) y150 := (by rw [hw, Ny150.out]; exact HP43.1); have hp_ : Kd.S (Kd.slice 3 (Kd.int .i64)) 35 w44 w.heap.size (fun _ => True) (.slice (some ⟨go14, 0, none⟩) x5_2.length co14) y152 := (by rw [Ny152.out]; exact hbk43 hg (fun k_ e_ => by injection e_ with e_; subst e_; exact ge43_0.1 _ rfl) (Kd.M_row hz_)); have hm_ := Kd.R_mono hz_ hok43; clear HP43 hbk43; have n0_ := Aside0.mk (hp_); have n1_ := Aside0.mk ((by rw [hw]; exact below_set (HB.out) GB42.out : Below w.heap.size w w44)); have n2_ := Aside0.mk (hm_); have n3_ := Aside0.mk ((Kd.R_reads' hm_).2.1); clear HO_5; clear HB; clear HL135_0; clear HL137_0; clear HL139_0; clear HL149_0; have HO_5 := n0_; have HB := n1_; have HL166 := n2_; have HC151 := n3_; clear n0_ n1_ n2_ n3_; clear hg hw hp_ hz_ hm_ hok43)))
                              (try simp only [← hl5_2])
                              go_roundg kj18
                              case measure => have := HK1.out; have := HK2.out; have := HJ18.out; omega
                              case rel => exact ⟨(y152), (wrap64 (x7_2 - 1)), (by first | rfl | (simp; done) | (simp [*]; done)), H', ⟨by have := HK1.out; have := HK2.out; have := HJ18.out; omega⟩, ⟨by (try simp only [hl5_2]); (with_reducible repeat (first | apply Kd.S_alloc | apply Kd.S_drewN | apply Kd.S_drew)); exact HO_5.out⟩, ⟨by repeat (first | (with_reducible first | exact HB.out | apply below_alloc | apply pw_below_drewN | apply below_drew1) | exact HB.out)⟩⟩
                             ·rw [if_neg c41] at H
                              exact absurd H (by simp)
                           ·rw [if_neg c34] at H
                            exact absurd H (by simp)
                          ·rw [if_neg c33] at H
                           exact absurd H (by simp)
                         ·rw [if_neg c32] at H
                          have c32b0 : decide ((rd (rd_L4 x5_2 (ji22)) x7_2) < (rd (rd_L4 x5_2 x6_1) (ji29))) = false := decide_eq_false c32
                          clear c32
                          by_cases c45 : x6_1 < (l0.length : Int)
                          ·rw [if_pos c45] at H
                           have c45b0 : decide (x6_1 < (l0.length : Int)) = true := decide_eq_true c45
                           clear c45
                           by_cases c46 : x7_2 < (l1.length : Int)
                           ·rw [if_pos c46] at H
                            have c46b0 : decide (x7_2 < (l1.length : Int)) = true := decide_eq_true c46
                            clear c46
                            by_cases c47 : (rdOf ByteArray.empty l0 x6_1).toList = (rdOf ByteArray.empty l1 x7_2).toList
                            ·rw [if_pos c47] at H
                             have c47b0 : ((rdOf ByteArray.empty l0 x6_1).toList == (rdOf ByteArray.empty l1 x7_2).toList) = true := beq_iff_eq.mpr c47
                             have c47b1 : ((rdOf ByteArray.empty l0 x6_1).toList != (rdOf ByteArray.empty l1 x7_2).toList) = false := bne_eq_false_iff_eq.mpr c47
                             clear c47
                             by_cases c48 : (ji29) < ((rd_L4 x5_2 (ji22)).length : Int)
                             ·rw [if_pos c48] at H
                              have c48b0 : decide ((ji29) < ((rd_L4 x5_2 (ji22)).length : Int)) = true := decide_eq_true c48
                              clear c48
                              by_cases c49 : x7_2 < ((rd_L4 x5_2 x6_1).length : Int)
                              ·rw [if_pos c49] at H
                               have c49b0 : decide (x7_2 < ((rd_L4 x5_2 x6_1).length : Int)) = true := decide_eq_true c49
                               clear c49
                               obtain ⟨y158, hy158⟩ : ∃ y_ : List Int, y_ = ((rd_L4 x5_2 x6_1).set (x7_2 : Int).toNat (wrap64 ((rd (rd_L4 x5_2 (ji22)) (ji29)) + 1))) := ⟨_, rfl⟩
                               replace H : (spec_l04Table.l1 kj18 l0 l1 (x5_2.set (x6_1 : Int).toNat y158) x6_1 (wrap64 (x7_2 - 1))) = some r := by first | (rw [hy158]; with_reducible exact H) | (have H2_ := (Option.bind_some _ _).symm.trans H; rw [hy158]; with_reducible exact H2_) | (have H2_ := (Option.bind_some _ _).symm.trans H; with_reducible exact H2_) | with_reducible exact H | (rw [hy158]; exact H) | exact H
                               have Ny158 := Aside0.mk hy158
                               clear hy158
                               obtain ⟨y160, hy160⟩ : ∃ y_ : List (List Int), y_ = (x5_2.set (x6_1 : Int).toNat y158) := ⟨_, rfl⟩
                               replace H : (spec_l04Table.l1 kj18 l0 l1 y160 x6_1 (wrap64 (x7_2 - 1))) = some r := by first | (rw [hy160]; with_reducible exact H) | (have H2_ := (Option.bind_some _ _).symm.trans H; rw [hy160]; with_reducible exact H2_) | (have H2_ := (Option.bind_some _ _).symm.trans H; with_reducible exact H2_) | with_reducible exact H | (rw [hy160]; exact H) | exact H
                               have Ny160 := Aside0.mk hy160
                               clear hy160
                               have H' := Aside0.mk H
                               clear H
                               have p135 : 0 ≤ ((ji22) : Int) := of_decide_eq_true (by first | (with_reducible assumption) | assumption)
                               have q135 : (ji22) < (x5_2.length : Int) := of_decide_eq_true (by first | (with_reducible assumption) | assumption)
                               obtain ⟨ad135, A135_0, c135_0, e135, hx135_0, hl135_0, hi135_0⟩ := at_L4 (Kd.S_reads' HO_5.out).2.2 (ji22) p135 q135
                               obtain rfl : (⟨go14, 0, none⟩ : Addr) = ad135 := (by injection e135)
                               obtain ⟨ce135, hce135, hMe135, hcc135⟩ := Kd.S_get HO_5.out [] (ji22) p135 (by first | exact q135 | exact of_decide_eq_true (by first | (with_reducible assumption) | assumption) | (have e_ := (Kd.S_reads' HO_5.out).1; omega))
                               obtain ⟨ve135_0, rfl, ge135_0⟩ := hMe135
                               have hv135_0 := hcc135 0 _ rfl
                               rw [Nat.add_zero, show ((Kd.slice 3 (Kd.int .i64))).sz = 1 from rfl, Nat.mul_one] at hv135_0
                               replace hv135_0 := Option.some.inj (hv135_0.symm.trans hx135_0)
                               rw [hv135_0] at ge135_0
                               have HL135_0 := Aside0.mk (show Kd.R (Kd.int .i64) 3 _ _ _ _ (rd_L4 x5_2 (ji22)) from ge135_0)
                               clear hv135_0 ge135_0
                               have HX135_0 := Aside0.mk hx135_0
                               clear hcc135 hce135
                               (first | simp only [add_plain] at hx135_0 | simp only [add_at] at hx135_0 | simp only [Addr.add, Nat.zero_add] at hx135_0 | skip)
                               have HR135_0 := Aside0.mk hi135_0
                               have HC135_0 := Aside0.mk hl135_0
                               clear hi135_0 hl135_0
                               replace p135 := eq_true p135
                               replace q135 := eq_true q135
                               have p136 : 0 ≤ (x7_2 : Int) := of_decide_eq_true (by first | (with_reducible assumption) | assumption)
                               have q136 : x7_2 < ((rd_L4 x5_2 (ji22)).length : Int) := of_decide_eq_true (by first | (with_reducible assumption) | assumption)
                               obtain ⟨ad136, e136, hx136_0⟩ := Kd.at_int (by repeat (first | (with_reducible exact HR135_0.out) | (with_reducible refine Kd.C_alloc ?_ _) | (with_reducible refine Kd.C_drewN ?_ _) | (with_reducible refine Kd.C_drew ?_) | exact HR135_0.out)) x7_2 p136 q136
                               cases e136
                               replace p136 := eq_true p136
                               replace q136 := eq_true q136
                               have p137 : 0 ≤ (x6_1 : Int) := of_decide_eq_true (by first | (with_reducible assumption) | assumption)
                               have q137 : x6_1 < (x5_2.length : Int) := of_decide_eq_true (by first | (with_reducible assumption) | assumption)
                               obtain ⟨ad137, A137_0, c137_0, e137, hx137_0, hl137_0, hi137_0⟩ := at_L4 (Kd.S_reads' HO_5.out).2.2 x6_1 p137 q137
                               obtain rfl : (⟨go14, 0, none⟩ : Addr) = ad137 := (by injection e137)
                               obtain ⟨ce137, hce137, hMe137, hcc137⟩ := Kd.S_get HO_5.out [] x6_1 p137 (by first | exact q137 | exact of_decide_eq_true (by first | (with_reducible assumption) | assumption) | (have e_ := (Kd.S_reads' HO_5.out).1; omega))
                               obtain ⟨ve137_0, rfl, ge137_0⟩ := hMe137
                               have hv137_0 := hcc137 0 _ rfl
                               rw [Nat.add_zero, show ((Kd.slice 3 (Kd.int .i64))).sz = 1 from rfl, Nat.mul_one] at hv137_0
                               replace hv137_0 := Option.some.inj (hv137_0.symm.trans hx137_0)
                               rw [hv137_0] at ge137_0
                               have HL137_0 := Aside0.mk (show Kd.R (Kd.int .i64) 3 _ _ _ _ (rd_L4 x5_2 x6_1) from ge137_0)
                               clear hv137_0 ge137_0
                               have HX137_0 := Aside0.mk hx137_0
                               clear hcc137 hce137
                               (first | simp only [add_plain] at hx137_0 | simp only [add_at] at hx137_0 | simp only [Addr.add, Nat.zero_add] at hx137_0 | skip)
                               have HR137_0 := Aside0.mk hi137_0
                               have HC137_0 := Aside0.mk hl137_0
                               clear hi137_0 hl137_0
                               replace p137 := eq_true p137
                               replace q137 := eq_true q137
                               have p138 : 0 ≤ ((ji29) : Int) := of_decide_eq_true (by first | (with_reducible assumption) | assumption)
                               have q138 : (ji29) < ((rd_L4 x5_2 x6_1).length : Int) := of_decide_eq_true (by first | (with_reducible assumption) | assumption)
                               obtain ⟨ad138, e138, hx138_0⟩ := Kd.at_int (by repeat (first | (with_reducible exact HR137_0.out) | (with_reducible refine Kd.C_alloc ?_ _) | (with_reducible refine Kd.C_drewN ?_ _) | (with_reducible refine Kd.C_drew ?_) | exact HR137_0.out)) (ji29) p138 q138
                               cases e138
                               replace p138 := eq_true p138
                               replace q138 := eq_true q138
                               have p153 : 0 ≤ (x6_1 : Int) := of_decide_eq_true (by first | (with_reducible assumption) | assumption)
                               have q153 : x6_1 < (l0.length : Int) := of_decide_eq_true (by first | (with_reducible assumption) | assumption)
                               obtain ⟨ad153, e153, hx153_0⟩ := Kd.at_string HR0.out x6_1 p153 q153
                               cases e153
                               replace hx153_0 := (HB.out.cell (World.block_lt_of_cell? w _ hx153_0)).trans hx153_0
                               replace p153 := eq_true p153
                               replace q153 := eq_true q153
                               have p154 : 0 ≤ (x7_2 : Int) := of_decide_eq_true (by first | (with_reducible assumption) | assumption)
                               have q154 : x7_2 < (l1.length : Int) := of_decide_eq_true (by first | (with_reducible assumption) | assumption)
                               obtain ⟨ad154, e154, hx154_0⟩ := Kd.at_string HR1.out x7_2 p154 q154
                               cases e154
                               replace hx154_0 := (HB.out.cell (World.block_lt_of_cell? w _ hx154_0)).trans hx154_0
                               replace p154 := eq_true p154
                               replace q154 := eq_true q154
                               have p155 : 0 ≤ ((ji22) : Int) := of_decide_eq_true (by first | (with_reducible assumption) | assumption)
                               have q155 : (ji22) < (x5_2.length : Int) := of_decide_eq_true (by first | (with_reducible assumption) | assumption)
                               obtain ⟨ad155, A155_0, c155_0, e155, hx155_0, hl155_0, hi155_0⟩ := at_L4 (Kd.S_reads' HO_5.out).2.2 (ji22) p155 q155
                               obtain rfl : (⟨go14, 0, none⟩ : Addr) = ad155 := (by injection e155)
                               obtain ⟨ce155, hce155, hMe155, hcc155⟩ := Kd.S_get HO_5.out [] (ji22) p155 (by first | exact q155 | exact of_decide_eq_true (by first | (with_reducible assumption) | assumption) | (have e_ := (Kd.S_reads' HO_5.out).1; omega))
                               obtain ⟨ve155_0, rfl, ge155_0⟩ := hMe155
                               have hv155_0 := hcc155 0 _ rfl
                               rw [Nat.add_zero, show ((Kd.slice 3 (Kd.int .i64))).sz = 1 from rfl, Nat.mul_one] at hv155_0
                               replace hv155_0 := Option.some.inj (hv155_0.symm.trans hx155_0)
                               rw [hv155_0] at ge155_0
                               have HL155_0 := Aside0.mk (show Kd.R (Kd.int .i64) 3 _ _ _ _ (rd_L4 x5_2 (ji22)) from ge155_0)
                               clear hv155_0 ge155_0
                               have HX155_0 := Aside0.mk hx155_0
                               clear hcc155 hce155
                               (first | simp only [add_plain] at hx155_0 | simp only [add_at] at hx155_0 | simp only [Addr.add, Nat.zero_add] at hx155_0 | skip)
                               have HR155_0 := Aside0.mk hi155_0
                               have HC155_0 := Aside0.mk hl155_0
                               clear hi155_0 hl155_0
                               replace p155 := eq_true p155
                               replace q155 := eq_true q155
                               have ea_ := Option.some.inj (hx135_0.symm.trans hx155_0)
                               injection ea_ with ea_ en_ ec_
                               subst ea_
                               subst ec_
                               clear en_
                               have p156 : 0 ≤ ((ji29) : Int) := of_decide_eq_true (by first | (with_reducible assumption) | assumption)
                               have q156 : (ji29) < ((rd_L4 x5_2 (ji22)).length : Int) := of_decide_eq_true (by first | (with_reducible assumption) | assumption)
                               obtain ⟨ad156, e156, hx156_0⟩ := Kd.at_int (by repeat (first | (with_reducible exact HR155_0.out) | (with_reducible refine Kd.C_alloc ?_ _) | (with_reducible refine Kd.C_drewN ?_ _) | (with_reducible refine Kd.C_drew ?_) | exact HR155_0.out)) (ji29) p156 q156
                               cases e156
                               replace p156 := eq_true p156
                               replace q156 := eq_true q156
                               have p157 : 0 ≤ (x6_1 : Int) := of_decide_eq_true (by first | (with_reducible assumption) | assumption)
                               have q157 : x6_1 < (x5_2.length : Int) := of_decide_eq_true (by first | (with_reducible assumption) | assumption)
                               obtain ⟨ad157, A157_0, c157_0, e157, hx157_0, hl157_0, hi157_0⟩ := at_L4 (Kd.S_reads' HO_5.out).2.2 x6_1 p157 q157
                               obtain rfl : (⟨go14, 0, none⟩ : Addr) = ad157 := (by injection e157)
                               obtain ⟨ce157, hce157, hMe157, hcc157⟩ := Kd.S_get HO_5.out [] x6_1 p157 (by first | exact q157 | exact of_decide_eq_true (by first | (with_reducible assumption) | assumption) | (have e_ := (Kd.S_reads' HO_5.out).1; omega))
                               obtain ⟨ve157_0, rfl, ge157_0⟩ := hMe157
                               have hv157_0 := hcc157 0 _ rfl
                               rw [Nat.add_zero, show ((Kd.slice 3 (Kd.int .i64))).sz = 1 from rfl, Nat.mul_one] at hv157_0
                               replace hv157_0 := Option.some.inj (hv157_0.symm.trans hx157_0)
                               rw [hv157_0] at ge157_0
                               have HL157_0 := Aside0.mk (show Kd.R (Kd.int .i64) 3 _ _ _ _ (rd_L4 x5_2 x6_1) from ge157_0)
                               clear hv157_0 ge157_0
                               have HX157_0 := Aside0.mk hx157_0
                               clear hcc157 hce157
                               (first | simp only [add_plain] at hx157_0 | simp only [add_at] at hx157_0 | simp only [Addr.add, Nat.zero_add] at hx157_0 | skip)
                               have HR157_0 := Aside0.mk hi157_0
                               have HC157_0 := Aside0.mk hl157_0
                               clear hi157_0 hl157_0
                               replace p157 := eq_true p157
                               replace q157 := eq_true q157
                               have ea_ := Option.some.inj (hx137_0.symm.trans hx157_0)
                               injection ea_ with ea_ en_ ec_
                               subst ea_
                               subst ec_
                               clear en_
                               have p50 : 0 ≤ (x7_2 : Int) := of_decide_eq_true (by first | (with_reducible assumption) | assumption)
                               have q50 : (x7_2 : Int) < (((rd_L4 x5_2 x6_1).length : Int) : Int) := of_decide_eq_true (by first | (with_reducible assumption) | assumption)
                               obtain ⟨go50, co50, eo50, gb50, gl50, cl50, HG50⟩ := Kd.R_form HL157_0.out (by omega)
                               (first | cases eo50 | (injection eo50 with ea_ en_ ec_; (first | subst ea_ | (injection ea_ with ea_; subst ea_)); subst ec_; clear en_))
                               have GB50 := Aside0.mk gb50
                               have GG50 := Aside0.mk HG50
                               clear gb50 gl50 HG50
                               (first | simp only [add_plain] at hx138_0 | skip)
                               obtain ⟨hx50_0, hf50_0⟩ := Kd.R_celln 0 HL157_0.out (x7_2 : Int) p50 q50
                               replace p50 := eq_true p50
                               replace q50 := eq_true q50
                               have hq51 : (x6_1 : Int) < (x5_2.length : Int) := (by have h_ : (x6_1 : Int) < ((x5_2.length : Int) : Int) := of_decide_eq_true (by first | (with_reducible assumption) | assumption); first | exact h_ | (have e_ := (Kd.S_reads' HO_5.out).1; omega) | simpa only [List.length_set, List.length_set] using h_)
                               obtain ⟨oki51, ce51, hcl51, hM51, hcc51, hok51, hbk51⟩ := Kd.S_borrow HO_5.out [] (x6_1 : Int) (of_decide_eq_true (by first | (with_reducible assumption) | assumption)) hq51
                               obtain ⟨ve51_0, rfl, ge51_0⟩ := hM51
                               have hv51 := hcc51 0 _ rfl
                               rw [Nat.add_zero, show ((Kd.slice 3 (Kd.int .i64))).sz = 1 from rfl, Nat.mul_one] at hv51
                               replace hv51 := Option.some.inj (hv51.symm.trans HX157_0.out)
                               subst hv51
                               clear hcc51 hcl51
                               replace ge51_0 := (show Kd.R (Kd.int .i64) 3 _ _ _ _ (rd_L4 x5_2 x6_1) from ge51_0)
                               have HP51 := Kd.R_putg ge51_0 (x7_2 : Int) (wrap64 ((rd (rd_L4 x5_2 (ji22)) (ji29)) + 1))
                               go_wp2_with (first | ((with_reducible refine gate_store (t := 3) (p := 90) rfl ?_); (try (rw [drewN_self wc]; generalize hq_ : World.drewN wc _ = wc; (try (replace hx135_0 := cell_at hq_ hx135_0)); (try (replace hx136_0 := cell_at hq_ hx136_0)); (try (replace hx137_0 := cell_at hq_ hx137_0)); (try (replace hx138_0 := cell_at hq_ hx138_0)); (try (replace hx153_0 := cell_at hq_ hx153_0)); (try (replace hx154_0 := cell_at hq_ hx154_0)); (try (replace hx155_0 := cell_at hq_ hx155_0)); (try (replace hx156_0 := cell_at hq_ hx156_0)); (try (replace hx157_0 := cell_at hq_ hx157_0)); (try (replace hx50_0 := cell_at hq_ hx50_0)); (try (replace hf50_0 := frozen_at hq_ hf50_0)); (try (replace HX135_0 := Aside0.mk (cell_at hq_ HX135_0.out))); (try (replace HX137_0 := Aside0.mk (cell_at hq_ HX137_0.out))); (try (replace HX149_0 := Aside0.mk (cell_at hq_ HX149_0.out))); (try (replace HX155_0 := Aside0.mk (cell_at hq_ HX155_0.out))); (try (replace HX157_0 := Aside0.mk (cell_at hq_ HX157_0.out))); have n0_ := Aside0.mk (Kd.S_at hq_ HO_5.out); (try have n1_ := Aside0.mk (Kd.R_at hq_ HL167.out)); have n2_ := Aside0.mk (below_at hq_ HB.out); (try clear HL167); clear hq_ HO_5 HB; have HO_5 := n0_; (try have HL167 := n1_); have HB := n2_; (try clear n1_); clear n0_ n2_; (try (have hq51 : (x6_1 : Int) < (x5_2.length : Int) := (by have h_ : (x6_1 : Int) < ((x5_2.length : Int) : Int) := of_decide_eq_true (by first | (with_reducible assumption) | assumption); first | exact h_ | (have e_ := (Kd.S_reads' HO_5.out).1; omega) | simpa only [List.length_set, List.length_set] using h_))); (try (obtain ⟨oki51, ce51, hcl51, hM51, hcc51, hok51, hbk51⟩ := Kd.S_borrow HO_5.out [] (x6_1 : Int) (of_decide_eq_true (by first | (with_reducible assumption) | assumption)) hq51)); (try (obtain ⟨ve51_0, rfl, ge51_0⟩ := hM51)); (try (have hv51 := hcc51 0 _ rfl)); (try (rw [Nat.add_zero, show ((Kd.slice 3 (Kd.int .i64))).sz = 1 from rfl, Nat.mul_one] at hv51)); (try (replace hv51 := Option.some.inj (hv51.symm.trans HX157_0.out))); (try (subst hv51)); (try (clear hcc51 hcl51)); (try (replace ge51_0 := (show Kd.R (Kd.int .i64) 3 _ _ _ _ (rd_L4 x5_2 x6_1) from ge51_0))); (try (have HP51 := Kd.R_putg ge51_0 (x7_2 : Int) (wrap64 ((rd (rd_L4 x5_2 (ji22)) (ji29)) + 1)))))); refine store_event (t := 3) (p := 90) (v := ?vo_w52) (w1 := (wc.setCell ⟨go50, (x7_2 : Int).toNat, none⟩ (.int .i64 (wrap64 ((rd (rd_L4 x5_2 (ji22)) (ji29)) + 1))))) ?hg ?ho ?hn ?hr ?_; (case ho => rfl); (case hg => rfl); (case hn => rfl); (case hr => first | (go_simp; done) | (go_simp; rfl)); intro w52 hw; have hg : wc.grownBy w52 (some go50) := (by rw [hw]; exact HP51.2); have hz_ : Kd.R (Kd.int .i64) 3 w52 w.heap.size oki51 (.slice (some ⟨go50, 0, none⟩) (rd_L4 x5_2 x6_1).length c137_0) y158 := (by rw [hw, Ny158.out]; exact HP51.1); have hp_ : Kd.S (Kd.slice 3 (Kd.int .i64)) 35 w52 w.heap.size (fun _ => True) (.slice (some ⟨go14, 0, none⟩) x5_2.length co14) y160 := (by rw [Ny160.out]; exact hbk51 hg (fun k_ e_ => by injection e_ with e_; subst e_; exact ge51_0.1 _ rfl) (Kd.M_row hz_)); have hm_ := Kd.R_mono hz_ hok51; clear HP51 hbk51; have n0_ := Aside0.mk (hp_); have n1_ := Aside0.mk ((by rw [hw]; exact below_set (HB.out) GB50.out : Below w.heap.size w w52)); have n2_ := Aside0.mk (hm_); have n3_ := Aside0.mk ((Kd.R_reads' hm_).2.1); clear HO_5; clear HB; clear HL135_0; clear HL137_0; clear HL155_0; clear HL157_0; have HO_5 := n0_; have HB := n1_; have HL167 := n2_; have HC159 := n3_; clear n0_ n1_ n2_ n3_; clear hg hw hp_ hz_ hm_ hok51))
                               repeat (go_quiet (first | ((with_reducible refine gate_store (t := 3) (p := 90) rfl ?_); (try (rw [drewN_self wc]; generalize hq_ : World.drewN wc _ = wc; (try (replace hx135_0 := cell_at hq_ hx135_0)); (try (replace hx136_0 := cell_at hq_ hx136_0)); (try (replace hx137_0 := cell_at hq_ hx137_0)); (try (replace hx138_0 := cell_at hq_ hx138_0)); (try (replace hx153_0 := cell_at hq_ hx153_0)); (try (replace hx154_0 := cell_at hq_ hx154_0)); (try (replace hx155_0 := cell_at hq_ hx155_0)); (try (replace hx156_0 := cell_at hq_ hx156_0)); (try (replace hx157_0 := cell_at hq_ hx157_0)); (try (replace hx50_0 := cell_at hq_ hx50_0)); (try (replace hf50_0 := frozen_at hq_ hf50_0)); (try (replace HX135_0 := Aside0.mk (cell_at hq_ HX135_0.out))); (try (replace HX137_0 := Aside0.mk (cell_at hq_ HX137_0.out))); (try (replace HX149_0 := Aside0.mk (cell_at hq_ HX149_0.out))); (try (replace HX155_0 := Aside0.mk (cell_at hq_ HX155_0.out))); (try (replace HX157_0 := Aside0.mk (cell_at hq_ HX157_0.out))); have n0_ := Aside0.mk (Kd.S_at hq_ HO_5.out); (try have n1_ := Aside0.mk (Kd.R_at hq_ HL167.out)); have n2_ := Aside0.mk (below_at hq_ HB.out); (try clear HL167); clear hq_ HO_5 HB; have HO_5 := n0_; (try have HL167 := n1_); have HB := n2_; (try clear n1_); clear n0_ n2_; (try (have hq51 : (x6_1 : Int) < (x5_2.length : Int) := (by have h_ : (x6_1 : Int) < ((x5_2.length : Int) : Int) := of_decide_eq_true (by first | (with_reducible assumption) | assumption); first | exact h_ | (have e_ := (Kd.S_reads' HO_5.out).1; omega) | simpa only [List.length_set, List.length_set] using h_))); (try (obtain ⟨oki51, ce51, hcl51, hM51, hcc51, hok51, hbk51⟩ := Kd.S_borrow HO_5.out [] (x6_1 : Int) (of_decide_eq_true (by first | (with_reducible assumption) | assumption)) hq51)); (try (obtain ⟨ve51_0, rfl, ge51_0⟩ := hM51)); (try (have hv51 := hcc51 0 _ rfl)); (try (rw [Nat.add_zero, show ((Kd.slice 3 (Kd.int .i64))).sz = 1 from rfl, Nat.mul_one] at hv51)); (try (replace hv51 := Option.some.inj (hv51.symm.trans HX157_0.out))); (try (subst hv51)); (try (clear hcc51 hcl51)); (try (replace ge51_0 := (show Kd.R (Kd.int .i64) 3 _ _ _ _ (rd_L4 x5_2 x6_1) from ge51_0))); (try (have HP51 := Kd.R_putg ge51_0 (x7_2 : Int) (wrap64 ((rd (rd_L4 x5_2 (ji22)) (ji29)) + 1)))))); refine store_event (t := 3) (p := 90) (v := ?vo_w52) (w1 := (wc.setCell ⟨go50, (x7_2 : Int).toNat, none⟩ (.int .i64 (wrap64 ((rd (rd_L4 x5_2 (ji22)) (ji29)) + 1))))) ?hg ?ho ?hn ?hr ?_; (case ho => rfl); (case hg => rfl); (case hn => rfl); (case hr => first | (go_simp; done) | (go_simp; rfl)); intro w52 hw; have hg : wc.grownBy w52 (some go50) := (by rw [hw]; exact HP51.2); have hz_ : Kd.R (Kd.int .i64) 3 w52 w.heap.size oki51 (.slice (some ⟨go50, 0, none⟩) (rd_L4 x5_2 x6_1).length c137_0) y158 := (by rw [hw, Ny158.out]; exact HP51.1); have hp_ : Kd.S (Kd.slice 3 (Kd.int .i64)) 35 w52 w.heap.size (fun _ => True) (.slice (some ⟨go14, 0, none⟩) x5_2.length co14) y160 := (by rw [Ny160.out]; exact hbk51 hg (fun k_ e_ => by injection e_ with e_; subst e_; exact ge51_0.1 _ rfl) (Kd.M_row hz_)); have hm_ := Kd.R_mono hz_ hok51; clear HP51 hbk51; have n0_ := Aside0.mk (hp_); have n1_ := Aside0.mk ((by rw [hw]; exact below_set (HB.out) GB50.out : Below w.heap.size w w52)); have n2_ := Aside0.mk (hm_); have n3_ := Aside0.mk ((Kd.R_reads' hm_).2.1); clear HO_5; clear HB; clear HL135_0; clear HL137_0; clear HL155_0; clear HL157_0; have HO_5 := n0_; have HB := n1_; have HL167 := n2_; have HC159 := n3_; clear n0_ n1_ n2_ n3_; clear hg hw hp_ hz_ hm_ hok51)); try go_wp2_with (first | ((with_reducible refine gate_store (t := 3) (p := 90) rfl ?_); (try (rw [drewN_self wc]; generalize hq_ : World.drewN wc _ = wc; (try (replace hx135_0 := cell_at hq_ hx135_0)); (try (replace hx136_0 := cell_at hq_ hx136_0)); (try (replace hx137_0 := cell_at hq_ hx137_0)); (try (replace hx138_0 := cell_at hq_ hx138_0)); (try (replace hx153_0 := cell_at hq_ hx153_0)); (try (replace hx154_0 := cell_at hq_ hx154_0)); (try (replace hx155_0 := cell_at hq_ hx155_0)); (try (replace hx156_0 := cell_at hq_ hx156_0)); (try (replace hx157_0 := cell_at hq_ hx157_0)); (try (replace hx50_0 := cell_at hq_ hx50_0)); (try (replace hf50_0 := frozen_at hq_ hf50_0)); (try (replace HX135_0 := Aside0.mk (cell_at hq_ HX135_0.out))); (try (replace HX137_0 := Aside0.mk (cell_at hq_ HX137_0.out))); (try (replace HX155_0 := Aside0.mk (cell_at hq_ HX155_0.out))); (try (replace HX157_0 := Aside0.mk (cell_at hq_ HX157_0.out))); have n0_ := Aside0.mk (Kd.S_at hq_ HO_5.out); (try have n1_ := Aside0.mk (Kd.R_at hq_ HL167.out)); have n2_ := Aside0.mk (below_at hq_ HB.out); (try clear HL167); clear hq_ HO_5 HB; have HO_5 := n0_; (try have HL167 := n1_); have HB := n2_; (try clear n1_); clear n0_ n2_; (try (have hq51 : (x6_1 : Int) < (x5_2.length : Int) := (by have h_ : (x6_1 : Int) < ((x5_2.length : Int) : Int) := of_decide_eq_true (by first | (with_reducible assumption) | assumption); first | exact h_ | (have e_ := (Kd.S_reads' HO_5.out).1; omega) | simpa only [List.length_set, List.length_set] using h_))); (try (obtain ⟨oki51, ce51, hcl51, hM51, hcc51, hok51, hbk51⟩ := Kd.S_borrow HO_5.out [] (x6_1 : Int) (of_decide_eq_true (by first | (with_reducible assumption) | assumption)) hq51)); (try (obtain ⟨ve51_0, rfl, ge51_0⟩ := hM51)); (try (have hv51 := hcc51 0 _ rfl)); (try (rw [Nat.add_zero, show ((Kd.slice 3 (Kd.int .i64))).sz = 1 from rfl, Nat.mul_one] at hv51)); (try (replace hv51 := Option.some.inj (hv51.symm.trans HX157_0.out))); (try (subst hv51)); (try (clear hcc51 hcl51)); (try (replace ge51_0 := (show Kd.R (Kd.int .i64) 3 _ _ _ _ (rd_L4 x5_2 x6_1) from ge51_0))); (try (have HP51 := Kd.R_putg ge51_0 (x7_2 : Int) (wrap64 ((rd (rd_L4 x5_2 (ji22)) (ji29)) + 1)))))); refine store_event (t := 3) (p := 90) (v := ?vo_w52) (w1 := (wc.setCell ⟨go50, (x7_2 : Int).toNat, none⟩ (.int .i64 (wrap64 ((rd (rd_L4 x5_2 (ji22)) (ji29)) + 1))))) ?hg ?ho ?hn ?hr ?_; (case ho => rfl); (case hg => rfl); (case hn => rfl); (case hr => first | (go_simp; done) | (go_simp; rfl)); intro w52 hw; have hg : wc.grownBy w52 (some go50) := (by rw [hw]; exact HP51.2); have hz_ : Kd.R (Kd.int .i64) 3 w52 w.heap.size oki51 (.slice (some ⟨go50, 0, none⟩) (rd_L4 x5_2 x6_1).length c137_0) y158 := (by rw [hw, Ny158.out]; exact HP51.1); have hp_ : Kd.S (Kd.slice 3 (Kd.int .i64)) 35 w52 w.heap.size (fun _ => True) (.slice (some ⟨go14, 0, none⟩) x5_2.length co14) y160 := (by rw [Ny160.out]; exact hbk51 hg (fun k_ e_ => by injection e_ with e_; subst e_; exact ge51_0.1 _ rfl) (Kd.M_row hz_)); have hm_ := Kd.R_mono hz_ hok51; clear HP51 hbk51; have n0_ := Aside0.mk (hp_); have n1_ := Aside0.mk ((by rw [hw]; exact below_set (HB.out) GB50.out : Below w.heap.size w w52)); have n2_ := Aside0.mk (hm_); have n3_ := Aside0.mk ((Kd.R_reads' hm_).2.1); clear HO_5; clear HB; clear HL135_0; clear HL137_0; clear HL155_0; clear HL157_0; have HO_5 := n0_; have HB := n1_; have HL167 := n2_; have HC159 := n3_; clear n0_ n1_ n2_ n3_; clear hg hw hp_ hz_ hm_ hok51)))
                               (try simp only [← hl5_2])
                               go_roundg kj18
                               case measure => have := HK1.out; have := HK2.out; have := HJ18.out; omega
                               case rel => exact ⟨(y160), (wrap64 (x7_2 - 1)), (by first | rfl | (simp; done) | (simp [*]; done)), H', ⟨by have := HK1.out; have := HK2.out; have := HJ18.out; omega⟩, ⟨by (try simp only [hl5_2]); (with_reducible repeat (first | apply Kd.S_alloc | apply Kd.S_drewN | apply Kd.S_drew)); exact HO_5.out⟩, ⟨by repeat (first | (with_reducible first | exact HB.out | apply below_alloc | apply pw_below_drewN | apply below_drew1) | exact HB.out)⟩⟩
                              ·rw [if_neg c49] at H
                               exact absurd H (by simp)
                             ·rw [if_neg c48] at H
                              exact absurd H (by simp)
                            ·rw [if_neg c47] at H
                             have c47b0 : ((rdOf ByteArray.empty l0 x6_1).toList == (rdOf ByteArray.empty l1 x7_2).toList) = false := beq_eq_false_iff_ne.mpr c47
                             have c47b1 : ((rdOf ByteArray.empty l0 x6_1).toList != (rdOf ByteArray.empty l1 x7_2).toList) = true := bne_iff_ne.mpr c47
                             by_cases c53 : x7_2 < ((rd_L4 x5_2 x6_1).length : Int)
                             ·rw [if_pos c53] at H
                              have c53b0 : decide (x7_2 < ((rd_L4 x5_2 x6_1).length : Int)) = true := decide_eq_true c53
                              clear c53
                              obtain ⟨y162, hy162⟩ : ∃ y_ : List Int, y_ = ((rd_L4 x5_2 x6_1).set (x7_2 : Int).toNat (rd (rd_L4 x5_2 (ji22)) x7_2)) := ⟨_, rfl⟩
                              replace H : (spec_l04Table.l1 kj18 l0 l1 (x5_2.set (x6_1 : Int).toNat y162) x6_1 (wrap64 (x7_2 - 1))) = some r := by first | (rw [hy162]; with_reducible exact H) | (have H2_ := (Option.bind_some _ _).symm.trans H; rw [hy162]; with_reducible exact H2_) | (have H2_ := (Option.bind_some _ _).symm.trans H; with_reducible exact H2_) | with_reducible exact H | (rw [hy162]; exact H) | exact H
                              have Ny162 := Aside0.mk hy162
                              clear hy162
                              obtain ⟨y164, hy164⟩ : ∃ y_ : List (List Int), y_ = (x5_2.set (x6_1 : Int).toNat y162) := ⟨_, rfl⟩
                              replace H : (spec_l04Table.l1 kj18 l0 l1 y164 x6_1 (wrap64 (x7_2 - 1))) = some r := by first | (rw [hy164]; with_reducible exact H) | (have H2_ := (Option.bind_some _ _).symm.trans H; rw [hy164]; with_reducible exact H2_) | (have H2_ := (Option.bind_some _ _).symm.trans H; with_reducible exact H2_) | with_reducible exact H | (rw [hy164]; exact H) | exact H
                              have Ny164 := Aside0.mk hy164
                              clear hy164
                              have H' := Aside0.mk H
                              clear H
                              have p135 : 0 ≤ ((ji22) : Int) := of_decide_eq_true (by first | (with_reducible assumption) | assumption)
                              have q135 : (ji22) < (x5_2.length : Int) := of_decide_eq_true (by first | (with_reducible assumption) | assumption)
                              obtain ⟨ad135, A135_0, c135_0, e135, hx135_0, hl135_0, hi135_0⟩ := at_L4 (Kd.S_reads' HO_5.out).2.2 (ji22) p135 q135
                              obtain rfl : (⟨go14, 0, none⟩ : Addr) = ad135 := (by injection e135)
                              obtain ⟨ce135, hce135, hMe135, hcc135⟩ := Kd.S_get HO_5.out [] (ji22) p135 (by first | exact q135 | exact of_decide_eq_true (by first | (with_reducible assumption) | assumption) | (have e_ := (Kd.S_reads' HO_5.out).1; omega))
                              obtain ⟨ve135_0, rfl, ge135_0⟩ := hMe135
                              have hv135_0 := hcc135 0 _ rfl
                              rw [Nat.add_zero, show ((Kd.slice 3 (Kd.int .i64))).sz = 1 from rfl, Nat.mul_one] at hv135_0
                              replace hv135_0 := Option.some.inj (hv135_0.symm.trans hx135_0)
                              rw [hv135_0] at ge135_0
                              have HL135_0 := Aside0.mk (show Kd.R (Kd.int .i64) 3 _ _ _ _ (rd_L4 x5_2 (ji22)) from ge135_0)
                              clear hv135_0 ge135_0
                              have HX135_0 := Aside0.mk hx135_0
                              clear hcc135 hce135
                              (first | simp only [add_plain] at hx135_0 | simp only [add_at] at hx135_0 | simp only [Addr.add, Nat.zero_add] at hx135_0 | skip)
                              have HR135_0 := Aside0.mk hi135_0
                              have HC135_0 := Aside0.mk hl135_0
                              clear hi135_0 hl135_0
                              replace p135 := eq_true p135
                              replace q135 := eq_true q135
                              have p136 : 0 ≤ (x7_2 : Int) := of_decide_eq_true (by first | (with_reducible assumption) | assumption)
                              have q136 : x7_2 < ((rd_L4 x5_2 (ji22)).length : Int) := of_decide_eq_true (by first | (with_reducible assumption) | assumption)
                              obtain ⟨ad136, e136, hx136_0⟩ := Kd.at_int (by repeat (first | (with_reducible exact HR135_0.out) | (with_reducible refine Kd.C_alloc ?_ _) | (with_reducible refine Kd.C_drewN ?_ _) | (with_reducible refine Kd.C_drew ?_) | exact HR135_0.out)) x7_2 p136 q136
                              cases e136
                              replace p136 := eq_true p136
                              replace q136 := eq_true q136
                              have p137 : 0 ≤ (x6_1 : Int) := of_decide_eq_true (by first | (with_reducible assumption) | assumption)
                              have q137 : x6_1 < (x5_2.length : Int) := of_decide_eq_true (by first | (with_reducible assumption) | assumption)
                              obtain ⟨ad137, A137_0, c137_0, e137, hx137_0, hl137_0, hi137_0⟩ := at_L4 (Kd.S_reads' HO_5.out).2.2 x6_1 p137 q137
                              obtain rfl : (⟨go14, 0, none⟩ : Addr) = ad137 := (by injection e137)
                              obtain ⟨ce137, hce137, hMe137, hcc137⟩ := Kd.S_get HO_5.out [] x6_1 p137 (by first | exact q137 | exact of_decide_eq_true (by first | (with_reducible assumption) | assumption) | (have e_ := (Kd.S_reads' HO_5.out).1; omega))
                              obtain ⟨ve137_0, rfl, ge137_0⟩ := hMe137
                              have hv137_0 := hcc137 0 _ rfl
                              rw [Nat.add_zero, show ((Kd.slice 3 (Kd.int .i64))).sz = 1 from rfl, Nat.mul_one] at hv137_0
                              replace hv137_0 := Option.some.inj (hv137_0.symm.trans hx137_0)
                              rw [hv137_0] at ge137_0
                              have HL137_0 := Aside0.mk (show Kd.R (Kd.int .i64) 3 _ _ _ _ (rd_L4 x5_2 x6_1) from ge137_0)
                              clear hv137_0 ge137_0
                              have HX137_0 := Aside0.mk hx137_0
                              clear hcc137 hce137
                              (first | simp only [add_plain] at hx137_0 | simp only [add_at] at hx137_0 | simp only [Addr.add, Nat.zero_add] at hx137_0 | skip)
                              have HR137_0 := Aside0.mk hi137_0
                              have HC137_0 := Aside0.mk hl137_0
                              clear hi137_0 hl137_0
                              replace p137 := eq_true p137
                              replace q137 := eq_true q137
                              have p138 : 0 ≤ ((ji29) : Int) := of_decide_eq_true (by first | (with_reducible assumption) | assumption)
                              have q138 : (ji29) < ((rd_L4 x5_2 x6_1).length : Int) := of_decide_eq_true (by first | (with_reducible assumption) | assumption)
                              obtain ⟨ad138, e138, hx138_0⟩ := Kd.at_int (by repeat (first | (with_reducible exact HR137_0.out) | (with_reducible refine Kd.C_alloc ?_ _) | (with_reducible refine Kd.C_drewN ?_ _) | (with_reducible refine Kd.C_drew ?_) | exact HR137_0.out)) (ji29) p138 q138
                              cases e138
                              replace p138 := eq_true p138
                              replace q138 := eq_true q138
                              have p153 : 0 ≤ (x6_1 : Int) := of_decide_eq_true (by first | (with_reducible assumption) | assumption)
                              have q153 : x6_1 < (l0.length : Int) := of_decide_eq_true (by first | (with_reducible assumption) | assumption)
                              obtain ⟨ad153, e153, hx153_0⟩ := Kd.at_string HR0.out x6_1 p153 q153
                              cases e153
                              replace hx153_0 := (HB.out.cell (World.block_lt_of_cell? w _ hx153_0)).trans hx153_0
                              replace p153 := eq_true p153
                              replace q153 := eq_true q153
                              have p154 : 0 ≤ (x7_2 : Int) := of_decide_eq_true (by first | (with_reducible assumption) | assumption)
                              have q154 : x7_2 < (l1.length : Int) := of_decide_eq_true (by first | (with_reducible assumption) | assumption)
                              obtain ⟨ad154, e154, hx154_0⟩ := Kd.at_string HR1.out x7_2 p154 q154
                              cases e154
                              replace hx154_0 := (HB.out.cell (World.block_lt_of_cell? w _ hx154_0)).trans hx154_0
                              replace p154 := eq_true p154
                              replace q154 := eq_true q154
                              have p161 : 0 ≤ (x6_1 : Int) := of_decide_eq_true (by first | (with_reducible assumption) | assumption)
                              have q161 : x6_1 < (x5_2.length : Int) := of_decide_eq_true (by first | (with_reducible assumption) | assumption)
                              obtain ⟨ad161, A161_0, c161_0, e161, hx161_0, hl161_0, hi161_0⟩ := at_L4 (Kd.S_reads' HO_5.out).2.2 x6_1 p161 q161
                              obtain rfl : (⟨go14, 0, none⟩ : Addr) = ad161 := (by injection e161)
                              obtain ⟨ce161, hce161, hMe161, hcc161⟩ := Kd.S_get HO_5.out [] x6_1 p161 (by first | exact q161 | exact of_decide_eq_true (by first | (with_reducible assumption) | assumption) | (have e_ := (Kd.S_reads' HO_5.out).1; omega))
                              obtain ⟨ve161_0, rfl, ge161_0⟩ := hMe161
                              have hv161_0 := hcc161 0 _ rfl
                              rw [Nat.add_zero, show ((Kd.slice 3 (Kd.int .i64))).sz = 1 from rfl, Nat.mul_one] at hv161_0
                              replace hv161_0 := Option.some.inj (hv161_0.symm.trans hx161_0)
                              rw [hv161_0] at ge161_0
                              have HL161_0 := Aside0.mk (show Kd.R (Kd.int .i64) 3 _ _ _ _ (rd_L4 x5_2 x6_1) from ge161_0)
                              clear hv161_0 ge161_0
                              have HX161_0 := Aside0.mk hx161_0
                              clear hcc161 hce161
                              (first | simp only [add_plain] at hx161_0 | simp only [add_at] at hx161_0 | simp only [Addr.add, Nat.zero_add] at hx161_0 | skip)
                              have HR161_0 := Aside0.mk hi161_0
                              have HC161_0 := Aside0.mk hl161_0
                              clear hi161_0 hl161_0
                              replace p161 := eq_true p161
                              replace q161 := eq_true q161
                              have ea_ := Option.some.inj (hx137_0.symm.trans hx161_0)
                              injection ea_ with ea_ en_ ec_
                              subst ea_
                              subst ec_
                              clear en_
                              have p54 : 0 ≤ (x7_2 : Int) := of_decide_eq_true (by first | (with_reducible assumption) | assumption)
                              have q54 : (x7_2 : Int) < (((rd_L4 x5_2 x6_1).length : Int) : Int) := of_decide_eq_true (by first | (with_reducible assumption) | assumption)
                              obtain ⟨go54, co54, eo54, gb54, gl54, cl54, HG54⟩ := Kd.R_form HL161_0.out (by omega)
                              (first | cases eo54 | (injection eo54 with ea_ en_ ec_; (first | subst ea_ | (injection ea_ with ea_; subst ea_)); subst ec_; clear en_))
                              have GB54 := Aside0.mk gb54
                              have GG54 := Aside0.mk HG54
                              clear gb54 gl54 HG54
                              (first | simp only [add_plain] at hx138_0 | skip)
                              obtain ⟨hx54_0, hf54_0⟩ := Kd.R_celln 0 HL161_0.out (x7_2 : Int) p54 q54
                              replace p54 := eq_true p54
                              replace q54 := eq_true q54
                              have hq55 : (x6_1 : Int) < (x5_2.length : Int) := (by have h_ : (x6_1 : Int) < ((x5_2.length : Int) : Int) := of_decide_eq_true (by first | (with_reducible assumption) | assumption); first | exact h_ | (have e_ := (Kd.S_reads' HO_5.out).1; omega) | simpa only [List.length_set, List.length_set] using h_)
                              obtain ⟨oki55, ce55, hcl55, hM55, hcc55, hok55, hbk55⟩ := Kd.S_borrow HO_5.out [] (x6_1 : Int) (of_decide_eq_true (by first | (with_reducible assumption) | assumption)) hq55
                              obtain ⟨ve55_0, rfl, ge55_0⟩ := hM55
                              have hv55 := hcc55 0 _ rfl
                              rw [Nat.add_zero, show ((Kd.slice 3 (Kd.int .i64))).sz = 1 from rfl, Nat.mul_one] at hv55
                              replace hv55 := Option.some.inj (hv55.symm.trans HX161_0.out)
                              subst hv55
                              clear hcc55 hcl55
                              replace ge55_0 := (show Kd.R (Kd.int .i64) 3 _ _ _ _ (rd_L4 x5_2 x6_1) from ge55_0)
                              have HP55 := Kd.R_putg ge55_0 (x7_2 : Int) (rd (rd_L4 x5_2 (ji22)) x7_2)
                              go_wp2_with (first | ((with_reducible refine gate_store (t := 3) (p := 90) rfl ?_); (try (rw [drewN_self wc]; generalize hq_ : World.drewN wc _ = wc; (try (replace hx135_0 := cell_at hq_ hx135_0)); (try (replace hx136_0 := cell_at hq_ hx136_0)); (try (replace hx137_0 := cell_at hq_ hx137_0)); (try (replace hx138_0 := cell_at hq_ hx138_0)); (try (replace hx153_0 := cell_at hq_ hx153_0)); (try (replace hx154_0 := cell_at hq_ hx154_0)); (try (replace hx157_0 := cell_at hq_ hx157_0)); (try (replace hx161_0 := cell_at hq_ hx161_0)); (try (replace hx50_0 := cell_at hq_ hx50_0)); (try (replace hx54_0 := cell_at hq_ hx54_0)); (try (replace hf50_0 := frozen_at hq_ hf50_0)); (try (replace hf54_0 := frozen_at hq_ hf54_0)); (try (replace HX135_0 := Aside0.mk (cell_at hq_ HX135_0.out))); (try (replace HX137_0 := Aside0.mk (cell_at hq_ HX137_0.out))); (try (replace HX157_0 := Aside0.mk (cell_at hq_ HX157_0.out))); (try (replace HX161_0 := Aside0.mk (cell_at hq_ HX161_0.out))); have n0_ := Aside0.mk (Kd.S_at hq_ HO_5.out); (try have n1_ := Aside0.mk (Kd.R_at hq_ HL168.out)); have n2_ := Aside0.mk (below_at hq_ HB.out); (try clear HL168); clear hq_ HO_5 HB; have HO_5 := n0_; (try have HL168 := n1_); have HB := n2_; (try clear n1_); clear n0_ n2_; (try (have hq55 : (x6_1 : Int) < (x5_2.length : Int) := (by have h_ : (x6_1 : Int) < ((x5_2.length : Int) : Int) := of_decide_eq_true (by first | (with_reducible assumption) | assumption); first | exact h_ | (have e_ := (Kd.S_reads' HO_5.out).1; omega) | simpa only [List.length_set, List.length_set] using h_))); (try (obtain ⟨oki55, ce55, hcl55, hM55, hcc55, hok55, hbk55⟩ := Kd.S_borrow HO_5.out [] (x6_1 : Int) (of_decide_eq_true (by first | (with_reducible assumption) | assumption)) hq55)); (try (obtain ⟨ve55_0, rfl, ge55_0⟩ := hM55)); (try (have hv55 := hcc55 0 _ rfl)); (try (rw [Nat.add_zero, show ((Kd.slice 3 (Kd.int .i64))).sz = 1 from rfl, Nat.mul_one] at hv55)); (try (replace hv55 := Option.some.inj (hv55.symm.trans HX161_0.out))); (try (subst hv55)); (try (clear hcc55 hcl55)); (try (replace ge55_0 := (show Kd.R (Kd.int .i64) 3 _ _ _ _ (rd_L4 x5_2 x6_1) from ge55_0))); (try (have HP55 := Kd.R_putg ge55_0 (x7_2 : Int) (rd (rd_L4 x5_2 (ji22)) x7_2))))); refine store_event (t := 3) (p := 90) (v := ?vo_w56) (w1 := (wc.setCell ⟨go54, (x7_2 : Int).toNat, none⟩ (.int .i64 (rd (rd_L4 x5_2 (ji22)) x7_2)))) ?hg ?ho ?hn ?hr ?_; (case ho => rfl); (case hg => rfl); (case hn => rfl); (case hr => first | (go_simp; done) | (go_simp; rfl)); intro w56 hw; have hg : wc.grownBy w56 (some go54) := (by rw [hw]; exact HP55.2); have hz_ : Kd.R (Kd.int .i64) 3 w56 w.heap.size oki55 (.slice (some ⟨go54, 0, none⟩) (rd_L4 x5_2 x6_1).length c137_0) y162 := (by rw [hw, Ny162.out]; exact HP55.1); have hp_ : Kd.S (Kd.slice 3 (Kd.int .i64)) 35 w56 w.heap.size (fun _ => True) (.slice (some ⟨go14, 0, none⟩) x5_2.length co14) y164 := (by rw [Ny164.out]; exact hbk55 hg (fun k_ e_ => by injection e_ with e_; subst e_; exact ge55_0.1 _ rfl) (Kd.M_row hz_)); have hm_ := Kd.R_mono hz_ hok55; clear HP55 hbk55; have n0_ := Aside0.mk (hp_); have n1_ := Aside0.mk ((by rw [hw]; exact below_set (HB.out) GB54.out : Below w.heap.size w w56)); have n2_ := Aside0.mk (hm_); have n3_ := Aside0.mk ((Kd.R_reads' hm_).2.1); clear HO_5; clear HB; clear HL135_0; clear HL137_0; clear HL161_0; have HO_5 := n0_; have HB := n1_; have HL168 := n2_; have HC163 := n3_; clear n0_ n1_ n2_ n3_; clear hg hw hp_ hz_ hm_ hok55))
                              repeat (go_quiet (first | ((with_reducible refine gate_store (t := 3) (p := 90) rfl ?_); (try (rw [drewN_self wc]; generalize hq_ : World.drewN wc _ = wc; (try (replace hx135_0 := cell_at hq_ hx135_0)); (try (replace hx136_0 := cell_at hq_ hx136_0)); (try (replace hx137_0 := cell_at hq_ hx137_0)); (try (replace hx138_0 := cell_at hq_ hx138_0)); (try (replace hx153_0 := cell_at hq_ hx153_0)); (try (replace hx154_0 := cell_at hq_ hx154_0)); (try (replace hx161_0 := cell_at hq_ hx161_0)); (try (replace hx54_0 := cell_at hq_ hx54_0)); (try (replace hf54_0 := frozen_at hq_ hf54_0)); (try (replace HX135_0 := Aside0.mk (cell_at hq_ HX135_0.out))); (try (replace HX137_0 := Aside0.mk (cell_at hq_ HX137_0.out))); (try (replace HX157_0 := Aside0.mk (cell_at hq_ HX157_0.out))); (try (replace HX161_0 := Aside0.mk (cell_at hq_ HX161_0.out))); have n0_ := Aside0.mk (Kd.S_at hq_ HO_5.out); (try have n1_ := Aside0.mk (Kd.R_at hq_ HL168.out)); have n2_ := Aside0.mk (below_at hq_ HB.out); (try clear HL168); clear hq_ HO_5 HB; have HO_5 := n0_; (try have HL168 := n1_); have HB := n2_; (try clear n1_); clear n0_ n2_; (try (have hq55 : (x6_1 : Int) < (x5_2.length : Int) := (by have h_ : (x6_1 : Int) < ((x5_2.length : Int) : Int) := of_decide_eq_true (by first | (with_reducible assumption) | assumption); first | exact h_ | (have e_ := (Kd.S_reads' HO_5.out).1; omega) | simpa only [List.length_set, List.length_set] using h_))); (try (obtain ⟨oki55, ce55, hcl55, hM55, hcc55, hok55, hbk55⟩ := Kd.S_borrow HO_5.out [] (x6_1 : Int) (of_decide_eq_true (by first | (with_reducible assumption) | assumption)) hq55)); (try (obtain ⟨ve55_0, rfl, ge55_0⟩ := hM55)); (try (have hv55 := hcc55 0 _ rfl)); (try (rw [Nat.add_zero, show ((Kd.slice 3 (Kd.int .i64))).sz = 1 from rfl, Nat.mul_one] at hv55)); (try (replace hv55 := Option.some.inj (hv55.symm.trans HX161_0.out))); (try (subst hv55)); (try (clear hcc55 hcl55)); (try (replace ge55_0 := (show Kd.R (Kd.int .i64) 3 _ _ _ _ (rd_L4 x5_2 x6_1) from ge55_0))); (try (have HP55 := Kd.R_putg ge55_0 (x7_2 : Int) (rd (rd_L4 x5_2 (ji22)) x7_2))))); refine store_event (t := 3) (p := 90) (v := ?vo_w56) (w1 := (wc.setCell ⟨go54, (x7_2 : Int).toNat, none⟩ (.int .i64 (rd (rd_L4 x5_2 (ji22)) x7_2)))) ?hg ?ho ?hn ?hr ?_; (case ho => rfl); (case hg => rfl); (case hn => rfl); (case hr => first | (go_simp; done) | (go_simp; rfl)); intro w56 hw; have hg : wc.grownBy w56 (some go54) := (by rw [hw]; exact HP55.2); have hz_ : Kd.R (Kd.int .i64) 3 w56 w.heap.size oki55 (.slice (some ⟨go54, 0, none⟩) (rd_L4 x5_2 x6_1).length c137_0) y162 := (by rw [hw, Ny162.out]; exact HP55.1); have hp_ : Kd.S (Kd.slice 3 (Kd.int .i64)) 35 w56 w.heap.size (fun _ => True) (.slice (some ⟨go14, 0, none⟩) x5_2.length co14) y164 := (by rw [Ny164.out]; exact hbk55 hg (fun k_ e_ => by injection e_ with e_; subst e_; exact ge55_0.1 _ rfl) (Kd.M_row hz_)); have hm_ := Kd.R_mono hz_ hok55; clear HP55 hbk55; have n0_ := Aside0.mk (hp_); have n1_ := Aside0.mk ((by rw [hw]; exact below_set (HB.out) GB54.out : Below w.heap.size w w56)); have n2_ := Aside0.mk (hm_); have n3_ := Aside0.mk ((Kd.R_reads' hm_).2.1); clear HO_5; clear HB; clear HL135_0; clear HL137_0; clear HL161_0; have HO_5 := n0_; have HB := n1_; have HL168 := n2_; have HC163 := n3_; clear n0_ n1_ n2_ n3_; clear hg hw hp_ hz_ hm_ hok55)); try go_wp2_with (first | ((with_reducible refine gate_store (t := 3) (p := 90) rfl ?_); (try (rw [drewN_self wc]; generalize hq_ : World.drewN wc _ = wc; (try (replace hx135_0 := cell_at hq_ hx135_0)); (try (replace hx136_0 := cell_at hq_ hx136_0)); (try (replace hx137_0 := cell_at hq_ hx137_0)); (try (replace hx138_0 := cell_at hq_ hx138_0)); (try (replace hx153_0 := cell_at hq_ hx153_0)); (try (replace hx154_0 := cell_at hq_ hx154_0)); (try (replace hx161_0 := cell_at hq_ hx161_0)); (try (replace hx54_0 := cell_at hq_ hx54_0)); (try (replace hf54_0 := frozen_at hq_ hf54_0)); (try (replace HX135_0 := Aside0.mk (cell_at hq_ HX135_0.out))); (try (replace HX137_0 := Aside0.mk (cell_at hq_ HX137_0.out))); (try (replace HX157_0 := Aside0.mk (cell_at hq_ HX157_0.out))); (try (replace HX161_0 := Aside0.mk (cell_at hq_ HX161_0.out))); have n0_ := Aside0.mk (Kd.S_at hq_ HO_5.out); (try have n1_ := Aside0.mk (Kd.R_at hq_ HL168.out)); have n2_ := Aside0.mk (below_at hq_ HB.out); (try clear HL168); clear hq_ HO_5 HB; have HO_5 := n0_; (try have HL168 := n1_); have HB := n2_; (try clear n1_); clear n0_ n2_; (try (have hq55 : (x6_1 : Int) < (x5_2.length : Int) := (by have h_ : (x6_1 : Int) < ((x5_2.length : Int) : Int) := of_decide_eq_true (by first | (with_reducible assumption) | assumption); first | exact h_ | (have e_ := (Kd.S_reads' HO_5.out).1; omega) | simpa only [List.length_set, List.length_set] using h_))); (try (obtain ⟨oki55, ce55, hcl55, hM55, hcc55, hok55, hbk55⟩ := Kd.S_borrow HO_5.out [] (x6_1 : Int) (of_decide_eq_true (by first | (with_reducible assumption) | assumption)) hq55)); (try (obtain ⟨ve55_0, rfl, ge55_0⟩ := hM55)); (try (have hv55 := hcc55 0 _ rfl)); (try (rw [Nat.add_zero, show ((Kd.slice 3 (Kd.int .i64))).sz = 1 from rfl, Nat.mul_one] at hv55)); (try (replace hv55 := Option.some.inj (hv55.symm.trans HX161_0.out))); (try (subst hv55)); (try (clear hcc55 hcl55)); (try (replace ge55_0 := (show Kd.R (Kd.int .i64) 3 _ _ _ _ (rd_L4 x5_2 x6_1) from ge55_0))); (try (have HP55 := Kd.R_putg ge55_0 (x7_2 : Int) (rd (rd_L4 x5_2 (ji22)) x7_2))))); refine store_event (t := 3) (p := 90) (v := ?vo_w56) (w1 := (wc.setCell ⟨go54, (x7_2 : Int).toNat, none⟩ (.int .i64 (rd (rd_L4 x5_2 (ji22)) x7_2)))) ?hg ?ho ?hn ?hr ?_; (case ho => rfl); (case hg => rfl); (case hn => rfl); (case hr => first | (go_simp; done) | (go_simp; rfl)); intro w56 hw; have hg : wc.grownBy w56 (some go54) := (by rw [hw]; exact HP55.2); have hz_ : Kd.R (Kd.int .i64) 3 w56 w.heap.size oki55 (.slice (some ⟨go54, 0, none⟩) (rd_L4 x5_2 x6_1).length c137_0) y162 := (by rw [hw, Ny162.out]; exact HP55.1); have hp_ : Kd.S (Kd.slice 3 (Kd.int .i64)) 35 w56 w.heap.size (fun _ => True) (.slice (some ⟨go14, 0, none⟩) x5_2.length co14) y164 := (by rw [Ny164.out]; exact hbk55 hg (fun k_ e_ => by injection e_ with e_; subst e_; exact ge55_0.1 _ rfl) (Kd.M_row hz_)); have hm_ := Kd.R_mono hz_ hok55; clear HP55 hbk55; have n0_ := Aside0.mk (hp_); have n1_ := Aside0.mk ((by rw [hw]; exact below_set (HB.out) GB54.out : Below w.heap.size w w56)); have n2_ := Aside0.mk (hm_); have n3_ := Aside0.mk ((Kd.R_reads' hm_).2.1); clear HO_5; clear HB; clear HL135_0; clear HL137_0; clear HL161_0; have HO_5 := n0_; have HB := n1_; have HL168 := n2_; have HC163 := n3_; clear n0_ n1_ n2_ n3_; clear hg hw hp_ hz_ hm_ hok55)))
                              (try simp only [← hl5_2])
                              go_roundg kj18
                              case measure => have := HK1.out; have := HK2.out; have := HJ18.out; omega
                              case rel => exact ⟨(y164), (wrap64 (x7_2 - 1)), (by first | rfl | (simp; done) | (simp [*]; done)), H', ⟨by have := HK1.out; have := HK2.out; have := HJ18.out; omega⟩, ⟨by (try simp only [hl5_2]); (with_reducible repeat (first | apply Kd.S_alloc | apply Kd.S_drewN | apply Kd.S_drew)); exact HO_5.out⟩, ⟨by repeat (first | (with_reducible first | exact HB.out | apply below_alloc | apply pw_below_drewN | apply below_drew1) | exact HB.out)⟩⟩
                             ·rw [if_neg c53] at H
                              exact absurd H (by simp)
                           ·rw [if_neg c46] at H
                            exact absurd H (by simp)
                          ·rw [if_neg c45] at H
                           exact absurd H (by simp)
                        ·rw [if_neg c31] at H
                         exact absurd H (by simp)
                       ·rw [if_neg c30] at H
                        exact absurd H (by simp)
                      ·rw [if_neg c28] at H
                       exact absurd H (by simp)
                     ·rw [if_neg c27] at H
                      exact absurd H (by simp)
                    ·rw [if_neg c26] at H
                     exact absurd H (by simp)
                   ·rw [if_neg c25] at H
                    exact absurd H (by simp)
                  ·rw [if_neg c24] at H
                   exact absurd H (by simp)
                 ·rw [if_neg c23] at H
                  exact absurd H (by simp)
                ·replace c21 := Bool.eq_false_iff.mpr c21
                 subst c21
                 have H1 : (spec_l04Table.l0 kj18 l0 l1 x5_2 (wrap64 (x6_1 - 1))) = some r := by rw [if_neg (show ¬ (false = true) by decide)] at H; exact H
                 clear H
                 have H := H1
                 clear H1
                 have H' := Aside0.mk H
                 clear H
                 go_wp2
                 repeat (go_quiet (fail); try go_wp2)
                 (try simp only [← hl5_2])
                 go_roundg kj18
                 case measure => have := HK1.out; have := HK2.out; have := HJ18.out; omega
                 case rel => exact ⟨(x5_2), (wrap64 (x6_1 - 1)), (by first | rfl | (simp; done) | (simp [*]; done)), H', ⟨by have := HK1.out; have := HK2.out; have := HJ18.out; omega⟩, ⟨by (try simp only [hl5_2]); (with_reducible repeat (first | apply Kd.S_alloc | apply Kd.S_drewN | apply Kd.S_drew)); exact HO_5.out⟩, ⟨by repeat (first | (with_reducible first | exact HB.out | apply below_alloc | apply pw_below_drewN | apply below_drew1) | exact HB.out)⟩⟩
           ·rw [if_neg c13] at H
            exact absurd H (by simp)
          ·rw [if_neg c12] at H
           exact absurd H (by simp)
         ·rw [if_neg c11] at H
          exact absurd H (by simp)
        ·rw [if_neg c10] at H
         exact absurd H (by simp)
       ·rw [if_neg c8] at H
        have c8b0 : decide (0 ≤ x6_1) = false := decide_eq_false c8
        clear c8
        obtain rfl := Option.some.inj H
        go_wp2
        repeat (go_quiet (fail); try go_wp2)
        go_ret
        exact ⟨_, by first | rfl | (simp [errW_none, errW_some] <;> rfl) | (simp only [← hji3]; first | rfl | (simp [errW_none, errW_some] <;> rfl)) | (simp [*, errW_none, errW_some] <;> rfl), by (with_reducible repeat (first | apply Kd.S_alloc | apply Kd.S_drewN | apply Kd.S_drew)); exact HO_5.out, by repeat (first | (with_reducible first | exact HB.out | apply below_alloc | apply pw_below_drewN | apply below_drew1) | exact HB.out)⟩
    ·rw [if_neg c5] at H
     exact absurd H (by simp)
  · rw [if_neg c4] at H
    exact absurd H (by simp)

end Go.Proofs.Ytnimljoagcokaaa.PFnExactEditsOf
-- (thin)
