-- Made by a program (the kit's print with additions of this session: wip/tools/patch_print.py, ext.py).
-- (turned)
import Derived.Test.YtnimljoagcokaaaPFnEditsx0
namespace Go.Proofs.Ytnimljoagcokaaa.PFnEdits
open Go.RowKit Go.Proofs.YtnimljoagcokaaaW.PrintWords Go.Proofs.YtnimljoagcokaaaW.PrintLast Go.Proofs.YtnimljoagcokaaaW.PrintMore
attribute [local go_sem] max2_int min2_int max_two min_two max_three min_three max_four min_four   -- for this text's walks alone
set_option linter.unusedVariables false
set_option linter.unusedSimpArgs false

/-! ### spec_l04Table: function 56 -/
mutual
def spec_l04Table.l0 : Nat → List ByteArray → List ByteArray → List (List Int) → Int → Option ((List (List Int)))
  | 0, _, _, _, _ => none
  | k + 1, x0, x1, x5, x6 => if x6 ≥ 0 then (if 0 ≤ (wrap64 ((x1.length : Int) + 1)) then (if (wrap64 ((x1.length : Int) + 1) : Int).toNat ≤ 35184372088832 then (if 0 ≤ x6 then (if x6 < (x5.length : Int) then (spec_l04Table.l1 k x0 x1 (x5.set (x6 : Int).toNat (List.replicate (wrap64 ((x1.length : Int) + 1) : Int).toNat 0)) x6 (wrap64 ((x1.length : Int) - 1))) else (none)) else (none)) else (none)) else (none)) else (some x5)
def spec_l04Table.l1 : Nat → List ByteArray → List ByteArray → List (List Int) → Int → Int → Option ((List (List Int)))
  | 0, _, _, _, _, _ => none
  | k + 1, x0, x1, x5, x6, x7 => if x7 ≥ 0 then (spec_l04Table.j2 k x0 x1 x5 x6 x7 (decide (x6 < (x0.length : Int)))) else (spec_l04Table.j2 k x0 x1 x5 x6 x7 false)
def spec_l04Table.j2 : Nat → List ByteArray → List ByteArray → List (List Int) → Int → Int → Bool → Option ((List (List Int)))
  | 0, _, _, _, _, _, _ => none
  | k + 1, x0, x1, x5, x6, x7, x36 => if x36 = true then (if 0 ≤ (wrap64 (x6 + 1)) then (if (wrap64 (x6 + 1)) < (x5.length : Int) then (if 0 ≤ x7 then (if x7 < ((rd_L4 x5 (wrap64 (x6 + 1))).length : Int) then (if 0 ≤ x6 then (if x6 < (x5.length : Int) then (if 0 ≤ (wrap64 (x7 + 1)) then (if (wrap64 (x7 + 1)) < ((rd_L4 x5 x6).length : Int) then (if (rd (rd_L4 x5 x6) (wrap64 (x7 + 1))) > (rd (rd_L4 x5 (wrap64 (x6 + 1))) x7) then (if x6 < (x0.length : Int) then (if x7 < (x1.length : Int) then (if (rdOf ByteArray.empty x0 x6).toList = (rdOf ByteArray.empty x1 x7).toList then (if (wrap64 (x7 + 1)) < ((rd_L4 x5 (wrap64 (x6 + 1))).length : Int) then (if x7 < ((rd_L4 x5 x6).length : Int) then (spec_l04Table.l1 k x0 x1 (x5.set (x6 : Int).toNat ((rd_L4 x5 x6).set (x7 : Int).toNat (wrap64 ((rd (rd_L4 x5 (wrap64 (x6 + 1))) (wrap64 (x7 + 1))) + 1)))) x6 (wrap64 (x7 - 1))) else (none)) else (none)) else (if x7 < ((rd_L4 x5 x6).length : Int) then (spec_l04Table.l1 k x0 x1 (x5.set (x6 : Int).toNat ((rd_L4 x5 x6).set (x7 : Int).toNat (rd (rd_L4 x5 x6) (wrap64 (x7 + 1))))) x6 (wrap64 (x7 - 1))) else (none))) else (none)) else (none)) else (if x6 < (x0.length : Int) then (if x7 < (x1.length : Int) then (if (rdOf ByteArray.empty x0 x6).toList = (rdOf ByteArray.empty x1 x7).toList then (if (wrap64 (x7 + 1)) < ((rd_L4 x5 (wrap64 (x6 + 1))).length : Int) then (if x7 < ((rd_L4 x5 x6).length : Int) then (spec_l04Table.l1 k x0 x1 (x5.set (x6 : Int).toNat ((rd_L4 x5 x6).set (x7 : Int).toNat (wrap64 ((rd (rd_L4 x5 (wrap64 (x6 + 1))) (wrap64 (x7 + 1))) + 1)))) x6 (wrap64 (x7 - 1))) else (none)) else (none)) else (if x7 < ((rd_L4 x5 x6).length : Int) then (spec_l04Table.l1 k x0 x1 (x5.set (x6 : Int).toNat ((rd_L4 x5 x6).set (x7 : Int).toNat (rd (rd_L4 x5 (wrap64 (x6 + 1))) x7))) x6 (wrap64 (x7 - 1))) else (none))) else (none)) else (none))) else (none)) else (none)) else (none)) else (none)) else (none)) else (none)) else (none)) else (none)) else (spec_l04Table.l0 k x0 x1 x5 (wrap64 (x6 - 1)))
end
def spec_l04Table.f (k : Nat) (l0 : List ByteArray) (l1 : List ByteArray) : Option ((List (List Int))) := if 0 ≤ (wrap64 ((l0.length : Int) + 1)) then (if (wrap64 ((l0.length : Int) + 1) : Int).toNat ≤ 11728124029610 then (spec_l04Table.l0 k l0 l1 (List.replicate (wrap64 ((l0.length : Int) + 1) : Int).toNat []) (l0.length : Int)) else (none)) else (none)
theorem spec_l04Table.mono_l : ∀ k, (∀ y0 y1 y2 y3, LeO (spec_l04Table.l0 k y0 y1 y2 y3) (spec_l04Table.l0 (k + 1) y0 y1 y2 y3)) ∧ (∀ y0 y1 y2 y3 y4, LeO (spec_l04Table.l1 k y0 y1 y2 y3 y4) (spec_l04Table.l1 (k + 1) y0 y1 y2 y3 y4)) ∧ (∀ y0 y1 y2 y3 y4 y5, LeO (spec_l04Table.j2 k y0 y1 y2 y3 y4 y5) (spec_l04Table.j2 (k + 1) y0 y1 y2 y3 y4 y5))
  | 0 => ⟨fun _ _ _ _ r h => by simp [spec_l04Table.l0] at h, fun _ _ _ _ _ r h => by simp [spec_l04Table.l1] at h, fun _ _ _ _ _ _ r h => by simp [spec_l04Table.j2] at h⟩
  | k + 1 => by
    obtain ⟨ih0, ih1, ih2⟩ := spec_l04Table.mono_l k
    refine ⟨?_, ?_, ?_⟩
    ·intro y0 y1 y2 y3
     unfold spec_l04Table.l0
     repeat' first
     | (with_reducible exact ih0 _ _ _ _)
     | (with_reducible exact ih1 _ _ _ _ _)
     | (with_reducible exact ih2 _ _ _ _ _ _)
     | (with_reducible exact LeO.refl _)
     | (with_reducible exact LeO.none _)
     | (with_reducible refine LeO.ite ?_ ?_)
     | (with_reducible refine LeO.bind ?_ (fun _ => ?_))
     | exact ih0 _ _ _ _
     | exact ih1 _ _ _ _ _
     | exact ih2 _ _ _ _ _ _
     | exact LeO.none _
     | refine LeO.ite ?_ ?_
     | refine LeO.bind ?_ (fun _ => ?_)
    ·intro y0 y1 y2 y3 y4
     unfold spec_l04Table.l1
     repeat' first
     | (with_reducible exact ih0 _ _ _ _)
     | (with_reducible exact ih1 _ _ _ _ _)
     | (with_reducible exact ih2 _ _ _ _ _ _)
     | (with_reducible exact LeO.refl _)
     | (with_reducible exact LeO.none _)
     | (with_reducible refine LeO.ite ?_ ?_)
     | (with_reducible refine LeO.bind ?_ (fun _ => ?_))
     | exact ih0 _ _ _ _
     | exact ih1 _ _ _ _ _
     | exact ih2 _ _ _ _ _ _
     | exact LeO.none _
     | refine LeO.ite ?_ ?_
     | refine LeO.bind ?_ (fun _ => ?_)
    ·intro y0 y1 y2 y3 y4 y5
     unfold spec_l04Table.j2
     repeat' first
     | (with_reducible exact ih0 _ _ _ _)
     | (with_reducible exact ih1 _ _ _ _ _)
     | (with_reducible exact ih2 _ _ _ _ _ _)
     | (with_reducible exact LeO.refl _)
     | (with_reducible exact LeO.none _)
     | (with_reducible refine LeO.ite ?_ ?_)
     | (with_reducible refine LeO.bind ?_ (fun _ => ?_))
     | exact ih0 _ _ _ _
     | exact ih1 _ _ _ _ _
     | exact ih2 _ _ _ _ _ _
     | exact LeO.none _
     | refine LeO.ite ?_ ?_
     | refine LeO.bind ?_ (fun _ => ?_)
theorem spec_l04Table.mono : ∀ a0 a1 k, LeO (spec_l04Table.f k a0 a1) (spec_l04Table.f (k + 1) a0 a1) := by
  intro a0 a1 k
  obtain ⟨ih0, ih1, ih2⟩ := spec_l04Table.mono_l k
  unfold spec_l04Table.f
  repeat' first
     | (with_reducible exact ih0 _ _ _ _)
     | (with_reducible exact ih1 _ _ _ _ _)
     | (with_reducible exact ih2 _ _ _ _ _ _)
     | (with_reducible exact LeO.refl _)
     | (with_reducible exact LeO.none _)
     | (with_reducible refine LeO.ite ?_ ?_)
     | (with_reducible refine LeO.bind ?_ (fun _ => ?_))
     | exact ih0 _ _ _ _
     | exact ih1 _ _ _ _ _
     | exact ih2 _ _ _ _ _ _
     | exact LeO.none _
     | refine LeO.ite ?_ ?_
     | refine LeO.bind ?_ (fun _ => ?_)
set_option maxHeartbeats 8000000 in
set_option maxRecDepth 100000 in
theorem spec_l04Table.calls (k : Nat) (A0 : Option Addr) (c0 : Nat) (l0 : List ByteArray) (A1 : Option Addr) (c1 : Nat) (l1 : List ByteArray) (r : List (List Int)) (w : World) (hr0 : Kd.C Kd.string w A0 l0.length l0) (hc0 : l0.length ≤ c0) (hr1 : Kd.C Kd.string w A1 l1.length l1) (hc1 : l1.length ≤ c1) (h : spec_l04Table.f k l0 l1 = some r) :
    Calls Try.prog 56 #[.slice A0 l0.length c0, .slice A1 l1.length c1] w fun e w' => ∃ v0_ : Value, e = .returned (v0_) ∧ Kd.S (Kd.slice 3 (Kd.int .i64)) 35 w' w.heap.size (fun _ => True) v0_ r ∧ Below w.heap.size w w' := by
  have HR0 := Aside0.mk hr0
  have HC0 := Aside0.mk hc0
  clear hr0 hc0
  have HR1 := Aside0.mk hr1
  have HC1 := Aside0.mk hc1
  clear hr1 hc1
  have HB := Aside0.mk (Below.refl w.heap.size w)
  have H : (if 0 ≤ (wrap64 ((l0.length : Int) + 1)) then (if (wrap64 ((l0.length : Int) + 1) : Int).toNat ≤ 11728124029610 then (spec_l04Table.l0 k l0 l1 (List.replicate (wrap64 ((l0.length : Int) + 1) : Int).toNat []) (l0.length : Int)) else (none)) else (none)) = some r := h
  clear h
  obtain ⟨ji3, hji3⟩ : ∃ j_ : Int, (wrap64 ((l0.length : Int) + 1)) = j_ := ⟨_, rfl⟩
  replace H : (if 0 ≤ (ji3) then (if (ji3 : Int).toNat ≤ 11728124029610 then (spec_l04Table.l0 k l0 l1 (List.replicate (ji3 : Int).toNat []) (l0.length : Int)) else (none)) else (none)) = some r := by first | (rw [hji3] at H; exact H) | (simp only [hji3] at H ⊢; exact H)
  have hji3w : (IntKind.i64.wrap ((l0.length : Int) + 1)) = ji3 := (i64_w _).trans hji3
  by_cases c4 : 0 ≤ (ji3)
  · rw [if_pos c4] at H
    have c4b0 := eq_true c4
    have c4b1 : decide (0 ≤ (ji3)) = true := decide_eq_true c4
    clear c4
    by_cases c5 : (ji3 : Int).toNat ≤ 11728124029610
    ·rw [if_pos c5] at H
     have c5b0 := eq_true c5
     have c5b1 : decide ((ji3 : Int).toNat ≤ 11728124029610) = true := decide_eq_true c5
     clear c5
     obtain ⟨y214, hy214⟩ : ∃ y_ : List (List Int), y_ = (List.replicate (ji3 : Int).toNat []) := ⟨_, rfl⟩
     replace H : (spec_l04Table.l0 k l0 l1 y214 (l0.length : Int)) = some r := by first | (rw [hy214]; with_reducible exact H) | (have H2_ := (Option.bind_some _ _).symm.trans H; rw [hy214]; with_reducible exact H2_) | (have H2_ := (Option.bind_some _ _).symm.trans H; with_reducible exact H2_) | with_reducible exact H | (rw [hy214]; exact H) | exact H
     have Ny214 := Aside0.mk hy214
     clear hy214
     have H' := Aside0.mk H
     clear H
     go_enter Try.func56, Try.ntmps56
     go_wp2_with (first | ((with_reducible refine gate_dst (N := 12) rfl ?_); (try (refine gate_guard (by rfl) ?_; dsimp only)); refine Kd.S_make (Kd.slice 3 (Kd.int .i64)) _ 35 rfl (N := 12) rfl 69 _ _ rfl ji3 rfl rfl Try.underlying69 (.slice none 0 0) 24 info35 rfl (by decide) (by omega) [] (ok := fun _ => True) (okp := fun _ => True) ⟨_, rfl, Kd.R_nil _ _ _ _ _⟩ (fun _ hk => hk) trivial (of_decide_eq_true (by first | (with_reducible assumption) | assumption)) (Nat.le_trans (Nat.mul_le_mul_right _ (of_decide_eq_true (by first | (with_reducible assumption) | assumption) : ji3.toNat ≤ 11728124029610)) (by omega)) (Below.refl _ _) (Nat.le_refl _) ?_; intro v215 w6 ho7 hb hg_ hnew_; clear hg_ hnew_; (first | rw [← Ny214.out] at ho7 | (simp only [Int.reduceToNat] at ho7; rw [← Ny214.out] at ho7)); have n0_ := Aside0.mk (Kd.S_lower ho7 (below_size (by repeat (first | (with_reducible first | exact HB.out | apply below_alloc | apply pw_below_drewN | apply below_drew1) | exact HB.out)))); have n1_ := Aside0.mk (below_step (by repeat (first | (with_reducible first | exact HB.out | apply below_alloc | apply pw_below_drewN | apply below_drew1) | exact HB.out)) hb); clear HB; have HO216 := n0_; have HB := n1_; clear n0_ n1_; clear hb ho7))
     repeat (go_quiet (first | ((with_reducible refine gate_dst (N := 12) rfl ?_); (try (refine gate_guard (by rfl) ?_; dsimp only)); refine Kd.S_make (Kd.slice 3 (Kd.int .i64)) _ 35 rfl (N := 12) rfl 69 _ _ rfl ji3 rfl rfl Try.underlying69 (.slice none 0 0) 24 info35 rfl (by decide) (by omega) [] (ok := fun _ => True) (okp := fun _ => True) ⟨_, rfl, Kd.R_nil _ _ _ _ _⟩ (fun _ hk => hk) trivial (of_decide_eq_true (by first | (with_reducible assumption) | assumption)) (Nat.le_trans (Nat.mul_le_mul_right _ (of_decide_eq_true (by first | (with_reducible assumption) | assumption) : ji3.toNat ≤ 11728124029610)) (by omega)) (Below.refl _ _) (Nat.le_refl _) ?_; intro v215 w6 ho7 hb hg_ hnew_; clear hg_ hnew_; (first | rw [← Ny214.out] at ho7 | (simp only [Int.reduceToNat] at ho7; rw [← Ny214.out] at ho7)); have n0_ := Aside0.mk (Kd.S_lower ho7 (below_size (by repeat (first | (with_reducible first | exact HB.out | apply below_alloc | apply pw_below_drewN | apply below_drew1) | exact HB.out)))); have n1_ := Aside0.mk (below_step (by repeat (first | (with_reducible first | exact HB.out | apply below_alloc | apply pw_below_drewN | apply below_drew1) | exact HB.out)) hb); clear HB; have HO216 := n0_; have HB := n1_; clear n0_ n1_; clear hb ho7)); try go_wp2_with (first | ((with_reducible refine gate_dst (N := 12) rfl ?_); (try (refine gate_guard (by rfl) ?_; dsimp only)); refine Kd.S_make (Kd.slice 3 (Kd.int .i64)) _ 35 rfl (N := 12) rfl 69 _ _ rfl ji3 rfl rfl Try.underlying69 (.slice none 0 0) 24 info35 rfl (by decide) (by omega) [] (ok := fun _ => True) (okp := fun _ => True) ⟨_, rfl, Kd.R_nil _ _ _ _ _⟩ (fun _ hk => hk) trivial (of_decide_eq_true (by first | (with_reducible assumption) | assumption)) (Nat.le_trans (Nat.mul_le_mul_right _ (of_decide_eq_true (by first | (with_reducible assumption) | assumption) : ji3.toNat ≤ 11728124029610)) (by omega)) (Below.refl _ _) (Nat.le_refl _) ?_; intro v215 w6 ho7 hb hg_ hnew_; clear hg_ hnew_; (first | rw [← Ny214.out] at ho7 | (simp only [Int.reduceToNat] at ho7; rw [← Ny214.out] at ho7)); have n0_ := Aside0.mk (Kd.S_lower ho7 (below_size (by repeat (first | (with_reducible first | exact HB.out | apply below_alloc | apply pw_below_drewN | apply below_drew1) | exact HB.out)))); have n1_ := Aside0.mk (below_step (by repeat (first | (with_reducible first | exact HB.out | apply below_alloc | apply pw_below_drewN | apply below_drew1) | exact HB.out)) hb); clear HB; have HO216 := n0_; have HB := n1_; clear n0_ n1_; clear hb ho7)))
     go_loopg [6] k (fun kq v6 w' => ∃ (x5_1 : List (List Int)) (x6_1 : Int), v6 = .int .i64 x6_1 ∧ Aside0 (spec_l04Table.l0 kq l0 l1 x5_1 x6_1 = some r) ∧ Aside0 (kq ≤ k) ∧ Aside0 (Kd.S (Kd.slice 3 (Kd.int .i64)) 35 w' w.heap.size (fun _ => True) v215 x5_1) ∧ Aside0 (Below w.heap.size w w'))
     case atStart => exact ⟨(y214), ((l0.length : Int)), (by first | rfl | (simp; done) | (simp [*]; done)), H', ⟨Nat.le_refl _⟩, ⟨by (with_reducible repeat (first | apply Kd.S_alloc | apply Kd.S_drewN | apply Kd.S_drew)); exact HO216.out⟩, ⟨by repeat (first | (with_reducible first | exact HB.out | apply below_alloc | apply pw_below_drewN | apply below_drew1) | exact HB.out)⟩⟩
     case round =>
      clear H'
      try clear c1
      try clear p2
      try clear c4
      try clear c4b0
      try clear c4b1
      try clear c5
      try clear c5b0
      try clear c5b1
      try clear p6
      obtain ⟨x5_1, x6_1, rfl, HA, HK1, HO_5, HB⟩ := hrel
      cases gk with
      | zero => exact absurd HA.out (by simp [spec_l04Table.l0])
      | succ k1 =>
       have H := HA.out
       clear HA
       simp only [spec_l04Table.l0] at H
       by_cases c8 : x6_1 ≥ 0
       ·rw [if_pos c8] at H
        have c8b0 : decide (0 ≤ x6_1) = true := decide_eq_true c8
        clear c8
        obtain ⟨ji9, hji9⟩ : ∃ j_ : Int, (wrap64 ((l1.length : Int) + 1)) = j_ := ⟨_, rfl⟩
        replace H : (if 0 ≤ (ji9) then (if (ji9 : Int).toNat ≤ 35184372088832 then (if 0 ≤ x6_1 then (if x6_1 < (x5_1.length : Int) then (spec_l04Table.l1 k1 l0 l1 (x5_1.set (x6_1 : Int).toNat (List.replicate (ji9 : Int).toNat 0)) x6_1 (wrap64 ((l1.length : Int) - 1))) else (none)) else (none)) else (none)) else (none)) = some r := by first | (rw [hji9] at H; exact H) | (simp only [hji9] at H ⊢; exact H)
        have hji9w : (IntKind.i64.wrap ((l1.length : Int) + 1)) = ji9 := (i64_w _).trans hji9
        by_cases c10 : 0 ≤ (ji9)
        ·rw [if_pos c10] at H
         have c10b0 := eq_true c10
         have c10b1 : decide (0 ≤ (ji9)) = true := decide_eq_true c10
         clear c10
         by_cases c11 : (ji9 : Int).toNat ≤ 35184372088832
         ·rw [if_pos c11] at H
          have c11b0 := eq_true c11
          have c11b1 : decide ((ji9 : Int).toNat ≤ 35184372088832) = true := decide_eq_true c11
          clear c11
          obtain ⟨y217, hy217⟩ : ∃ y_ : List Int, y_ = (List.replicate (ji9 : Int).toNat 0) := ⟨_, rfl⟩
          replace H : (if 0 ≤ x6_1 then (if x6_1 < (x5_1.length : Int) then (spec_l04Table.l1 k1 l0 l1 (x5_1.set (x6_1 : Int).toNat y217) x6_1 (wrap64 ((l1.length : Int) - 1))) else (none)) else (none)) = some r := by first | (rw [hy217]; with_reducible exact H) | (have H2_ := (Option.bind_some _ _).symm.trans H; rw [hy217]; with_reducible exact H2_) | (have H2_ := (Option.bind_some _ _).symm.trans H; with_reducible exact H2_) | with_reducible exact H | (rw [hy217]; exact H) | exact H
          have Ny217 := Aside0.mk hy217
          clear hy217
          by_cases c12 : 0 ≤ x6_1
          ·rw [if_pos c12] at H
           have c12b0 : decide (0 ≤ x6_1) = true := decide_eq_true c12
           clear c12
           by_cases c13 : x6_1 < (x5_1.length : Int)
           ·rw [if_pos c13] at H
            have c13b0 : decide (x6_1 < (x5_1.length : Int)) = true := decide_eq_true c13
            clear c13
            obtain ⟨y220, hy220⟩ : ∃ y_ : List (List Int), y_ = (x5_1.set (x6_1 : Int).toNat y217) := ⟨_, rfl⟩
            replace H : (spec_l04Table.l1 k1 l0 l1 y220 x6_1 (wrap64 ((l1.length : Int) - 1))) = some r := by first | (rw [hy220]; with_reducible exact H) | (have H2_ := (Option.bind_some _ _).symm.trans H; rw [hy220]; with_reducible exact H2_) | (have H2_ := (Option.bind_some _ _).symm.trans H; with_reducible exact H2_) | with_reducible exact H | (rw [hy220]; exact H) | exact H
            have Ny220 := Aside0.mk hy220
            clear hy220
            have H' := Aside0.mk H
            clear H
            go_wp2_with (first | ((with_reducible refine gate_dst (N := 24) rfl ?_); (try (refine gate_guard (by rfl) ?_; dsimp only)); refine Kd.R_make (Kd.int .i64) _ 3 rfl (N := 24) rfl 35 _ _ rfl ji9 rfl rfl Try.underlying35 (.int .i64 0) 8 info3 rfl (by decide) (by omega) 0 (ok := fun _ => True) (okp := fun _ => True) rfl (fun _ hk => hk) trivial (of_decide_eq_true (by first | (with_reducible assumption) | assumption)) (Nat.le_trans (Nat.mul_le_mul_right _ (of_decide_eq_true (by first | (with_reducible assumption) | assumption) : ji9.toNat ≤ 35184372088832)) (by omega)) (Below.refl _ _) (Nat.le_refl _) ?_; intro v218 w15 ho16 hb hg_ hnew_; clear hg_ hnew_; (first | rw [← Ny217.out] at ho16 | (simp only [Int.reduceToNat] at ho16; rw [← Ny217.out] at ho16)); have n0_ := Aside0.mk (Kd.S_elder' (by (with_reducible repeat (first | apply Kd.S_alloc | apply Kd.S_drewN | apply Kd.S_drew)); exact HO_5.out) (Kd.R_base ho16) hb); have n1_ := Aside0.mk (Kd.R_lower ho16 (below_size (by repeat (first | (with_reducible first | exact HB.out | apply below_alloc | apply pw_below_drewN | apply below_drew1) | exact HB.out)))); have n2_ := Aside0.mk (below_step (by repeat (first | (with_reducible first | exact HB.out | apply below_alloc | apply pw_below_drewN | apply below_drew1) | exact HB.out)) hb); clear HO_5; clear HB; have HO_5 := n0_; have HO219 := n1_; have HB := n2_; clear n0_ n1_ n2_; clear hb ho16; have p14 : 0 ≤ (x6_1 : Int) := of_decide_eq_true (by first | (with_reducible assumption) | assumption); have q14 : (x6_1 : Int) < ((x5_1.length : Int) : Int) := of_decide_eq_true (by first | (with_reducible assumption) | assumption); obtain ⟨go14, co14, eo14, gb14, gl14, cl14, HG14⟩ := Kd.S_form HO_5.out (by omega); (first | cases eo14 | (injection eo14 with ea_ en_ ec_; (first | subst ea_ | (injection ea_ with ea_; subst ea_)); subst ec_; clear en_)); have GB14 := Aside0.mk gb14; have GG14 := Aside0.mk HG14; clear gb14 gl14 HG14; obtain ⟨_, ce14, hcl14, hM14, hcc14, hfr14, _, _⟩ := Kd.S_elem HO_5.out [] (x6_1 : Int) p14 q14; obtain ⟨ve14_0, rfl, ge14_0⟩ := hM14; have hx14_0 := hcc14 0 _ rfl; have hf14_0 := hfr14 0; (try simp only [show ((Kd.slice 3 (Kd.int .i64))).sz = 1 from rfl, Nat.mul_one, Nat.add_zero] at hx14_0); (try simp only [show ((Kd.slice 3 (Kd.int .i64))).sz = 1 from rfl, Nat.mul_one, Nat.add_zero] at hf14_0); (try clear hcl14); (try clear hcc14); (try clear hfr14); (try clear hM14); replace p14 := eq_true p14; replace q14 := eq_true q14; have n_ := Aside0.mk (Kd.S_mono (ok' := (fun k_ => some k_ ≠ (v218 : Value).ownBlock)) HO_5.out (fun k_ hk => hk.2)); clear HO_5; have HO_5 := n_; clear n_; have HX17 := Aside0.mk (show Kd.S (Kd.slice 3 (Kd.int .i64)) 35 w15 w.heap.size (fun k_ => ((fun _ => True)) k_ ∧ ¬ ((fun k_ => some k_ = (v218 : Value).ownBlock)) k_) (.slice (some ⟨go14, 0, none⟩) x5_1.length co14) x5_1 from (by (with_reducible repeat (first | apply Kd.S_alloc | apply Kd.S_drewN | apply Kd.S_drew)); exact Kd.S_mono HO_5.out (fun k_ hk => ⟨trivial, fun e_ => hk e_⟩))); obtain ⟨oki17, ce17, hcl17, hM17, hcc17, hfr17, hoki17, hH17⟩ := Kd.S_elem HX17.out [] (x6_1 : Int) (of_decide_eq_true (by first | (with_reducible assumption) | assumption)) (by have h_ : (x6_1 : Int) < ((x5_1.length : Int) : Int) := of_decide_eq_true (by first | (with_reducible assumption) | assumption); first | exact h_ | (have e_ := (Kd.S_reads' HO_5.out).1; omega) | simpa using h_); obtain ⟨ve17_0, rfl, ge17_0⟩ := hM17; have HP17 := Kd.S_seg hH17 (of_decide_eq_true (by first | (with_reducible assumption) | assumption)) (by have h_ : (x6_1 : Int) < ((x5_1.length : Int) : Int) := of_decide_eq_true (by first | (with_reducible assumption) | assumption); first | exact h_ | (have e_ := (Kd.S_reads' HO_5.out).1; omega) | simpa using h_) (seg := [v218]) (j := 0) (show 1 ≤ 1 from by decide) (x' := y217) (Kd.M_row (Kd.R_mono (Kd.R_tight rfl (Kd.R_mono (ok' := fun k_ => ((fun _ => True)) k_ ∧ k_ ≠ go14) (Kd.R_apart' (HO219.out) (Kd.S_typed HO_5.out) (by decide)) (fun k_ hk => ⟨trivial, fun e_ => (hk.2) (by rw [e_]; rfl)⟩))) (fun _ h_ => Or.inr (h_)))) (fun _ hk => hk) (fun k_ hk_ => ((Kd.R_mono (ok' := fun k_ => ((fun _ => True)) k_ ∧ k_ ≠ go14) (Kd.R_apart' (HO219.out) (Kd.S_typed HO_5.out) (by decide)) (fun k_ hk => ⟨trivial, fun e_ => (hk.2) (by rw [e_]; rfl)⟩))).1 k_ hk_.symm); have hx17_0 := hcc17 0 _ rfl; (try simp only [show ((Kd.slice 3 (Kd.int .i64))).sz = 1 from rfl, Nat.mul_one, Nat.add_zero] at hx17_0); have hf17_0 := hfr17 0; (try simp only [show ((Kd.slice 3 (Kd.int .i64))).sz = 1 from rfl, Nat.mul_one, Nat.add_zero] at hf17_0); (try clear hcl17); (try clear hcc17); (try clear hfr17); (try clear hM17); (try clear hoki17); (try clear hH17); (try simp only [show ((Kd.slice 3 (Kd.int .i64))).sz = 1 from rfl, Nat.mul_one, Nat.add_zero] at HP17)) | ((with_reducible refine gate_store (t := 35) (p := 25) rfl ?_); (try (rw [drewN_self w15]; generalize hq_ : World.drewN w15 _ = w15; (try (replace hx14_0 := cell_at hq_ hx14_0)); (try (replace hx17_0 := cell_at hq_ hx17_0)); (try (replace hf14_0 := frozen_at hq_ hf14_0)); (try (replace hf17_0 := frozen_at hq_ hf17_0)); have n0_ := Aside0.mk (Kd.S_at hq_ HO_5.out); have n1_ := Aside0.mk (below_at hq_ HB.out); clear hq_ HO_5 HB; have HO_5 := n0_; have HB := n1_; clear n0_ n1_; (try (have n_ := Aside0.mk (Kd.S_mono (ok' := (fun k_ => some k_ ≠ (v218 : Value).ownBlock)) HO_5.out (fun k_ hk => hk.2)); clear HO_5; have HO_5 := n_; clear n_)); (try (have HX17 := Aside0.mk (show Kd.S (Kd.slice 3 (Kd.int .i64)) 35 w15 w.heap.size (fun k_ => ((fun _ => True)) k_ ∧ ¬ ((fun k_ => some k_ = (v218 : Value).ownBlock)) k_) (.slice (some ⟨go14, 0, none⟩) x5_1.length co14) x5_1 from (by (with_reducible repeat (first | apply Kd.S_alloc | apply Kd.S_drewN | apply Kd.S_drew)); exact Kd.S_mono HO_5.out (fun k_ hk => ⟨trivial, fun e_ => hk e_⟩))))); (try (obtain ⟨oki17, ce17, hcl17, hM17, hcc17, hfr17, hoki17, hH17⟩ := Kd.S_elem HX17.out [] (x6_1 : Int) (of_decide_eq_true (by first | (with_reducible assumption) | assumption)) (by have h_ : (x6_1 : Int) < ((x5_1.length : Int) : Int) := of_decide_eq_true (by first | (with_reducible assumption) | assumption); first | exact h_ | (have e_ := (Kd.S_reads' HO_5.out).1; omega) | simpa using h_))); (try (obtain ⟨ve17_0, rfl, ge17_0⟩ := hM17)); (try (have HP17 := Kd.S_seg hH17 (of_decide_eq_true (by first | (with_reducible assumption) | assumption)) (by have h_ : (x6_1 : Int) < ((x5_1.length : Int) : Int) := of_decide_eq_true (by first | (with_reducible assumption) | assumption); first | exact h_ | (have e_ := (Kd.S_reads' HO_5.out).1; omega) | simpa using h_) (seg := [v218]) (j := 0) (show 1 ≤ 1 from by decide) (x' := y217) (Kd.M_row (Kd.R_mono (Kd.R_tight rfl (Kd.R_mono (ok' := fun k_ => ((fun _ => True)) k_ ∧ k_ ≠ go14) (Kd.R_apart' (HO219.out) (Kd.S_typed HO_5.out) (by decide)) (fun k_ hk => ⟨trivial, fun e_ => (hk.2) (by rw [e_]; rfl)⟩))) (fun _ h_ => Or.inr (h_)))) (fun _ hk => hk) (fun k_ hk_ => ((Kd.R_mono (ok' := fun k_ => ((fun _ => True)) k_ ∧ k_ ≠ go14) (Kd.R_apart' (HO219.out) (Kd.S_typed HO_5.out) (by decide)) (fun k_ hk => ⟨trivial, fun e_ => (hk.2) (by rw [e_]; rfl)⟩))).1 k_ hk_.symm))); (try (have hx17_0 := hcc17 0 _ rfl)); (try (try simp only [show ((Kd.slice 3 (Kd.int .i64))).sz = 1 from rfl, Nat.mul_one, Nat.add_zero] at hx17_0)); (try (have hf17_0 := hfr17 0)); (try (try simp only [show ((Kd.slice 3 (Kd.int .i64))).sz = 1 from rfl, Nat.mul_one, Nat.add_zero] at hf17_0)); (try (clear hcl17 hcc17 hfr17 hM17 hoki17 hH17)); (try (try simp only [show ((Kd.slice 3 (Kd.int .i64))).sz = 1 from rfl, Nat.mul_one, Nat.add_zero] at HP17)))); refine store_event (t := 35) (p := 25) (v := ?vo_w18) (w1 := (w15.setCell ⟨go14, (x6_1 : Int).toNat, none⟩ (v218))) ?hg ?ho ?hn ?hr ?_; (case ho => rfl); (case hg => rfl); (case hn => rfl); (case hr => first | (go_simp; done) | (go_simp; rfl) | (obtain ⟨_, _, e_, _⟩ := Kd.R_reads (Aside0.out ‹Aside0 (Kd.R _ _ _ _ _ v218 _)›); go_simp; done) | (obtain ⟨_, _, e_, _⟩ := Kd.R_reads (Aside0.out ‹Aside0 (Kd.R _ _ _ _ _ v218 _)›); go_simp; rfl) | (obtain ⟨_, _, e_, _⟩ := Kd.R_reads (Kd.S_R (Aside0.out ‹Aside0 (Kd.S _ _ _ _ _ v218 _)›)); go_simp; done) | (obtain ⟨_, _, e_, _⟩ := Kd.R_reads (Kd.S_R (Aside0.out ‹Aside0 (Kd.S _ _ _ _ _ v218 _)›)); go_simp; rfl) | (obtain ⟨_, _, e_, _⟩ := Kd.N_reads (Aside0.out ‹Aside0 (Kd.N _ _ _ _ _ v218 _)›); go_simp; done) | (obtain ⟨_, _, e_, _⟩ := Kd.N_reads (Aside0.out ‹Aside0 (Kd.N _ _ _ _ _ v218 _)›); go_simp; rfl) | (obtain ⟨_, _, e_, _⟩ := Kd.Q_reads (Aside0.out ‹Aside0 (Kd.Q _ _ _ _ _ v218 _)›); go_simp; done) | (obtain ⟨_, _, e_, _⟩ := Kd.Q_reads (Aside0.out ‹Aside0 (Kd.Q _ _ _ _ _ v218 _)›); go_simp; rfl)); intro w18 hw; have hg : w15.grownBy w18 (some go14) := (by rw [hw]; exact HP17.2); have hp_ : Kd.S (Kd.slice 3 (Kd.int .i64)) 35 w18 w.heap.size (fun _ => True) (.slice (some ⟨go14, 0, none⟩) x5_1.length co14) y220 := (by rw [hw, Ny220.out]; exact HP17.1); clear HP17; have n0_ := Aside0.mk (hp_); have n1_ := Aside0.mk ((by rw [hw]; exact below_set (HB.out) GB14.out : Below w.heap.size w w18)); clear HO_5; clear HB; clear HO219; have HO_5 := n0_; have HB := n1_; clear n0_ n1_; clear hg hw hp_))
            repeat (go_quiet (first | ((with_reducible refine gate_dst (N := 24) rfl ?_); (try (refine gate_guard (by rfl) ?_; dsimp only)); refine Kd.R_make (Kd.int .i64) _ 3 rfl (N := 24) rfl 35 _ _ rfl ji9 rfl rfl Try.underlying35 (.int .i64 0) 8 info3 rfl (by decide) (by omega) 0 (ok := fun _ => True) (okp := fun _ => True) rfl (fun _ hk => hk) trivial (of_decide_eq_true (by first | (with_reducible assumption) | assumption)) (Nat.le_trans (Nat.mul_le_mul_right _ (of_decide_eq_true (by first | (with_reducible assumption) | assumption) : ji9.toNat ≤ 35184372088832)) (by omega)) (Below.refl _ _) (Nat.le_refl _) ?_; intro v218 w15 ho16 hb hg_ hnew_; clear hg_ hnew_; (first | rw [← Ny217.out] at ho16 | (simp only [Int.reduceToNat] at ho16; rw [← Ny217.out] at ho16)); have n0_ := Aside0.mk (Kd.S_elder' (by (with_reducible repeat (first | apply Kd.S_alloc | apply Kd.S_drewN | apply Kd.S_drew)); exact HO_5.out) (Kd.R_base ho16) hb); have n1_ := Aside0.mk (Kd.R_lower ho16 (below_size (by repeat (first | (with_reducible first | exact HB.out | apply below_alloc | apply pw_below_drewN | apply below_drew1) | exact HB.out)))); have n2_ := Aside0.mk (below_step (by repeat (first | (with_reducible first | exact HB.out | apply below_alloc | apply pw_below_drewN | apply below_drew1) | exact HB.out)) hb); clear HO_5; clear HB; have HO_5 := n0_; have HO219 := n1_; have HB := n2_; clear n0_ n1_ n2_; clear hb ho16; have p14 : 0 ≤ (x6_1 : Int) := of_decide_eq_true (by first | (with_reducible assumption) | assumption); have q14 : (x6_1 : Int) < ((x5_1.length : Int) : Int) := of_decide_eq_true (by first | (with_reducible assumption) | assumption); obtain ⟨go14, co14, eo14, gb14, gl14, cl14, HG14⟩ := Kd.S_form HO_5.out (by omega); (first | cases eo14 | (injection eo14 with ea_ en_ ec_; (first | subst ea_ | (injection ea_ with ea_; subst ea_)); subst ec_; clear en_)); have GB14 := Aside0.mk gb14; have GG14 := Aside0.mk HG14; clear gb14 gl14 HG14; obtain ⟨_, ce14, hcl14, hM14, hcc14, hfr14, _, _⟩ := Kd.S_elem HO_5.out [] (x6_1 : Int) p14 q14; obtain ⟨ve14_0, rfl, ge14_0⟩ := hM14; have hx14_0 := hcc14 0 _ rfl; have hf14_0 := hfr14 0; (try simp only [show ((Kd.slice 3 (Kd.int .i64))).sz = 1 from rfl, Nat.mul_one, Nat.add_zero] at hx14_0); (try simp only [show ((Kd.slice 3 (Kd.int .i64))).sz = 1 from rfl, Nat.mul_one, Nat.add_zero] at hf14_0); (try clear hcl14); (try clear hcc14); (try clear hfr14); (try clear hM14); replace p14 := eq_true p14; replace q14 := eq_true q14; have n_ := Aside0.mk (Kd.S_mono (ok' := (fun k_ => some k_ ≠ (v218 : Value).ownBlock)) HO_5.out (fun k_ hk => hk.2)); clear HO_5; have HO_5 := n_; clear n_; have HX17 := Aside0.mk (show Kd.S (Kd.slice 3 (Kd.int .i64)) 35 w15 w.heap.size (fun k_ => ((fun _ => True)) k_ ∧ ¬ ((fun k_ => some k_ = (v218 : Value).ownBlock)) k_) (.slice (some ⟨go14, 0, none⟩) x5_1.length co14) x5_1 from (by (with_reducible repeat (first | apply Kd.S_alloc | apply Kd.S_drewN | apply Kd.S_drew)); exact Kd.S_mono HO_5.out (fun k_ hk => ⟨trivial, fun e_ => hk e_⟩))); obtain ⟨oki17, ce17, hcl17, hM17, hcc17, hfr17, hoki17, hH17⟩ := Kd.S_elem HX17.out [] (x6_1 : Int) (of_decide_eq_true (by first | (with_reducible assumption) | assumption)) (by have h_ : (x6_1 : Int) < ((x5_1.length : Int) : Int) := of_decide_eq_true (by first | (with_reducible assumption) | assumption); first | exact h_ | (have e_ := (Kd.S_reads' HO_5.out).1; omega) | simpa using h_); obtain ⟨ve17_0, rfl, ge17_0⟩ := hM17; have HP17 := Kd.S_seg hH17 (of_decide_eq_true (by first | (with_reducible assumption) | assumption)) (by have h_ : (x6_1 : Int) < ((x5_1.length : Int) : Int) := of_decide_eq_true (by first | (with_reducible assumption) | assumption); first | exact h_ | (have e_ := (Kd.S_reads' HO_5.out).1; omega) | simpa using h_) (seg := [v218]) (j := 0) (show 1 ≤ 1 from by decide) (x' := y217) (Kd.M_row (Kd.R_mono (Kd.R_tight rfl (Kd.R_mono (ok' := fun k_ => ((fun _ => True)) k_ ∧ k_ ≠ go14) (Kd.R_apart' (HO219.out) (Kd.S_typed HO_5.out) (by decide)) (fun k_ hk => ⟨trivial, fun e_ => (hk.2) (by rw [e_]; rfl)⟩))) (fun _ h_ => Or.inr (h_)))) (fun _ hk => hk) (fun k_ hk_ => ((Kd.R_mono (ok' := fun k_ => ((fun _ => True)) k_ ∧ k_ ≠ go14) (Kd.R_apart' (HO219.out) (Kd.S_typed HO_5.out) (by decide)) (fun k_ hk => ⟨trivial, fun e_ => (hk.2) (by rw [e_]; rfl)⟩))).1 k_ hk_.symm); have hx17_0 := hcc17 0 _ rfl; (try simp only [show ((Kd.slice 3 (Kd.int .i64))).sz = 1 from rfl, Nat.mul_one, Nat.add_zero] at hx17_0); have hf17_0 := hfr17 0; (try simp only [show ((Kd.slice 3 (Kd.int .i64))).sz = 1 from rfl, Nat.mul_one, Nat.add_zero] at hf17_0); (try clear hcl17); (try clear hcc17); (try clear hfr17); (try clear hM17); (try clear hoki17); (try clear hH17); (try simp only [show ((Kd.slice 3 (Kd.int .i64))).sz = 1 from rfl, Nat.mul_one, Nat.add_zero] at HP17)) | ((with_reducible refine gate_store (t := 35) (p := 25) rfl ?_); (try (rw [drewN_self w15]; generalize hq_ : World.drewN w15 _ = w15; (try (replace hx14_0 := cell_at hq_ hx14_0)); (try (replace hx17_0 := cell_at hq_ hx17_0)); (try (replace hf14_0 := frozen_at hq_ hf14_0)); (try (replace hf17_0 := frozen_at hq_ hf17_0)); have n0_ := Aside0.mk (Kd.S_at hq_ HO_5.out); have n1_ := Aside0.mk (below_at hq_ HB.out); clear hq_ HO_5 HB; have HO_5 := n0_; have HB := n1_; clear n0_ n1_; (try (have n_ := Aside0.mk (Kd.S_mono (ok' := (fun k_ => some k_ ≠ (v218 : Value).ownBlock)) HO_5.out (fun k_ hk => hk.2)); clear HO_5; have HO_5 := n_; clear n_)); (try (have HX17 := Aside0.mk (show Kd.S (Kd.slice 3 (Kd.int .i64)) 35 w15 w.heap.size (fun k_ => ((fun _ => True)) k_ ∧ ¬ ((fun k_ => some k_ = (v218 : Value).ownBlock)) k_) (.slice (some ⟨go14, 0, none⟩) x5_1.length co14) x5_1 from (by (with_reducible repeat (first | apply Kd.S_alloc | apply Kd.S_drewN | apply Kd.S_drew)); exact Kd.S_mono HO_5.out (fun k_ hk => ⟨trivial, fun e_ => hk e_⟩))))); (try (obtain ⟨oki17, ce17, hcl17, hM17, hcc17, hfr17, hoki17, hH17⟩ := Kd.S_elem HX17.out [] (x6_1 : Int) (of_decide_eq_true (by first | (with_reducible assumption) | assumption)) (by have h_ : (x6_1 : Int) < ((x5_1.length : Int) : Int) := of_decide_eq_true (by first | (with_reducible assumption) | assumption); first | exact h_ | (have e_ := (Kd.S_reads' HO_5.out).1; omega) | simpa using h_))); (try (obtain ⟨ve17_0, rfl, ge17_0⟩ := hM17)); (try (have HP17 := Kd.S_seg hH17 (of_decide_eq_true (by first | (with_reducible assumption) | assumption)) (by have h_ : (x6_1 : Int) < ((x5_1.length : Int) : Int) := of_decide_eq_true (by first | (with_reducible assumption) | assumption); first | exact h_ | (have e_ := (Kd.S_reads' HO_5.out).1; omega) | simpa using h_) (seg := [v218]) (j := 0) (show 1 ≤ 1 from by decide) (x' := y217) (Kd.M_row (Kd.R_mono (Kd.R_tight rfl (Kd.R_mono (ok' := fun k_ => ((fun _ => True)) k_ ∧ k_ ≠ go14) (Kd.R_apart' (HO219.out) (Kd.S_typed HO_5.out) (by decide)) (fun k_ hk => ⟨trivial, fun e_ => (hk.2) (by rw [e_]; rfl)⟩))) (fun _ h_ => Or.inr (h_)))) (fun _ hk => hk) (fun k_ hk_ => ((Kd.R_mono (ok' := fun k_ => ((fun _ => True)) k_ ∧ k_ ≠ go14) (Kd.R_apart' (HO219.out) (Kd.S_typed HO_5.out) (by decide)) (fun k_ hk => ⟨trivial, fun e_ => (hk.2) (by rw [e_]; rfl)⟩))).1 k_ hk_.symm))); (try (have hx17_0 := hcc17 0 _ rfl)); (try (try simp only [show ((Kd.slice 3 (Kd.int .i64))).sz = 1 from rfl, Nat.mul_one, Nat.add_zero] at hx17_0)); (try (have hf17_0 := hfr17 0)); (try (try simp only [show ((Kd.slice 3 (Kd.int .i64))).sz = 1 from rfl, Nat.mul_one, Nat.add_zero] at hf17_0)); (try (clear hcl17 hcc17 hfr17 hM17 hoki17 hH17)); (try (try simp only [show ((Kd.slice 3 (Kd.int .i64))).sz = 1 from rfl, Nat.mul_one, Nat.add_zero] at HP17)))); refine store_event (t := 35) (p := 25) (v := ?vo_w18) (w1 := (w15.setCell ⟨go14, (x6_1 : Int).toNat, none⟩ (v218))) ?hg ?ho ?hn ?hr ?_; (case ho => rfl); (case hg => rfl); (case hn => rfl); (case hr => first | (go_simp; done) | (go_simp; rfl) | (obtain ⟨_, _, e_, _⟩ := Kd.R_reads (Aside0.out ‹Aside0 (Kd.R _ _ _ _ _ v218 _)›); go_simp; done) | (obtain ⟨_, _, e_, _⟩ := Kd.R_reads (Aside0.out ‹Aside0 (Kd.R _ _ _ _ _ v218 _)›); go_simp; rfl) | (obtain ⟨_, _, e_, _⟩ := Kd.R_reads (Kd.S_R (Aside0.out ‹Aside0 (Kd.S _ _ _ _ _ v218 _)›)); go_simp; done) | (obtain ⟨_, _, e_, _⟩ := Kd.R_reads (Kd.S_R (Aside0.out ‹Aside0 (Kd.S _ _ _ _ _ v218 _)›)); go_simp; rfl) | (obtain ⟨_, _, e_, _⟩ := Kd.N_reads (Aside0.out ‹Aside0 (Kd.N _ _ _ _ _ v218 _)›); go_simp; done) | (obtain ⟨_, _, e_, _⟩ := Kd.N_reads (Aside0.out ‹Aside0 (Kd.N _ _ _ _ _ v218 _)›); go_simp; rfl) | (obtain ⟨_, _, e_, _⟩ := Kd.Q_reads (Aside0.out ‹Aside0 (Kd.Q _ _ _ _ _ v218 _)›); go_simp; done) | (obtain ⟨_, _, e_, _⟩ := Kd.Q_reads (Aside0.out ‹Aside0 (Kd.Q _ _ _ _ _ v218 _)›); go_simp; rfl)); intro w18 hw; have hg : w15.grownBy w18 (some go14) := (by rw [hw]; exact HP17.2); have hp_ : Kd.S (Kd.slice 3 (Kd.int .i64)) 35 w18 w.heap.size (fun _ => True) (.slice (some ⟨go14, 0, none⟩) x5_1.length co14) y220 := (by rw [hw, Ny220.out]; exact HP17.1); clear HP17; have n0_ := Aside0.mk (hp_); have n1_ := Aside0.mk ((by rw [hw]; exact below_set (HB.out) GB14.out : Below w.heap.size w w18)); clear HO_5; clear HB; clear HO219; have HO_5 := n0_; have HB := n1_; clear n0_ n1_; clear hg hw hp_)); try go_wp2_with (first | ((with_reducible refine gate_dst (N := 24) rfl ?_); (try (refine gate_guard (by rfl) ?_; dsimp only)); refine Kd.R_make (Kd.int .i64) _ 3 rfl (N := 24) rfl 35 _ _ rfl ji9 rfl rfl Try.underlying35 (.int .i64 0) 8 info3 rfl (by decide) (by omega) 0 (ok := fun _ => True) (okp := fun _ => True) rfl (fun _ hk => hk) trivial (of_decide_eq_true (by first | (with_reducible assumption) | assumption)) (Nat.le_trans (Nat.mul_le_mul_right _ (of_decide_eq_true (by first | (with_reducible assumption) | assumption) : ji9.toNat ≤ 35184372088832)) (by omega)) (Below.refl _ _) (Nat.le_refl _) ?_; intro v218 w15 ho16 hb hg_ hnew_; clear hg_ hnew_; (first | rw [← Ny217.out] at ho16 | (simp only [Int.reduceToNat] at ho16; rw [← Ny217.out] at ho16)); have n0_ := Aside0.mk (Kd.S_elder' (by (with_reducible repeat (first | apply Kd.S_alloc | apply Kd.S_drewN | apply Kd.S_drew)); exact HO_5.out) (Kd.R_base ho16) hb); have n1_ := Aside0.mk (Kd.R_lower ho16 (below_size (by repeat (first | (with_reducible first | exact HB.out | apply below_alloc | apply pw_below_drewN | apply below_drew1) | exact HB.out)))); have n2_ := Aside0.mk (below_step (by repeat (first | (with_reducible first | exact HB.out | apply below_alloc | apply pw_below_drewN | apply below_drew1) | exact HB.out)) hb); clear HO_5; clear HB; have HO_5 := n0_; have HO219 := n1_; have HB := n2_; clear n0_ n1_ n2_; clear hb ho16; have p14 : 0 ≤ (x6_1 : Int) := of_decide_eq_true (by first | (with_reducible assumption) | assumption); have q14 : (x6_1 : Int) < ((x5_1.length : Int) : Int) := of_decide_eq_true (by first | (with_reducible assumption) | assumption); obtain ⟨go14, co14, eo14, gb14, gl14, cl14, HG14⟩ := Kd.S_form HO_5.out (by omega); (first | cases eo14 | (injection eo14 with ea_ en_ ec_; (first | subst ea_ | (injection ea_ with ea_; subst ea_)); subst ec_; clear en_)); have GB14 := Aside0.mk gb14; have GG14 := Aside0.mk HG14; clear gb14 gl14 HG14; obtain ⟨_, ce14, hcl14, hM14, hcc14, hfr14, _, _⟩ := Kd.S_elem HO_5.out [] (x6_1 : Int) p14 q14; obtain ⟨ve14_0, rfl, ge14_0⟩ := hM14; have hx14_0 := hcc14 0 _ rfl; have hf14_0 := hfr14 0; (try simp only [show ((Kd.slice 3 (Kd.int .i64))).sz = 1 from rfl, Nat.mul_one, Nat.add_zero] at hx14_0); (try simp only [show ((Kd.slice 3 (Kd.int .i64))).sz = 1 from rfl, Nat.mul_one, Nat.add_zero] at hf14_0); (try clear hcl14); (try clear hcc14); (try clear hfr14); (try clear hM14); replace p14 := eq_true p14; replace q14 := eq_true q14; have n_ := Aside0.mk (Kd.S_mono (ok' := (fun k_ => some k_ ≠ (v218 : Value).ownBlock)) HO_5.out (fun k_ hk => hk.2)); clear HO_5; have HO_5 := n_; clear n_; have HX17 := Aside0.mk (show Kd.S (Kd.slice 3 (Kd.int .i64)) 35 w15 w.heap.size (fun k_ => ((fun _ => True)) k_ ∧ ¬ ((fun k_ => some k_ = (v218 : Value).ownBlock)) k_) (.slice (some ⟨go14, 0, none⟩) x5_1.length co14) x5_1 from (by (with_reducible repeat (first | apply Kd.S_alloc | apply Kd.S_drewN | apply Kd.S_drew)); exact Kd.S_mono HO_5.out (fun k_ hk => ⟨trivial, fun e_ => hk e_⟩))); obtain ⟨oki17, ce17, hcl17, hM17, hcc17, hfr17, hoki17, hH17⟩ := Kd.S_elem HX17.out [] (x6_1 : Int) (of_decide_eq_true (by first | (with_reducible assumption) | assumption)) (by have h_ : (x6_1 : Int) < ((x5_1.length : Int) : Int) := of_decide_eq_true (by first | (with_reducible assumption) | assumption); first | exact h_ | (have e_ := (Kd.S_reads' HO_5.out).1; omega) | simpa using h_); obtain ⟨ve17_0, rfl, ge17_0⟩ := hM17; have HP17 := Kd.S_seg hH17 (of_decide_eq_true (by first | (with_reducible assumption) | assumption)) (by have h_ : (x6_1 : Int) < ((x5_1.length : Int) : Int) := of_decide_eq_true (by first | (with_reducible assumption) | assumption); first | exact h_ | (have e_ := (Kd.S_reads' HO_5.out).1; omega) | simpa using h_) (seg := [v218]) (j := 0) (show 1 ≤ 1 from by decide) (x' := y217) (Kd.M_row (Kd.R_mono (Kd.R_tight rfl (Kd.R_mono (ok' := fun k_ => ((fun _ => True)) k_ ∧ k_ ≠ go14) (Kd.R_apart' (HO219.out) (Kd.S_typed HO_5.out) (by decide)) (fun k_ hk => ⟨trivial, fun e_ => (hk.2) (by rw [e_]; rfl)⟩))) (fun _ h_ => Or.inr (h_)))) (fun _ hk => hk) (fun k_ hk_ => ((Kd.R_mono (ok' := fun k_ => ((fun _ => True)) k_ ∧ k_ ≠ go14) (Kd.R_apart' (HO219.out) (Kd.S_typed HO_5.out) (by decide)) (fun k_ hk => ⟨trivial, fun e_ => (hk.2) (by rw [e_]; rfl)⟩))).1 k_ hk_.symm); have hx17_0 := hcc17 0 _ rfl; (try simp only [show ((Kd.slice 3 (Kd.int .i64))).sz = 1 from rfl, Nat.mul_one, Nat.add_zero] at hx17_0); have hf17_0 := hfr17 0; (try simp only [show ((Kd.slice 3 (Kd.int .i64))).sz = 1 from rfl, Nat.mul_one, Nat.add_zero] at hf17_0); (try clear hcl17); (try clear hcc17); (try clear hfr17); (try clear hM17); (try clear hoki17); (try clear hH17); (try simp only [show ((Kd.slice 3 (Kd.int .i64))).sz = 1 from rfl, Nat.mul_one, Nat.add_zero] at HP17)) | ((with_reducible refine gate_store (t := 35) (p := 25) rfl ?_); (try (rw [drewN_self w15]; generalize hq_ : World.drewN w15 _ = w15; (try (replace hx14_0 := cell_at hq_ hx14_0)); (try (replace hx17_0 := cell_at hq_ hx17_0)); (try (replace hf14_0 := frozen_at hq_ hf14_0)); (try (replace hf17_0 := frozen_at hq_ hf17_0)); have n0_ := Aside0.mk (Kd.S_at hq_ HO_5.out); have n1_ := Aside0.mk (below_at hq_ HB.out); clear hq_ HO_5 HB; have HO_5 := n0_; have HB := n1_; clear n0_ n1_; (try (have n_ := Aside0.mk (Kd.S_mono (ok' := (fun k_ => some k_ ≠ (v218 : Value).ownBlock)) HO_5.out (fun k_ hk => hk.2)); clear HO_5; have HO_5 := n_; clear n_)); (try (have HX17 := Aside0.mk (show Kd.S (Kd.slice 3 (Kd.int .i64)) 35 w15 w.heap.size (fun k_ => ((fun _ => True)) k_ ∧ ¬ ((fun k_ => some k_ = (v218 : Value).ownBlock)) k_) (.slice (some ⟨go14, 0, none⟩) x5_1.length co14) x5_1 from (by (with_reducible repeat (first | apply Kd.S_alloc | apply Kd.S_drewN | apply Kd.S_drew)); exact Kd.S_mono HO_5.out (fun k_ hk => ⟨trivial, fun e_ => hk e_⟩))))); (try (obtain ⟨oki17, ce17, hcl17, hM17, hcc17, hfr17, hoki17, hH17⟩ := Kd.S_elem HX17.out [] (x6_1 : Int) (of_decide_eq_true (by first | (with_reducible assumption) | assumption)) (by have h_ : (x6_1 : Int) < ((x5_1.length : Int) : Int) := of_decide_eq_true (by first | (with_reducible assumption) | assumption); first | exact h_ | (have e_ := (Kd.S_reads' HO_5.out).1; omega) | simpa using h_))); (try (obtain ⟨ve17_0, rfl, ge17_0⟩ := hM17)); (try (have HP17 := Kd.S_seg hH17 (of_decide_eq_true (by first | (with_reducible assumption) | assumption)) (by have h_ : (x6_1 : Int) < ((x5_1.length : Int) : Int) := of_decide_eq_true (by first | (with_reducible assumption) | assumption); first | exact h_ | (have e_ := (Kd.S_reads' HO_5.out).1; omega) | simpa using h_) (seg := [v218]) (j := 0) (show 1 ≤ 1 from by decide) (x' := y217) (Kd.M_row (Kd.R_mono (Kd.R_tight rfl (Kd.R_mono (ok' := fun k_ => ((fun _ => True)) k_ ∧ k_ ≠ go14) (Kd.R_apart' (HO219.out) (Kd.S_typed HO_5.out) (by decide)) (fun k_ hk => ⟨trivial, fun e_ => (hk.2) (by rw [e_]; rfl)⟩))) (fun _ h_ => Or.inr (h_)))) (fun _ hk => hk) (fun k_ hk_ => ((Kd.R_mono (ok' := fun k_ => ((fun _ => True)) k_ ∧ k_ ≠ go14) (Kd.R_apart' (HO219.out) (Kd.S_typed HO_5.out) (by decide)) (fun k_ hk => ⟨trivial, fun e_ => (hk.2) (by rw [e_]; rfl)⟩))).1 k_ hk_.symm))); (try (have hx17_0 := hcc17 0 _ rfl)); (try (try simp only [show ((Kd.slice 3 (Kd.int .i64))).sz = 1 from rfl, Nat.mul_one, Nat.add_zero] at hx17_0)); (try (have hf17_0 := hfr17 0)); (try (try simp only [show ((Kd.slice 3 (Kd.int .i64))).sz = 1 from rfl, Nat.mul_one, Nat.add_zero] at hf17_0)); (try (clear hcl17 hcc17 hfr17 hM17 hoki17 hH17)); (try (try simp only [show ((Kd.slice 3 (Kd.int .i64))).sz = 1 from rfl, Nat.mul_one, Nat.add_zero] at HP17)))); refine store_event (t := 35) (p := 25) (v := ?vo_w18) (w1 := (w15.setCell ⟨go14, (x6_1 : Int).toNat, none⟩ (v218))) ?hg ?ho ?hn ?hr ?_; (case ho => rfl); (case hg => rfl); (case hn => rfl); (case hr => first | (go_simp; done) | (go_simp; rfl) | (obtain ⟨_, _, e_, _⟩ := Kd.R_reads (Aside0.out ‹Aside0 (Kd.R _ _ _ _ _ v218 _)›); go_simp; done) | (obtain ⟨_, _, e_, _⟩ := Kd.R_reads (Aside0.out ‹Aside0 (Kd.R _ _ _ _ _ v218 _)›); go_simp; rfl) | (obtain ⟨_, _, e_, _⟩ := Kd.R_reads (Kd.S_R (Aside0.out ‹Aside0 (Kd.S _ _ _ _ _ v218 _)›)); go_simp; done) | (obtain ⟨_, _, e_, _⟩ := Kd.R_reads (Kd.S_R (Aside0.out ‹Aside0 (Kd.S _ _ _ _ _ v218 _)›)); go_simp; rfl) | (obtain ⟨_, _, e_, _⟩ := Kd.N_reads (Aside0.out ‹Aside0 (Kd.N _ _ _ _ _ v218 _)›); go_simp; done) | (obtain ⟨_, _, e_, _⟩ := Kd.N_reads (Aside0.out ‹Aside0 (Kd.N _ _ _ _ _ v218 _)›); go_simp; rfl) | (obtain ⟨_, _, e_, _⟩ := Kd.Q_reads (Aside0.out ‹Aside0 (Kd.Q _ _ _ _ _ v218 _)›); go_simp; done) | (obtain ⟨_, _, e_, _⟩ := Kd.Q_reads (Aside0.out ‹Aside0 (Kd.Q _ _ _ _ _ v218 _)›); go_simp; rfl)); intro w18 hw; have hg : w15.grownBy w18 (some go14) := (by rw [hw]; exact HP17.2); have hp_ : Kd.S (Kd.slice 3 (Kd.int .i64)) 35 w18 w.heap.size (fun _ => True) (.slice (some ⟨go14, 0, none⟩) x5_1.length co14) y220 := (by rw [hw, Ny220.out]; exact HP17.1); clear HP17; have n0_ := Aside0.mk (hp_); have n1_ := Aside0.mk ((by rw [hw]; exact below_set (HB.out) GB14.out : Below w.heap.size w w18)); clear HO_5; clear HB; clear HO219; have HO_5 := n0_; have HB := n1_; clear n0_ n1_; clear hg hw hp_)))
            go_loopg [7] k1 (fun kq v7 w' => ∃ (x5_2 : List (List Int)) (x7_2 : Int), v7 = .int .i64 x7_2 ∧ Aside0 (spec_l04Table.l1 kq l0 l1 x5_2 x6_1 x7_2 = some r) ∧ Aside0 (kq ≤ k1) ∧ Aside0 (Kd.S (Kd.slice 3 (Kd.int .i64)) 35 w' w.heap.size (fun _ => True) (.slice (some ⟨go14, 0, none⟩) x5_1.length co14) x5_2) ∧ Aside0 (Below w.heap.size w w'))
            case atStart => exact ⟨(y220), (wrap64 ((l1.length : Int) - 1)), (by first | rfl | (simp; done) | (simp [*]; done)), H', ⟨Nat.le_refl _⟩, ⟨by (with_reducible repeat (first | apply Kd.S_alloc | apply Kd.S_drewN | apply Kd.S_drew)); exact HO_5.out⟩, ⟨by repeat (first | (with_reducible first | exact HB.out | apply below_alloc | apply pw_below_drewN | apply below_drew1) | exact HB.out)⟩⟩
            case round =>
             clear H'
             try clear c1
             try clear p1
             try clear q1
             try clear hx1
             try clear p2
             try clear c4
             try clear c4b0
             try clear c4b1
             try clear c5
             try clear c5b0
             try clear c5b1
             try clear p6
             try clear c8
             try clear c8b0
             try clear c10
             try clear c10b0
             try clear c10b1
             try clear c11
             try clear c11b0
             try clear c11b1
             try clear c12
             try clear c12b0
             try clear c13
             try clear c13b0
             try clear c14
             try clear p14
             try clear q14
             try clear hx14
             try clear hf14
             try clear c17
             try clear hx17
             try clear hf17
             try clear hx14_0
             try clear hx17_0
             try clear p14
             try clear p2
             try clear p6
             try clear q14
             obtain ⟨x5_2, x7_2, rfl, HA, HK2, HO_5, HB⟩ := hrel
             have hl5_2 := (Kd.S_reads' HO_5.out).1
             rw [hl5_2] at HO_5
             (try simp only [hl5_2])
             cases gk with
             | zero => exact absurd HA.out (by simp [spec_l04Table.l1])
             | succ k2 =>
              have H := HA.out
              clear HA
              simp only [spec_l04Table.l1] at H
              have HC19 := Aside0.mk H
              clear H
              go_upto_region 7 with (fail)
              repeat (go_quiet (fail); go_upto_region 7 with (fail))
              go_cut [36] (fun v36 wc => ∃ (kq : Nat) (x36_18 : Bool), v36 = .bool x36_18 ∧ Aside0 (spec_l04Table.j2 kq l0 l1 x5_2 x6_1 x7_2 x36_18 = some r) ∧ Aside0 (kq ≤ k2) ∧ Aside0 (Kd.S (Kd.slice 3 (Kd.int .i64)) 35 wc w.heap.size (fun _ => True) (.slice (some ⟨go14, 0, none⟩) x5_2.length co14) x5_2) ∧ Aside0 (Below w.heap.size w wc))
              case first =>
               have H := HC19.out
               clear HC19
               by_cases c20 : x7_2 ≥ 0
               ·rw [if_pos c20] at H
                have c20b0 : decide (0 ≤ x7_2) = true := decide_eq_true c20
                clear c20
                (first | rw [c20b0] | (simp only [i64_w, i32_w]; rw [c20b0]) | skip)
                have H' := Aside0.mk H
                clear H
                go_wp2
                repeat (go_quiet (fail); try go_wp2)
                go_meet
                case rel => exact ⟨_, (decide (x6_1 < (l0.length : Int))), (by first | rfl | (simp; done) | (simp [*]; done)), H', ⟨by have := HK1.out; have := HK2.out; first | omega | exact Nat.le_refl _⟩, ⟨by (try simp only [hl5_2]); (with_reducible repeat (first | apply Kd.S_alloc | apply Kd.S_drewN | apply Kd.S_drew)); exact HO_5.out⟩, ⟨by repeat (first | (with_reducible first | exact HB.out | apply below_alloc | apply pw_below_drewN | apply below_drew1) | exact HB.out)⟩⟩
               ·rw [if_neg c20] at H
                have c20b0 : decide (0 ≤ x7_2) = false := decide_eq_false c20
                clear c20
                (first | rw [c20b0] | (simp only [i64_w, i32_w]; rw [c20b0]) | skip)
                have H' := Aside0.mk H
                clear H
                go_wp2
                repeat (go_quiet (fail); try go_wp2)
                go_meet
                case rel => exact ⟨_, (false), (by first | rfl | (simp; done) | (simp [*]; done)), H', ⟨by have := HK1.out; have := HK2.out; first | omega | exact Nat.le_refl _⟩, ⟨by (try simp only [hl5_2]); (with_reducible repeat (first | apply Kd.S_alloc | apply Kd.S_drewN | apply Kd.S_drew)); exact HO_5.out⟩, ⟨by repeat (first | (with_reducible first | exact HB.out | apply below_alloc | apply pw_below_drewN | apply below_drew1) | exact HB.out)⟩⟩
              case rest =>
               clear HC19
               try clear c1
               try clear p1
               try clear q1
               try clear hx1
               try clear c2
               try clear p2
               try clear c4
               try clear c4b0
               try clear c4b1
               try clear c5
               try clear c5b0
               try clear c5b1
               try clear p6
               try clear c8
               try clear c8b0
               try clear c10
               try clear c10b0
               try clear c10b1
               try clear c11
               try clear c11b0
               try clear c11b1
               try clear c12
               try clear c12b0
               try clear c13
               try clear c13b0
               try clear c14
               try clear p14
               try clear q14
               try clear hx14
               try clear hf14
               try clear c17
               try clear hx17
               try clear hf17
               try clear c20
               try clear c20b0
               try clear hx14_0
               try clear hx17_0
               try clear p1
               try clear p14
               try clear p2
               try clear p6
               try clear q1
               try clear q14
               obtain ⟨kq, x36_18, rfl, HA, HJ18, HO_5, HB⟩ := hcut
               cases kq with
               | zero => exact absurd HA.out (by simp [spec_l04Table.j2])
               | succ kj18 =>
                have H := HA.out
                clear HA
                simp only [spec_l04Table.j2] at H
                by_cases c21 : x36_18 = true
                ·subst c21
                 have H1 : (if 0 ≤ (wrap64 (x6_1 + 1)) then (if (wrap64 (x6_1 + 1)) < (x5_2.length : Int) then (if 0 ≤ x7_2 then (if x7_2 < ((rd_L4 x5_2 (wrap64 (x6_1 + 1))).length : Int) then (if 0 ≤ x6_1 then (if x6_1 < (x5_2.length : Int) then (if 0 ≤ (wrap64 (x7_2 + 1)) then (if (wrap64 (x7_2 + 1)) < ((rd_L4 x5_2 x6_1).length : Int) then (if (rd (rd_L4 x5_2 x6_1) (wrap64 (x7_2 + 1))) > (rd (rd_L4 x5_2 (wrap64 (x6_1 + 1))) x7_2) then (if x6_1 < (l0.length : Int) then (if x7_2 < (l1.length : Int) then (if (rdOf ByteArray.empty l0 x6_1).toList = (rdOf ByteArray.empty l1 x7_2).toList then (if (wrap64 (x7_2 + 1)) < ((rd_L4 x5_2 (wrap64 (x6_1 + 1))).length : Int) then (if x7_2 < ((rd_L4 x5_2 x6_1).length : Int) then (spec_l04Table.l1 kj18 l0 l1 (x5_2.set (x6_1 : Int).toNat ((rd_L4 x5_2 x6_1).set (x7_2 : Int).toNat (wrap64 ((rd (rd_L4 x5_2 (wrap64 (x6_1 + 1))) (wrap64 (x7_2 + 1))) + 1)))) x6_1 (wrap64 (x7_2 - 1))) else (none)) else (none)) else (if x7_2 < ((rd_L4 x5_2 x6_1).length : Int) then (spec_l04Table.l1 kj18 l0 l1 (x5_2.set (x6_1 : Int).toNat ((rd_L4 x5_2 x6_1).set (x7_2 : Int).toNat (rd (rd_L4 x5_2 x6_1) (wrap64 (x7_2 + 1))))) x6_1 (wrap64 (x7_2 - 1))) else (none))) else (none)) else (none)) else (if x6_1 < (l0.length : Int) then (if x7_2 < (l1.length : Int) then (if (rdOf ByteArray.empty l0 x6_1).toList = (rdOf ByteArray.empty l1 x7_2).toList then (if (wrap64 (x7_2 + 1)) < ((rd_L4 x5_2 (wrap64 (x6_1 + 1))).length : Int) then (if x7_2 < ((rd_L4 x5_2 x6_1).length : Int) then (spec_l04Table.l1 kj18 l0 l1 (x5_2.set (x6_1 : Int).toNat ((rd_L4 x5_2 x6_1).set (x7_2 : Int).toNat (wrap64 ((rd (rd_L4 x5_2 (wrap64 (x6_1 + 1))) (wrap64 (x7_2 + 1))) + 1)))) x6_1 (wrap64 (x7_2 - 1))) else (none)) else (none)) else (if x7_2 < ((rd_L4 x5_2 x6_1).length : Int) then (spec_l04Table.l1 kj18 l0 l1 (x5_2.set (x6_1 : Int).toNat ((rd_L4 x5_2 x6_1).set (x7_2 : Int).toNat (rd (rd_L4 x5_2 (wrap64 (x6_1 + 1))) x7_2))) x6_1 (wrap64 (x7_2 - 1))) else (none))) else (none)) else (none))) else (none)) else (none)) else (none)) else (none)) else (none)) else (none)) else (none)) else (none)) = some r := by rw [if_pos rfl] at H; exact H
                 clear H
                 have H := H1
                 clear H1
                 obtain ⟨ji22, hji22⟩ : ∃ j_ : Int, (wrap64 (x6_1 + 1)) = j_ := ⟨_, rfl⟩
                 replace H : (if 0 ≤ (ji22) then (if (ji22) < (x5_2.length : Int) then (if 0 ≤ x7_2 then (if x7_2 < ((rd_L4 x5_2 (ji22)).length : Int) then (if 0 ≤ x6_1 then (if x6_1 < (x5_2.length : Int) then (if 0 ≤ (wrap64 (x7_2 + 1)) then (if (wrap64 (x7_2 + 1)) < ((rd_L4 x5_2 x6_1).length : Int) then (if (rd (rd_L4 x5_2 x6_1) (wrap64 (x7_2 + 1))) > (rd (rd_L4 x5_2 (ji22)) x7_2) then (if x6_1 < (l0.length : Int) then (if x7_2 < (l1.length : Int) then (if (rdOf ByteArray.empty l0 x6_1).toList = (rdOf ByteArray.empty l1 x7_2).toList then (if (wrap64 (x7_2 + 1)) < ((rd_L4 x5_2 (ji22)).length : Int) then (if x7_2 < ((rd_L4 x5_2 x6_1).length : Int) then (spec_l04Table.l1 kj18 l0 l1 (x5_2.set (x6_1 : Int).toNat ((rd_L4 x5_2 x6_1).set (x7_2 : Int).toNat (wrap64 ((rd (rd_L4 x5_2 (ji22)) (wrap64 (x7_2 + 1))) + 1)))) x6_1 (wrap64 (x7_2 - 1))) else (none)) else (none)) else (if x7_2 < ((rd_L4 x5_2 x6_1).length : Int) then (spec_l04Table.l1 kj18 l0 l1 (x5_2.set (x6_1 : Int).toNat ((rd_L4 x5_2 x6_1).set (x7_2 : Int).toNat (rd (rd_L4 x5_2 x6_1) (wrap64 (x7_2 + 1))))) x6_1 (wrap64 (x7_2 - 1))) else (none))) else (none)) else (none)) else (if x6_1 < (l0.length : Int) then (if x7_2 < (l1.length : Int) then (if (rdOf ByteArray.empty l0 x6_1).toList = (rdOf ByteArray.empty l1 x7_2).toList then (if (wrap64 (x7_2 + 1)) < ((rd_L4 x5_2 (ji22)).length : Int) then (if x7_2 < ((rd_L4 x5_2 x6_1).length : Int) then (spec_l04Table.l1 kj18 l0 l1 (x5_2.set (x6_1 : Int).toNat ((rd_L4 x5_2 x6_1).set (x7_2 : Int).toNat (wrap64 ((rd (rd_L4 x5_2 (ji22)) (wrap64 (x7_2 + 1))) + 1)))) x6_1 (wrap64 (x7_2 - 1))) else (none)) else (none)) else (if x7_2 < ((rd_L4 x5_2 x6_1).length : Int) then (spec_l04Table.l1 kj18 l0 l1 (x5_2.set (x6_1 : Int).toNat ((rd_L4 x5_2 x6_1).set (x7_2 : Int).toNat (rd (rd_L4 x5_2 (ji22)) x7_2))) x6_1 (wrap64 (x7_2 - 1))) else (none))) else (none)) else (none))) else (none)) else (none)) else (none)) else (none)) else (none)) else (none)) else (none)) else (none)) = some r := by first | (rw [hji22] at H; exact H) | (simp only [hji22] at H ⊢; exact H)
                 have hji22w : (IntKind.i64.wrap (x6_1 + 1)) = ji22 := (i64_w _).trans hji22
                 by_cases c23 : 0 ≤ (ji22)
                 ·rw [if_pos c23] at H
                  have c23b0 : decide (0 ≤ (ji22)) = true := decide_eq_true c23
                  clear c23
                  by_cases c24 : (ji22) < (x5_2.length : Int)
                  ·rw [if_pos c24] at H
                   have c24b0 : decide ((ji22) < (x5_2.length : Int)) = true := decide_eq_true c24
                   clear c24
                   by_cases c25 : 0 ≤ x7_2
                   ·rw [if_pos c25] at H
                    have c25b0 : decide (0 ≤ x7_2) = true := decide_eq_true c25
                    clear c25
                    by_cases c26 : x7_2 < ((rd_L4 x5_2 (ji22)).length : Int)
                    ·rw [if_pos c26] at H
                     have c26b0 : decide (x7_2 < ((rd_L4 x5_2 (ji22)).length : Int)) = true := decide_eq_true c26
                     clear c26
                     by_cases c27 : 0 ≤ x6_1
                     ·rw [if_pos c27] at H
                      have c27b0 : decide (0 ≤ x6_1) = true := decide_eq_true c27
                      clear c27
                      by_cases c28 : x6_1 < (x5_2.length : Int)
                      ·rw [if_pos c28] at H
                       have c28b0 : decide (x6_1 < (x5_2.length : Int)) = true := decide_eq_true c28
                       clear c28
                       obtain ⟨ji29, hji29⟩ : ∃ j_ : Int, (wrap64 (x7_2 + 1)) = j_ := ⟨_, rfl⟩
                       replace H : (if 0 ≤ (ji29) then (if (ji29) < ((rd_L4 x5_2 x6_1).length : Int) then (if (rd (rd_L4 x5_2 x6_1) (ji29)) > (rd (rd_L4 x5_2 (ji22)) x7_2) then (if x6_1 < (l0.length : Int) then (if x7_2 < (l1.length : Int) then (if (rdOf ByteArray.empty l0 x6_1).toList = (rdOf ByteArray.empty l1 x7_2).toList then (if (ji29) < ((rd_L4 x5_2 (ji22)).length : Int) then (if x7_2 < ((rd_L4 x5_2 x6_1).length : Int) then (spec_l04Table.l1 kj18 l0 l1 (x5_2.set (x6_1 : Int).toNat ((rd_L4 x5_2 x6_1).set (x7_2 : Int).toNat (wrap64 ((rd (rd_L4 x5_2 (ji22)) (ji29)) + 1)))) x6_1 (wrap64 (x7_2 - 1))) else (none)) else (none)) else (if x7_2 < ((rd_L4 x5_2 x6_1).length : Int) then (spec_l04Table.l1 kj18 l0 l1 (x5_2.set (x6_1 : Int).toNat ((rd_L4 x5_2 x6_1).set (x7_2 : Int).toNat (rd (rd_L4 x5_2 x6_1) (ji29)))) x6_1 (wrap64 (x7_2 - 1))) else (none))) else (none)) else (none)) else (if x6_1 < (l0.length : Int) then (if x7_2 < (l1.length : Int) then (if (rdOf ByteArray.empty l0 x6_1).toList = (rdOf ByteArray.empty l1 x7_2).toList then (if (ji29) < ((rd_L4 x5_2 (ji22)).length : Int) then (if x7_2 < ((rd_L4 x5_2 x6_1).length : Int) then (spec_l04Table.l1 kj18 l0 l1 (x5_2.set (x6_1 : Int).toNat ((rd_L4 x5_2 x6_1).set (x7_2 : Int).toNat (wrap64 ((rd (rd_L4 x5_2 (ji22)) (ji29)) + 1)))) x6_1 (wrap64 (x7_2 - 1))) else (none)) else (none)) else (if x7_2 < ((rd_L4 x5_2 x6_1).length : Int) then (spec_l04Table.l1 kj18 l0 l1 (x5_2.set (x6_1 : Int).toNat ((rd_L4 x5_2 x6_1).set (x7_2 : Int).toNat (rd (rd_L4 x5_2 (ji22)) x7_2))) x6_1 (wrap64 (x7_2 - 1))) else (none))) else (none)) else (none))) else (none)) else (none)) = some r := by first | (rw [hji29] at H; exact H) | (simp only [hji29] at H ⊢; exact H)
                       have hji29w : (IntKind.i64.wrap (x7_2 + 1)) = ji29 := (i64_w _).trans hji29
                       by_cases c30 : 0 ≤ (ji29)
                       ·rw [if_pos c30] at H
                        have c30b0 : decide (0 ≤ (ji29)) = true := decide_eq_true c30
                        clear c30
                        by_cases c31 : (ji29) < ((rd_L4 x5_2 x6_1).length : Int)
                        ·rw [if_pos c31] at H
                         have c31b0 : decide ((ji29) < ((rd_L4 x5_2 x6_1).length : Int)) = true := decide_eq_true c31
                         clear c31
                         by_cases c32 : (rd (rd_L4 x5_2 x6_1) (ji29)) > (rd (rd_L4 x5_2 (ji22)) x7_2)
                         ·rw [if_pos c32] at H
                          have c32b0 : decide ((rd (rd_L4 x5_2 (ji22)) x7_2) < (rd (rd_L4 x5_2 x6_1) (ji29))) = true := decide_eq_true c32
                          clear c32
                          by_cases c33 : x6_1 < (l0.length : Int)
                          ·rw [if_pos c33] at H
                           have c33b0 : decide (x6_1 < (l0.length : Int)) = true := decide_eq_true c33
                           clear c33
                           by_cases c34 : x7_2 < (l1.length : Int)
                           ·rw [if_pos c34] at H
                            have c34b0 : decide (x7_2 < (l1.length : Int)) = true := decide_eq_true c34
                            clear c34
                            by_cases c35 : (rdOf ByteArray.empty l0 x6_1).toList = (rdOf ByteArray.empty l1 x7_2).toList
                            ·rw [if_pos c35] at H
                             have c35b0 : ((rdOf ByteArray.empty l0 x6_1).toList == (rdOf ByteArray.empty l1 x7_2).toList) = true := beq_iff_eq.mpr c35
                             have c35b1 : ((rdOf ByteArray.empty l0 x6_1).toList != (rdOf ByteArray.empty l1 x7_2).toList) = false := bne_eq_false_iff_eq.mpr c35
                             clear c35
                             by_cases c36 : (ji29) < ((rd_L4 x5_2 (ji22)).length : Int)
                             ·rw [if_pos c36] at H
                              have c36b0 : decide ((ji29) < ((rd_L4 x5_2 (ji22)).length : Int)) = true := decide_eq_true c36
                              clear c36
                              by_cases c37 : x7_2 < ((rd_L4 x5_2 x6_1).length : Int)
                              ·rw [if_pos c37] at H
                               have c37b0 : decide (x7_2 < ((rd_L4 x5_2 x6_1).length : Int)) = true := decide_eq_true c37
                               clear c37
                               obtain ⟨y232, hy232⟩ : ∃ y_ : List Int, y_ = ((rd_L4 x5_2 x6_1).set (x7_2 : Int).toNat (wrap64 ((rd (rd_L4 x5_2 (ji22)) (ji29)) + 1))) := ⟨_, rfl⟩
                               replace H : (spec_l04Table.l1 kj18 l0 l1 (x5_2.set (x6_1 : Int).toNat y232) x6_1 (wrap64 (x7_2 - 1))) = some r := by first | (rw [hy232]; with_reducible exact H) | (have H2_ := (Option.bind_some _ _).symm.trans H; rw [hy232]; with_reducible exact H2_) | (have H2_ := (Option.bind_some _ _).symm.trans H; with_reducible exact H2_) | with_reducible exact H | (rw [hy232]; exact H) | exact H
                               have Ny232 := Aside0.mk hy232
                               clear hy232
                               obtain ⟨y234, hy234⟩ : ∃ y_ : List (List Int), y_ = (x5_2.set (x6_1 : Int).toNat y232) := ⟨_, rfl⟩
                               replace H : (spec_l04Table.l1 kj18 l0 l1 y234 x6_1 (wrap64 (x7_2 - 1))) = some r := by first | (rw [hy234]; with_reducible exact H) | (have H2_ := (Option.bind_some _ _).symm.trans H; rw [hy234]; with_reducible exact H2_) | (have H2_ := (Option.bind_some _ _).symm.trans H; with_reducible exact H2_) | with_reducible exact H | (rw [hy234]; exact H) | exact H
                               have Ny234 := Aside0.mk hy234
                               clear hy234
                               have H' := Aside0.mk H
                               clear H
                               have p221 : 0 ≤ ((ji22) : Int) := of_decide_eq_true (by first | (with_reducible assumption) | assumption)
                               have q221 : (ji22) < (x5_2.length : Int) := of_decide_eq_true (by first | (with_reducible assumption) | assumption)
                               obtain ⟨ad221, A221_0, c221_0, e221, hx221_0, hl221_0, hi221_0⟩ := at_L4 (Kd.S_reads' HO_5.out).2.2 (ji22) p221 q221
                               obtain rfl : (⟨go14, 0, none⟩ : Addr) = ad221 := (by injection e221)
                               obtain ⟨ce221, hce221, hMe221, hcc221⟩ := Kd.S_get HO_5.out [] (ji22) p221 (by first | exact q221 | exact of_decide_eq_true (by first | (with_reducible assumption) | assumption) | (have e_ := (Kd.S_reads' HO_5.out).1; omega))
                               obtain ⟨ve221_0, rfl, ge221_0⟩ := hMe221
                               have hv221_0 := hcc221 0 _ rfl
                               rw [Nat.add_zero, show ((Kd.slice 3 (Kd.int .i64))).sz = 1 from rfl, Nat.mul_one] at hv221_0
                               replace hv221_0 := Option.some.inj (hv221_0.symm.trans hx221_0)
                               rw [hv221_0] at ge221_0
                               have HL221_0 := Aside0.mk (show Kd.R (Kd.int .i64) 3 _ _ _ _ (rd_L4 x5_2 (ji22)) from ge221_0)
                               clear hv221_0 ge221_0
                               have HX221_0 := Aside0.mk hx221_0
                               clear hcc221 hce221
                               (first | simp only [add_plain] at hx221_0 | simp only [add_at] at hx221_0 | simp only [Addr.add, Nat.zero_add] at hx221_0 | skip)
                               have HR221_0 := Aside0.mk hi221_0
                               have HC221_0 := Aside0.mk hl221_0
                               clear hi221_0 hl221_0
                               replace p221 := eq_true p221
                               replace q221 := eq_true q221
                               have p222 : 0 ≤ (x7_2 : Int) := of_decide_eq_true (by first | (with_reducible assumption) | assumption)
                               have q222 : x7_2 < ((rd_L4 x5_2 (ji22)).length : Int) := of_decide_eq_true (by first | (with_reducible assumption) | assumption)
                               obtain ⟨ad222, e222, hx222_0⟩ := Kd.at_int (by repeat (first | (with_reducible exact HR221_0.out) | (with_reducible refine Kd.C_alloc ?_ _) | (with_reducible refine Kd.C_drewN ?_ _) | (with_reducible refine Kd.C_drew ?_) | exact HR221_0.out)) x7_2 p222 q222
                               cases e222
                               replace p222 := eq_true p222
                               replace q222 := eq_true q222
                               have p223 : 0 ≤ (x6_1 : Int) := of_decide_eq_true (by first | (with_reducible assumption) | assumption)
                               have q223 : x6_1 < (x5_2.length : Int) := of_decide_eq_true (by first | (with_reducible assumption) | assumption)
                               obtain ⟨ad223, A223_0, c223_0, e223, hx223_0, hl223_0, hi223_0⟩ := at_L4 (Kd.S_reads' HO_5.out).2.2 x6_1 p223 q223
                               obtain rfl : (⟨go14, 0, none⟩ : Addr) = ad223 := (by injection e223)
                               obtain ⟨ce223, hce223, hMe223, hcc223⟩ := Kd.S_get HO_5.out [] x6_1 p223 (by first | exact q223 | exact of_decide_eq_true (by first | (with_reducible assumption) | assumption) | (have e_ := (Kd.S_reads' HO_5.out).1; omega))
                               obtain ⟨ve223_0, rfl, ge223_0⟩ := hMe223
                               have hv223_0 := hcc223 0 _ rfl
                               rw [Nat.add_zero, show ((Kd.slice 3 (Kd.int .i64))).sz = 1 from rfl, Nat.mul_one] at hv223_0
                               replace hv223_0 := Option.some.inj (hv223_0.symm.trans hx223_0)
                               rw [hv223_0] at ge223_0
                               have HL223_0 := Aside0.mk (show Kd.R (Kd.int .i64) 3 _ _ _ _ (rd_L4 x5_2 x6_1) from ge223_0)
                               clear hv223_0 ge223_0
                               have HX223_0 := Aside0.mk hx223_0
                               clear hcc223 hce223
                               (first | simp only [add_plain] at hx223_0 | simp only [add_at] at hx223_0 | simp only [Addr.add, Nat.zero_add] at hx223_0 | skip)
                               have HR223_0 := Aside0.mk hi223_0
                               have HC223_0 := Aside0.mk hl223_0
                               clear hi223_0 hl223_0
                               replace p223 := eq_true p223
                               replace q223 := eq_true q223
                               have p224 : 0 ≤ ((ji29) : Int) := of_decide_eq_true (by first | (with_reducible assumption) | assumption)
                               have q224 : (ji29) < ((rd_L4 x5_2 x6_1).length : Int) := of_decide_eq_true (by first | (with_reducible assumption) | assumption)
                               obtain ⟨ad224, e224, hx224_0⟩ := Kd.at_int (by repeat (first | (with_reducible exact HR223_0.out) | (with_reducible refine Kd.C_alloc ?_ _) | (with_reducible refine Kd.C_drewN ?_ _) | (with_reducible refine Kd.C_drew ?_) | exact HR223_0.out)) (ji29) p224 q224
                               cases e224
                               replace p224 := eq_true p224
                               replace q224 := eq_true q224
                               have p225 : 0 ≤ (x6_1 : Int) := of_decide_eq_true (by first | (with_reducible assumption) | assumption)
                               have q225 : x6_1 < (x5_2.length : Int) := of_decide_eq_true (by first | (with_reducible assumption) | assumption)
                               obtain ⟨ad225, A225_0, c225_0, e225, hx225_0, hl225_0, hi225_0⟩ := at_L4 (Kd.S_reads' HO_5.out).2.2 x6_1 p225 q225
                               obtain rfl : (⟨go14, 0, none⟩ : Addr) = ad225 := (by injection e225)
                               obtain ⟨ce225, hce225, hMe225, hcc225⟩ := Kd.S_get HO_5.out [] x6_1 p225 (by first | exact q225 | exact of_decide_eq_true (by first | (with_reducible assumption) | assumption) | (have e_ := (Kd.S_reads' HO_5.out).1; omega))
                               obtain ⟨ve225_0, rfl, ge225_0⟩ := hMe225
                               have hv225_0 := hcc225 0 _ rfl
                               rw [Nat.add_zero, show ((Kd.slice 3 (Kd.int .i64))).sz = 1 from rfl, Nat.mul_one] at hv225_0
                               replace hv225_0 := Option.some.inj (hv225_0.symm.trans hx225_0)
                               rw [hv225_0] at ge225_0
                               have HL225_0 := Aside0.mk (show Kd.R (Kd.int .i64) 3 _ _ _ _ (rd_L4 x5_2 x6_1) from ge225_0)
                               clear hv225_0 ge225_0
                               have HX225_0 := Aside0.mk hx225_0
                               clear hcc225 hce225
                               (first | simp only [add_plain] at hx225_0 | simp only [add_at] at hx225_0 | simp only [Addr.add, Nat.zero_add] at hx225_0 | skip)
                               have HR225_0 := Aside0.mk hi225_0
                               have HC225_0 := Aside0.mk hl225_0
                               clear hi225_0 hl225_0
                               replace p225 := eq_true p225
                               replace q225 := eq_true q225
                               have ea_ := Option.some.inj (hx223_0.symm.trans hx225_0)
                               injection ea_ with ea_ en_ ec_
                               subst ea_
                               subst ec_
                               clear en_
                               have p226 : 0 ≤ ((ji29) : Int) := of_decide_eq_true (by first | (with_reducible assumption) | assumption)
                               have q226 : (ji29) < ((rd_L4 x5_2 x6_1).length : Int) := of_decide_eq_true (by first | (with_reducible assumption) | assumption)
                               obtain ⟨ad226, e226, hx226_0⟩ := Kd.at_int (by repeat (first | (with_reducible exact HR225_0.out) | (with_reducible refine Kd.C_alloc ?_ _) | (with_reducible refine Kd.C_drewN ?_ _) | (with_reducible refine Kd.C_drew ?_) | exact HR225_0.out)) (ji29) p226 q226
                               cases e226
                               replace p226 := eq_true p226
                               replace q226 := eq_true q226
                               have p227 : 0 ≤ (x6_1 : Int) := of_decide_eq_true (by first | (with_reducible assumption) | assumption)
                               have q227 : x6_1 < (l0.length : Int) := of_decide_eq_true (by first | (with_reducible assumption) | assumption)
                               obtain ⟨ad227, e227, hx227_0⟩ := Kd.at_string HR0.out x6_1 p227 q227
                               cases e227
                               replace hx227_0 := (HB.out.cell (World.block_lt_of_cell? w _ hx227_0)).trans hx227_0
                               replace p227 := eq_true p227
                               replace q227 := eq_true q227
                               have p228 : 0 ≤ (x7_2 : Int) := of_decide_eq_true (by first | (with_reducible assumption) | assumption)
                               have q228 : x7_2 < (l1.length : Int) := of_decide_eq_true (by first | (with_reducible assumption) | assumption)
                               obtain ⟨ad228, e228, hx228_0⟩ := Kd.at_string HR1.out x7_2 p228 q228
                               cases e228
                               replace hx228_0 := (HB.out.cell (World.block_lt_of_cell? w _ hx228_0)).trans hx228_0
                               replace p228 := eq_true p228
                               replace q228 := eq_true q228
                               have p229 : 0 ≤ ((ji22) : Int) := of_decide_eq_true (by first | (with_reducible assumption) | assumption)
                               have q229 : (ji22) < (x5_2.length : Int) := of_decide_eq_true (by first | (with_reducible assumption) | assumption)
                               obtain ⟨ad229, A229_0, c229_0, e229, hx229_0, hl229_0, hi229_0⟩ := at_L4 (Kd.S_reads' HO_5.out).2.2 (ji22) p229 q229
                               obtain rfl : (⟨go14, 0, none⟩ : Addr) = ad229 := (by injection e229)
                               obtain ⟨ce229, hce229, hMe229, hcc229⟩ := Kd.S_get HO_5.out [] (ji22) p229 (by first | exact q229 | exact of_decide_eq_true (by first | (with_reducible assumption) | assumption) | (have e_ := (Kd.S_reads' HO_5.out).1; omega))
                               obtain ⟨ve229_0, rfl, ge229_0⟩ := hMe229
                               have hv229_0 := hcc229 0 _ rfl
                               rw [Nat.add_zero, show ((Kd.slice 3 (Kd.int .i64))).sz = 1 from rfl, Nat.mul_one] at hv229_0
                               replace hv229_0 := Option.some.inj (hv229_0.symm.trans hx229_0)
                               rw [hv229_0] at ge229_0
                               have HL229_0 := Aside0.mk (show Kd.R (Kd.int .i64) 3 _ _ _ _ (rd_L4 x5_2 (ji22)) from ge229_0)
                               clear hv229_0 ge229_0
                               have HX229_0 := Aside0.mk hx229_0
                               clear hcc229 hce229
                               (first | simp only [add_plain] at hx229_0 | simp only [add_at] at hx229_0 | simp only [Addr.add, Nat.zero_add] at hx229_0 | skip)
                               have HR229_0 := Aside0.mk hi229_0
                               have HC229_0 := Aside0.mk hl229_0
                               clear hi229_0 hl229_0
                               replace p229 := eq_true p229
                               replace q229 := eq_true q229
                               have ea_ := Option.some.inj (hx221_0.symm.trans hx229_0)
                               injection ea_ with ea_ en_ ec_
                               subst ea_
                               subst ec_
                               clear en_
                               have p230 : 0 ≤ ((ji29) : Int) := of_decide_eq_true (by first | (with_reducible assumption) | assumption)
                               have q230 : (ji29) < ((rd_L4 x5_2 (ji22)).length : Int) := of_decide_eq_true (by first | (with_reducible assumption) | assumption)
                               obtain ⟨ad230, e230, hx230_0⟩ := Kd.at_int (by repeat (first | (with_reducible exact HR229_0.out) | (with_reducible refine Kd.C_alloc ?_ _) | (with_reducible refine Kd.C_drewN ?_ _) | (with_reducible refine Kd.C_drew ?_) | exact HR229_0.out)) (ji29) p230 q230
                               cases e230
                               replace p230 := eq_true p230
                               replace q230 := eq_true q230
                               have p231 : 0 ≤ (x6_1 : Int) := of_decide_eq_true (by first | (with_reducible assumption) | assumption)
                               have q231 : x6_1 < (x5_2.length : Int) := of_decide_eq_true (by first | (with_reducible assumption) | assumption)
                               obtain ⟨ad231, A231_0, c231_0, e231, hx231_0, hl231_0, hi231_0⟩ := at_L4 (Kd.S_reads' HO_5.out).2.2 x6_1 p231 q231
                               obtain rfl : (⟨go14, 0, none⟩ : Addr) = ad231 := (by injection e231)
                               obtain ⟨ce231, hce231, hMe231, hcc231⟩ := Kd.S_get HO_5.out [] x6_1 p231 (by first | exact q231 | exact of_decide_eq_true (by first | (with_reducible assumption) | assumption) | (have e_ := (Kd.S_reads' HO_5.out).1; omega))
                               obtain ⟨ve231_0, rfl, ge231_0⟩ := hMe231
                               have hv231_0 := hcc231 0 _ rfl
                               rw [Nat.add_zero, show ((Kd.slice 3 (Kd.int .i64))).sz = 1 from rfl, Nat.mul_one] at hv231_0
                               replace hv231_0 := Option.some.inj (hv231_0.symm.trans hx231_0)
                               rw [hv231_0] at ge231_0
                               have HL231_0 := Aside0.mk (show Kd.R (Kd.int .i64) 3 _ _ _ _ (rd_L4 x5_2 x6_1) from ge231_0)
                               clear hv231_0 ge231_0
                               have HX231_0 := Aside0.mk hx231_0
                               clear hcc231 hce231
                               (first | simp only [add_plain] at hx231_0 | simp only [add_at] at hx231_0 | simp only [Addr.add, Nat.zero_add] at hx231_0 | skip)
                               have HR231_0 := Aside0.mk hi231_0
                               have HC231_0 := Aside0.mk hl231_0
                               clear hi231_0 hl231_0
                               replace p231 := eq_true p231
                               replace q231 := eq_true q231
                               have ea_ := Option.some.inj (hx223_0.symm.trans hx231_0)
                               injection ea_ with ea_ en_ ec_
                               subst ea_
                               subst ec_
                               clear en_
                               have p38 : 0 ≤ (x7_2 : Int) := of_decide_eq_true (by first | (with_reducible assumption) | assumption)
                               have q38 : (x7_2 : Int) < (((rd_L4 x5_2 x6_1).length : Int) : Int) := of_decide_eq_true (by first | (with_reducible assumption) | assumption)
                               obtain ⟨go38, co38, eo38, gb38, gl38, cl38, HG38⟩ := Kd.R_form HL231_0.out (by omega)
                               (first | cases eo38 | (injection eo38 with ea_ en_ ec_; (first | subst ea_ | (injection ea_ with ea_; subst ea_)); subst ec_; clear en_))
                               have GB38 := Aside0.mk gb38
                               have GG38 := Aside0.mk HG38
                               clear gb38 gl38 HG38
                               (first | simp only [add_plain] at hx226_0 | skip)
                               obtain ⟨hx38_0, hf38_0⟩ := Kd.R_celln 0 HL231_0.out (x7_2 : Int) p38 q38
                               replace p38 := eq_true p38
                               replace q38 := eq_true q38
                               have hq39 : (x6_1 : Int) < (x5_2.length : Int) := (by have h_ : (x6_1 : Int) < ((x5_2.length : Int) : Int) := of_decide_eq_true (by first | (with_reducible assumption) | assumption); first | exact h_ | (have e_ := (Kd.S_reads' HO_5.out).1; omega) | simpa only [List.length_set, List.length_set] using h_)
                               obtain ⟨oki39, ce39, hcl39, hM39, hcc39, hok39, hbk39⟩ := Kd.S_borrow HO_5.out [] (x6_1 : Int) (of_decide_eq_true (by first | (with_reducible assumption) | assumption)) hq39
                               obtain ⟨ve39_0, rfl, ge39_0⟩ := hM39
                               have hv39 := hcc39 0 _ rfl
                               rw [Nat.add_zero, show ((Kd.slice 3 (Kd.int .i64))).sz = 1 from rfl, Nat.mul_one] at hv39
                               replace hv39 := Option.some.inj (hv39.symm.trans HX231_0.out)
                               subst hv39
                               clear hcc39 hcl39
                               replace ge39_0 := (show Kd.R (Kd.int .i64) 3 _ _ _ _ (rd_L4 x5_2 x6_1) from ge39_0)
                               have HP39 := Kd.R_putg ge39_0 (x7_2 : Int) (wrap64 ((rd (rd_L4 x5_2 (ji22)) (ji29)) + 1))
                               go_wp2_with (first | ((with_reducible refine gate_store (t := 3) (p := 90) rfl ?_); (try (rw [drewN_self wc]; generalize hq_ : World.drewN wc _ = wc; (try (replace hx221_0 := cell_at hq_ hx221_0)); (try (replace hx222_0 := cell_at hq_ hx222_0)); (try (replace hx223_0 := cell_at hq_ hx223_0)); (try (replace hx224_0 := cell_at hq_ hx224_0)); (try (replace hx225_0 := cell_at hq_ hx225_0)); (try (replace hx226_0 := cell_at hq_ hx226_0)); (try (replace hx227_0 := cell_at hq_ hx227_0)); (try (replace hx228_0 := cell_at hq_ hx228_0)); (try (replace hx229_0 := cell_at hq_ hx229_0)); (try (replace hx230_0 := cell_at hq_ hx230_0)); (try (replace hx231_0 := cell_at hq_ hx231_0)); (try (replace hx38_0 := cell_at hq_ hx38_0)); (try (replace hf38_0 := frozen_at hq_ hf38_0)); (try (replace HX221_0 := Aside0.mk (cell_at hq_ HX221_0.out))); (try (replace HX223_0 := Aside0.mk (cell_at hq_ HX223_0.out))); (try (replace HX225_0 := Aside0.mk (cell_at hq_ HX225_0.out))); (try (replace HX229_0 := Aside0.mk (cell_at hq_ HX229_0.out))); (try (replace HX231_0 := Aside0.mk (cell_at hq_ HX231_0.out))); have n0_ := Aside0.mk (Kd.S_at hq_ HO_5.out); (try have n1_ := Aside0.mk (Kd.R_at hq_ HL251.out)); have n2_ := Aside0.mk (below_at hq_ HB.out); (try clear HL251); clear hq_ HO_5 HB; have HO_5 := n0_; (try have HL251 := n1_); have HB := n2_; (try clear n1_); clear n0_ n2_; (try (have hq39 : (x6_1 : Int) < (x5_2.length : Int) := (by have h_ : (x6_1 : Int) < ((x5_2.length : Int) : Int) := of_decide_eq_true (by first | (with_reducible assumption) | assumption); first | exact h_ | (have e_ := (Kd.S_reads' HO_5.out).1; omega) | simpa only [List.length_set, List.length_set] using h_))); (try (obtain ⟨oki39, ce39, hcl39, hM39, hcc39, hok39, hbk39⟩ := Kd.S_borrow HO_5.out [] (x6_1 : Int) (of_decide_eq_true (by first | (with_reducible assumption) | assumption)) hq39)); (try (obtain ⟨ve39_0, rfl, ge39_0⟩ := hM39)); (try (have hv39 := hcc39 0 _ rfl)); (try (rw [Nat.add_zero, show ((Kd.slice 3 (Kd.int .i64))).sz = 1 from rfl, Nat.mul_one] at hv39)); (try (replace hv39 := Option.some.inj (hv39.symm.trans HX231_0.out))); (try (subst hv39)); (try (clear hcc39 hcl39)); (try (replace ge39_0 := (show Kd.R (Kd.int .i64) 3 _ _ _ _ (rd_L4 x5_2 x6_1) from ge39_0))); (try (have HP39 := Kd.R_putg ge39_0 (x7_2 : Int) (wrap64 ((rd (rd_L4 x5_2 (ji22)) (ji29)) + 1)))))); refine store_event (t := 3) (p := 90) (v := ?vo_w40) (w1 := (wc.setCell ⟨go38, (x7_2 : Int).toNat, none⟩ (.int .i64 (wrap64 ((rd (rd_L4 x5_2 (ji22)) (ji29)) + 1))))) ?hg ?ho ?hn ?hr ?_; (case ho => rfl); (case hg => rfl); (case hn => rfl); (case hr => first | (go_simp; done) | (go_simp; rfl)); intro w40 hw; have hg : wc.grownBy w40 (some go38) := (by rw [hw]; exact HP39.2); have hz_ : Kd.R (Kd.int .i64) 3 w40 w.heap.size oki39 (.slice (some ⟨go38, 0, none⟩) (rd_L4 x5_2 x6_1).length c223_0) y232 := (by rw [hw, Ny232.out]; exact HP39.1); have hp_ : Kd.S (Kd.slice 3 (Kd.int .i64)) 35 w40 w.heap.size (fun _ => True) (.slice (some ⟨go14, 0, none⟩) x5_2.length co14) y234 := (by rw [Ny234.out]; exact hbk39 hg (fun k_ e_ => by injection e_ with e_; subst e_; exact ge39_0.1 _ rfl) (Kd.M_row hz_)); have hm_ := Kd.R_mono hz_ hok39; clear HP39 hbk39; have n0_ := Aside0.mk (hp_); have n1_ := Aside0.mk ((by rw [hw]; exact below_set (HB.out) GB38.out : Below w.heap.size w w40)); have n2_ := Aside0.mk (hm_); have n3_ := Aside0.mk ((Kd.R_reads' hm_).2.1); clear HO_5; clear HB; clear HL221_0; clear HL223_0; clear HL225_0; clear HL229_0; clear HL231_0; have HO_5 := n0_; have HB := n1_; have HL251 := n2_; have HC233 := n3_; clear n0_ n1_ n2_ n3_; clear hg hw hp_ hz_ hm_ hok39))
                               repeat (go_quiet (first | ((with_reducible refine gate_store (t := 3) (p := 90) rfl ?_); (try (rw [drewN_self wc]; generalize hq_ : World.drewN wc _ = wc; (try (replace hx221_0 := cell_at hq_ hx221_0)); (try (replace hx222_0 := cell_at hq_ hx222_0)); (try (replace hx223_0 := cell_at hq_ hx223_0)); (try (replace hx224_0 := cell_at hq_ hx224_0)); (try (replace hx225_0 := cell_at hq_ hx225_0)); (try (replace hx226_0 := cell_at hq_ hx226_0)); (try (replace hx227_0 := cell_at hq_ hx227_0)); (try (replace hx228_0 := cell_at hq_ hx228_0)); (try (replace hx229_0 := cell_at hq_ hx229_0)); (try (replace hx230_0 := cell_at hq_ hx230_0)); (try (replace hx231_0 := cell_at hq_ hx231_0)); (try (replace hx38_0 := cell_at hq_ hx38_0)); (try (replace hf38_0 := frozen_at hq_ hf38_0)); (try (replace HX221_0 := Aside0.mk (cell_at hq_ HX221_0.out))); (try (replace HX223_0 := Aside0.mk (cell_at hq_ HX223_0.out))); (try (replace HX225_0 := Aside0.mk (cell_at hq_ HX225_0.out))); (try (replace HX229_0 := Aside0.mk (cell_at hq_ HX229_0.out))); (try (replace HX231_0 := Aside0.mk (cell_at hq_ HX231_0.out))); have n0_ := Aside0.mk (Kd.S_at hq_ HO_5.out); (try have n1_ := Aside0.mk (Kd.R_at hq_ HL251.out)); have n2_ := Aside0.mk (below_at hq_ HB.out); (try clear HL251); clear hq_ HO_5 HB; have HO_5 := n0_; (try have HL251 := n1_); have HB := n2_; (try clear n1_); clear n0_ n2_; (try (have hq39 : (x6_1 : Int) < (x5_2.length : Int) := (by have h_ : (x6_1 : Int) < ((x5_2.length : Int) : Int) := of_decide_eq_true (by first | (with_reducible assumption) | assumption); first | exact h_ | (have e_ := (Kd.S_reads' HO_5.out).1; omega) | simpa only [List.length_set, List.length_set] using h_))); (try (obtain ⟨oki39, ce39, hcl39, hM39, hcc39, hok39, hbk39⟩ := Kd.S_borrow HO_5.out [] (x6_1 : Int) (of_decide_eq_true (by first | (with_reducible assumption) | assumption)) hq39)); (try (obtain ⟨ve39_0, rfl, ge39_0⟩ := hM39)); (try (have hv39 := hcc39 0 _ rfl)); (try (rw [Nat.add_zero, show ((Kd.slice 3 (Kd.int .i64))).sz = 1 from rfl, Nat.mul_one] at hv39)); (try (replace hv39 := Option.some.inj (hv39.symm.trans HX231_0.out))); (try (subst hv39)); (try (clear hcc39 hcl39)); (try (replace ge39_0 := (show Kd.R (Kd.int .i64) 3 _ _ _ _ (rd_L4 x5_2 x6_1) from ge39_0))); (try (have HP39 := Kd.R_putg ge39_0 (x7_2 : Int) (wrap64 ((rd (rd_L4 x5_2 (ji22)) (ji29)) + 1)))))); refine store_event (t := 3) (p := 90) (v := ?vo_w40) (w1 := (wc.setCell ⟨go38, (x7_2 : Int).toNat, none⟩ (.int .i64 (wrap64 ((rd (rd_L4 x5_2 (ji22)) (ji29)) + 1))))) ?hg ?ho ?hn ?hr ?_; (case ho => rfl); (case hg => rfl); (case hn => rfl); (case hr => first | (go_simp; done) | (go_simp; rfl)); intro w40 hw; have hg : wc.grownBy w40 (some go38) := (by rw [hw]; exact HP39.2); have hz_ : Kd.R (Kd.int .i64) 3 w40 w.heap.size oki39 (.slice (some ⟨go38, 0, none⟩) (rd_L4 x5_2 x6_1).length c223_0) y232 := (by rw [hw, Ny232.out]; exact HP39.1); have hp_ : Kd.S (Kd.slice 3 (Kd.int .i64)) 35 w40 w.heap.size (fun _ => True) (.slice (some ⟨go14, 0, none⟩) x5_2.length co14) y234 := (by rw [Ny234.out]; exact hbk39 hg (fun k_ e_ => by injection e_ with e_; subst e_; exact ge39_0.1 _ rfl) (Kd.M_row hz_)); have hm_ := Kd.R_mono hz_ hok39; clear HP39 hbk39; have n0_ := Aside0.mk (hp_); have n1_ := Aside0.mk ((by rw [hw]; exact below_set (HB.out) GB38.out : Below w.heap.size w w40)); have n2_ := Aside0.mk (hm_); have n3_ := Aside0.mk ((Kd.R_reads' hm_).2.1); clear HO_5; clear HB; clear HL221_0; clear HL223_0; clear HL225_0; clear HL229_0; clear HL231_0; have HO_5 := n0_; have HB := n1_; have HL251 := n2_; have HC233 := n3_; clear n0_ n1_ n2_ n3_; clear hg hw hp_ hz_ hm_ hok39)); try go_wp2_with (first | ((with_reducible refine gate_store (t := 3) (p := 90) rfl ?_); (try (rw [drewN_self wc]; generalize hq_ : World.drewN wc _ = wc; (try (replace hx221_0 := cell_at hq_ hx221_0)); (try (replace hx222_0 := cell_at hq_ hx222_0)); (try (replace hx223_0 := cell_at hq_ hx223_0)); (try (replace hx224_0 := cell_at hq_ hx224_0)); (try (replace hx225_0 := cell_at hq_ hx225_0)); (try (replace hx226_0 := cell_at hq_ hx226_0)); (try (replace hx227_0 := cell_at hq_ hx227_0)); (try (replace hx228_0 := cell_at hq_ hx228_0)); (try (replace hx229_0 := cell_at hq_ hx229_0)); (try (replace hx230_0 := cell_at hq_ hx230_0)); (try (replace hx231_0 := cell_at hq_ hx231_0)); (try (replace hx38_0 := cell_at hq_ hx38_0)); (try (replace hf38_0 := frozen_at hq_ hf38_0)); (try (replace HX221_0 := Aside0.mk (cell_at hq_ HX221_0.out))); (try (replace HX223_0 := Aside0.mk (cell_at hq_ HX223_0.out))); (try (replace HX225_0 := Aside0.mk (cell_at hq_ HX225_0.out))); (try (replace HX229_0 := Aside0.mk (cell_at hq_ HX229_0.out))); (try (replace HX231_0 := Aside0.mk (cell_at hq_ HX231_0.out))); have n0_ := Aside0.mk (Kd.S_at hq_ HO_5.out); (try have n1_ := Aside0.mk (Kd.R_at hq_ HL251.out)); have n2_ := Aside0.mk (below_at hq_ HB.out); (try clear HL251); clear hq_ HO_5 HB; have HO_5 := n0_; (try have HL251 := n1_); have HB := n2_; (try clear n1_); clear n0_ n2_; (try (have hq39 : (x6_1 : Int) < (x5_2.length : Int) := (by have h_ : (x6_1 : Int) < ((x5_2.length : Int) : Int) := of_decide_eq_true (by first | (with_reducible assumption) | assumption); first | exact h_ | (have e_ := (Kd.S_reads' HO_5.out).1; omega) | simpa only [List.length_set, List.length_set] using h_))); (try (obtain ⟨oki39, ce39, hcl39, hM39, hcc39, hok39, hbk39⟩ := Kd.S_borrow HO_5.out [] (x6_1 : Int) (of_decide_eq_true (by first | (with_reducible assumption) | assumption)) hq39)); (try (obtain ⟨ve39_0, rfl, ge39_0⟩ := hM39)); (try (have hv39 := hcc39 0 _ rfl)); (try (rw [Nat.add_zero, show ((Kd.slice 3 (Kd.int .i64))).sz = 1 from rfl, Nat.mul_one] at hv39)); (try (replace hv39 := Option.some.inj (hv39.symm.trans HX231_0.out))); (try (subst hv39)); (try (clear hcc39 hcl39)); (try (replace ge39_0 := (show Kd.R (Kd.int .i64) 3 _ _ _ _ (rd_L4 x5_2 x6_1) from ge39_0))); (try (have HP39 := Kd.R_putg ge39_0 (x7_2 : Int) (wrap64 ((rd (rd_L4 x5_2 (ji22)) (ji29)) + 1)))))); refine store_event (t := 3) (p := 90) (v := ?vo_w40) (w1 := (wc.setCell ⟨go38, (x7_2 : Int).toNat, none⟩ (.int .i64 (wrap64 ((rd (rd_L4 x5_2 (ji22)) (ji29)) + 1))))) ?hg ?ho ?hn ?hr ?_; (case ho => rfl); (case hg => rfl); (case hn => rfl); (case hr => first | (go_simp; done) | (go_simp; rfl)); intro w40 hw; have hg : wc.grownBy w40 (some go38) := (by rw [hw]; exact HP39.2); have hz_ : Kd.R (Kd.int .i64) 3 w40 w.heap.size oki39 (.slice (some ⟨go38, 0, none⟩) (rd_L4 x5_2 x6_1).length c223_0) y232 := (by rw [hw, Ny232.out]; exact HP39.1); have hp_ : Kd.S (Kd.slice 3 (Kd.int .i64)) 35 w40 w.heap.size (fun _ => True) (.slice (some ⟨go14, 0, none⟩) x5_2.length co14) y234 := (by rw [Ny234.out]; exact hbk39 hg (fun k_ e_ => by injection e_ with e_; subst e_; exact ge39_0.1 _ rfl) (Kd.M_row hz_)); have hm_ := Kd.R_mono hz_ hok39; clear HP39 hbk39; have n0_ := Aside0.mk (hp_); have n1_ := Aside0.mk ((by rw [hw]; exact below_set (HB.out) GB38.out : Below w.heap.size w w40)); have n2_ := Aside0.mk (hm_); have n3_ := Aside0.mk ((Kd.R_reads' hm_).2.1); clear HO_5; clear HB; clear HL221_0; clear HL223_0; clear HL225_0; clear HL229_0; clear HL231_0; have HO_5 := n0_; have HB := n1_; have HL251 := n2_; have HC233 := n3_; clear n0_ n1_ n2_ n3_; clear hg hw hp_ hz_ hm_ hok39)))
                               (try simp only [← hl5_2])
                               go_roundg kj18
                               case measure => have := HK1.out; have := HK2.out; have := HJ18.out; omega
                               case rel => exact ⟨(y234), (wrap64 (x7_2 - 1)), (by first | rfl | (simp; done) | (simp [*]; done)), H', ⟨by have := HK1.out; have := HK2.out; have := HJ18.out; omega⟩, ⟨by (try simp only [hl5_2]); (with_reducible repeat (first | apply Kd.S_alloc | apply Kd.S_drewN | apply Kd.S_drew)); exact HO_5.out⟩, ⟨by repeat (first | (with_reducible first | exact HB.out | apply below_alloc | apply pw_below_drewN | apply below_drew1) | exact HB.out)⟩⟩
                              ·rw [if_neg c37] at H
                               exact absurd H (by simp)
                             ·rw [if_neg c36] at H
                              exact absurd H (by simp)
                            ·rw [if_neg c35] at H
                             have c35b0 : ((rdOf ByteArray.empty l0 x6_1).toList == (rdOf ByteArray.empty l1 x7_2).toList) = false := beq_eq_false_iff_ne.mpr c35
                             have c35b1 : ((rdOf ByteArray.empty l0 x6_1).toList != (rdOf ByteArray.empty l1 x7_2).toList) = true := bne_iff_ne.mpr c35
                             by_cases c41 : x7_2 < ((rd_L4 x5_2 x6_1).length : Int)
                             ·rw [if_pos c41] at H
                              have c41b0 : decide (x7_2 < ((rd_L4 x5_2 x6_1).length : Int)) = true := decide_eq_true c41
                              clear c41
                              obtain ⟨y236, hy236⟩ : ∃ y_ : List Int, y_ = ((rd_L4 x5_2 x6_1).set (x7_2 : Int).toNat (rd (rd_L4 x5_2 x6_1) (ji29))) := ⟨_, rfl⟩
                              replace H : (spec_l04Table.l1 kj18 l0 l1 (x5_2.set (x6_1 : Int).toNat y236) x6_1 (wrap64 (x7_2 - 1))) = some r := by first | (rw [hy236]; with_reducible exact H) | (have H2_ := (Option.bind_some _ _).symm.trans H; rw [hy236]; with_reducible exact H2_) | (have H2_ := (Option.bind_some _ _).symm.trans H; with_reducible exact H2_) | with_reducible exact H | (rw [hy236]; exact H) | exact H
                              have Ny236 := Aside0.mk hy236
                              clear hy236
                              obtain ⟨y238, hy238⟩ : ∃ y_ : List (List Int), y_ = (x5_2.set (x6_1 : Int).toNat y236) := ⟨_, rfl⟩
                              replace H : (spec_l04Table.l1 kj18 l0 l1 y238 x6_1 (wrap64 (x7_2 - 1))) = some r := by first | (rw [hy238]; with_reducible exact H) | (have H2_ := (Option.bind_some _ _).symm.trans H; rw [hy238]; with_reducible exact H2_) | (have H2_ := (Option.bind_some _ _).symm.trans H; with_reducible exact H2_) | with_reducible exact H | (rw [hy238]; exact H) | exact H
                              have Ny238 := Aside0.mk hy238
                              clear hy238
                              have H' := Aside0.mk H
                              clear H
                              have p221 : 0 ≤ ((ji22) : Int) := of_decide_eq_true (by first | (with_reducible assumption) | assumption)
                              have q221 : (ji22) < (x5_2.length : Int) := of_decide_eq_true (by first | (with_reducible assumption) | assumption)
                              obtain ⟨ad221, A221_0, c221_0, e221, hx221_0, hl221_0, hi221_0⟩ := at_L4 (Kd.S_reads' HO_5.out).2.2 (ji22) p221 q221
                              obtain rfl : (⟨go14, 0, none⟩ : Addr) = ad221 := (by injection e221)
                              obtain ⟨ce221, hce221, hMe221, hcc221⟩ := Kd.S_get HO_5.out [] (ji22) p221 (by first | exact q221 | exact of_decide_eq_true (by first | (with_reducible assumption) | assumption) | (have e_ := (Kd.S_reads' HO_5.out).1; omega))
                              obtain ⟨ve221_0, rfl, ge221_0⟩ := hMe221
                              have hv221_0 := hcc221 0 _ rfl
                              rw [Nat.add_zero, show ((Kd.slice 3 (Kd.int .i64))).sz = 1 from rfl, Nat.mul_one] at hv221_0
                              replace hv221_0 := Option.some.inj (hv221_0.symm.trans hx221_0)
                              rw [hv221_0] at ge221_0
                              have HL221_0 := Aside0.mk (show Kd.R (Kd.int .i64) 3 _ _ _ _ (rd_L4 x5_2 (ji22)) from ge221_0)
                              clear hv221_0 ge221_0
                              have HX221_0 := Aside0.mk hx221_0
                              clear hcc221 hce221
                              (first | simp only [add_plain] at hx221_0 | simp only [add_at] at hx221_0 | simp only [Addr.add, Nat.zero_add] at hx221_0 | skip)
                              have HR221_0 := Aside0.mk hi221_0
                              have HC221_0 := Aside0.mk hl221_0
                              clear hi221_0 hl221_0
                              replace p221 := eq_true p221
                              replace q221 := eq_true q221
                              have p222 : 0 ≤ (x7_2 : Int) := of_decide_eq_true (by first | (with_reducible assumption) | assumption)
                              have q222 : x7_2 < ((rd_L4 x5_2 (ji22)).length : Int) := of_decide_eq_true (by first | (with_reducible assumption) | assumption)
                              obtain ⟨ad222, e222, hx222_0⟩ := Kd.at_int (by repeat (first | (with_reducible exact HR221_0.out) | (with_reducible refine Kd.C_alloc ?_ _) | (with_reducible refine Kd.C_drewN ?_ _) | (with_reducible refine Kd.C_drew ?_) | exact HR221_0.out)) x7_2 p222 q222
                              cases e222
                              replace p222 := eq_true p222
                              replace q222 := eq_true q222
                              have p223 : 0 ≤ (x6_1 : Int) := of_decide_eq_true (by first | (with_reducible assumption) | assumption)
                              have q223 : x6_1 < (x5_2.length : Int) := of_decide_eq_true (by first | (with_reducible assumption) | assumption)
                              obtain ⟨ad223, A223_0, c223_0, e223, hx223_0, hl223_0, hi223_0⟩ := at_L4 (Kd.S_reads' HO_5.out).2.2 x6_1 p223 q223
                              obtain rfl : (⟨go14, 0, none⟩ : Addr) = ad223 := (by injection e223)
                              obtain ⟨ce223, hce223, hMe223, hcc223⟩ := Kd.S_get HO_5.out [] x6_1 p223 (by first | exact q223 | exact of_decide_eq_true (by first | (with_reducible assumption) | assumption) | (have e_ := (Kd.S_reads' HO_5.out).1; omega))
                              obtain ⟨ve223_0, rfl, ge223_0⟩ := hMe223
                              have hv223_0 := hcc223 0 _ rfl
                              rw [Nat.add_zero, show ((Kd.slice 3 (Kd.int .i64))).sz = 1 from rfl, Nat.mul_one] at hv223_0
                              replace hv223_0 := Option.some.inj (hv223_0.symm.trans hx223_0)
                              rw [hv223_0] at ge223_0
                              have HL223_0 := Aside0.mk (show Kd.R (Kd.int .i64) 3 _ _ _ _ (rd_L4 x5_2 x6_1) from ge223_0)
                              clear hv223_0 ge223_0
                              have HX223_0 := Aside0.mk hx223_0
                              clear hcc223 hce223
                              (first | simp only [add_plain] at hx223_0 | simp only [add_at] at hx223_0 | simp only [Addr.add, Nat.zero_add] at hx223_0 | skip)
                              have HR223_0 := Aside0.mk hi223_0
                              have HC223_0 := Aside0.mk hl223_0
                              clear hi223_0 hl223_0
                              replace p223 := eq_true p223
                              replace q223 := eq_true q223
                              have p224 : 0 ≤ ((ji29) : Int) := of_decide_eq_true (by first | (with_reducible assumption) | assumption)
                              have q224 : (ji29) < ((rd_L4 x5_2 x6_1).length : Int) := of_decide_eq_true (by first | (with_reducible assumption) | assumption)
                              obtain ⟨ad224, e224, hx224_0⟩ := Kd.at_int (by repeat (first | (with_reducible exact HR223_0.out) | (with_reducible refine Kd.C_alloc ?_ _) | (with_reducible refine Kd.C_drewN ?_ _) | (with_reducible refine Kd.C_drew ?_) | exact HR223_0.out)) (ji29) p224 q224
                              cases e224
                              replace p224 := eq_true p224
                              replace q224 := eq_true q224
                              have p225 : 0 ≤ (x6_1 : Int) := of_decide_eq_true (by first | (with_reducible assumption) | assumption)
                              have q225 : x6_1 < (x5_2.length : Int) := of_decide_eq_true (by first | (with_reducible assumption) | assumption)
                              obtain ⟨ad225, A225_0, c225_0, e225, hx225_0, hl225_0, hi225_0⟩ := at_L4 (Kd.S_reads' HO_5.out).2.2 x6_1 p225 q225
                              obtain rfl : (⟨go14, 0, none⟩ : Addr) = ad225 := (by injection e225)
                              obtain ⟨ce225, hce225, hMe225, hcc225⟩ := Kd.S_get HO_5.out [] x6_1 p225 (by first | exact q225 | exact of_decide_eq_true (by first | (with_reducible assumption) | assumption) | (have e_ := (Kd.S_reads' HO_5.out).1; omega))
                              obtain ⟨ve225_0, rfl, ge225_0⟩ := hMe225
                              have hv225_0 := hcc225 0 _ rfl
                              rw [Nat.add_zero, show ((Kd.slice 3 (Kd.int .i64))).sz = 1 from rfl, Nat.mul_one] at hv225_0
                              replace hv225_0 := Option.some.inj (hv225_0.symm.trans hx225_0)
                              rw [hv225_0] at ge225_0
                              have HL225_0 := Aside0.mk (show Kd.R (Kd.int .i64) 3 _ _ _ _ (rd_L4 x5_2 x6_1) from ge225_0)
                              clear hv225_0 ge225_0
                              have HX225_0 := Aside0.mk hx225_0
                              clear hcc225 hce225
                              (first | simp only [add_plain] at hx225_0 | simp only [add_at] at hx225_0 | simp only [Addr.add, Nat.zero_add] at hx225_0 | skip)
                              have HR225_0 := Aside0.mk hi225_0
                              have HC225_0 := Aside0.mk hl225_0
                              clear hi225_0 hl225_0
                              replace p225 := eq_true p225
                              replace q225 := eq_true q225
                              have ea_ := Option.some.inj (hx223_0.symm.trans hx225_0)
                              injection ea_ with ea_ en_ ec_
                              subst ea_
                              subst ec_
                              clear en_
                              have p226 : 0 ≤ ((ji29) : Int) := of_decide_eq_true (by first | (with_reducible assumption) | assumption)
                              have q226 : (ji29) < ((rd_L4 x5_2 x6_1).length : Int) := of_decide_eq_true (by first | (with_reducible assumption) | assumption)
                              obtain ⟨ad226, e226, hx226_0⟩ := Kd.at_int (by repeat (first | (with_reducible exact HR225_0.out) | (with_reducible refine Kd.C_alloc ?_ _) | (with_reducible refine Kd.C_drewN ?_ _) | (with_reducible refine Kd.C_drew ?_) | exact HR225_0.out)) (ji29) p226 q226
                              cases e226
                              replace p226 := eq_true p226
                              replace q226 := eq_true q226
                              have p227 : 0 ≤ (x6_1 : Int) := of_decide_eq_true (by first | (with_reducible assumption) | assumption)
                              have q227 : x6_1 < (l0.length : Int) := of_decide_eq_true (by first | (with_reducible assumption) | assumption)
                              obtain ⟨ad227, e227, hx227_0⟩ := Kd.at_string HR0.out x6_1 p227 q227
                              cases e227
                              replace hx227_0 := (HB.out.cell (World.block_lt_of_cell? w _ hx227_0)).trans hx227_0
                              replace p227 := eq_true p227
                              replace q227 := eq_true q227
                              have p228 : 0 ≤ (x7_2 : Int) := of_decide_eq_true (by first | (with_reducible assumption) | assumption)
                              have q228 : x7_2 < (l1.length : Int) := of_decide_eq_true (by first | (with_reducible assumption) | assumption)
                              obtain ⟨ad228, e228, hx228_0⟩ := Kd.at_string HR1.out x7_2 p228 q228
                              cases e228
                              replace hx228_0 := (HB.out.cell (World.block_lt_of_cell? w _ hx228_0)).trans hx228_0
                              replace p228 := eq_true p228
                              replace q228 := eq_true q228
                              have p235 : 0 ≤ (x6_1 : Int) := of_decide_eq_true (by first | (with_reducible assumption) | assumption)
                              have q235 : x6_1 < (x5_2.length : Int) := of_decide_eq_true (by first | (with_reducible assumption) | assumption)
                              obtain ⟨ad235, A235_0, c235_0, e235, hx235_0, hl235_0, hi235_0⟩ := at_L4 (Kd.S_reads' HO_5.out).2.2 x6_1 p235 q235
                              obtain rfl : (⟨go14, 0, none⟩ : Addr) = ad235 := (by injection e235)
                              obtain ⟨ce235, hce235, hMe235, hcc235⟩ := Kd.S_get HO_5.out [] x6_1 p235 (by first | exact q235 | exact of_decide_eq_true (by first | (with_reducible assumption) | assumption) | (have e_ := (Kd.S_reads' HO_5.out).1; omega))
                              obtain ⟨ve235_0, rfl, ge235_0⟩ := hMe235
                              have hv235_0 := hcc235 0 _ rfl
                              rw [Nat.add_zero, show ((Kd.slice 3 (Kd.int .i64))).sz = 1 from rfl, Nat.mul_one] at hv235_0
                              replace hv235_0 := Option.some.inj (hv235_0.symm.trans hx235_0)
                              rw [hv235_0] at ge235_0
                              have HL235_0 := Aside0.mk (show Kd.R (Kd.int .i64) 3 _ _ _ _ (rd_L4 x5_2 x6_1) from ge235_0)
                              clear hv235_0 ge235_0
                              have HX235_0 := Aside0.mk hx235_0
                              clear hcc235 hce235
                              (first | simp only [add_plain] at hx235_0 | simp only [add_at] at hx235_0 | simp only [Addr.add, Nat.zero_add] at hx235_0 | skip)
                              have HR235_0 := Aside0.mk hi235_0
                              have HC235_0 := Aside0.mk hl235_0
                              clear hi235_0 hl235_0
                              replace p235 := eq_true p235
                              replace q235 := eq_true q235
                              have ea_ := Option.some.inj (hx223_0.symm.trans hx235_0)
                              injection ea_ with ea_ en_ ec_
                              subst ea_
                              subst ec_
                              clear en_
                              have p42 : 0 ≤ (x7_2 : Int) := of_decide_eq_true (by first | (with_reducible assumption) | assumption)
                              have q42 : (x7_2 : Int) < (((rd_L4 x5_2 x6_1).length : Int) : Int) := of_decide_eq_true (by first | (with_reducible assumption) | assumption)
                              obtain ⟨go42, co42, eo42, gb42, gl42, cl42, HG42⟩ := Kd.R_form HL235_0.out (by omega)
                              (first | cases eo42 | (injection eo42 with ea_ en_ ec_; (first | subst ea_ | (injection ea_ with ea_; subst ea_)); subst ec_; clear en_))
                              have GB42 := Aside0.mk gb42
                              have GG42 := Aside0.mk HG42
                              clear gb42 gl42 HG42
                              (first | simp only [add_plain] at hx226_0 | skip)
                              obtain ⟨hx42_0, hf42_0⟩ := Kd.R_celln 0 HL235_0.out (x7_2 : Int) p42 q42
                              replace p42 := eq_true p42
                              replace q42 := eq_true q42
                              have hq43 : (x6_1 : Int) < (x5_2.length : Int) := (by have h_ : (x6_1 : Int) < ((x5_2.length : Int) : Int) := of_decide_eq_true (by first | (with_reducible assumption) | assumption); first | exact h_ | (have e_ := (Kd.S_reads' HO_5.out).1; omega) | simpa only [List.length_set, List.length_set] using h_)
                              obtain ⟨oki43, ce43, hcl43, hM43, hcc43, hok43, hbk43⟩ := Kd.S_borrow HO_5.out [] (x6_1 : Int) (of_decide_eq_true (by first | (with_reducible assumption) | assumption)) hq43
                              obtain ⟨ve43_0, rfl, ge43_0⟩ := hM43
                              have hv43 := hcc43 0 _ rfl
                              rw [Nat.add_zero, show ((Kd.slice 3 (Kd.int .i64))).sz = 1 from rfl, Nat.mul_one] at hv43
                              replace hv43 := Option.some.inj (hv43.symm.trans HX235_0.out)
                              subst hv43
                              clear hcc43 hcl43
                              replace ge43_0 := (show Kd.R (Kd.int .i64) 3 _ _ _ _ (rd_L4 x5_2 x6_1) from ge43_0)
                              have HP43 := Kd.R_putg ge43_0 (x7_2 : Int) (rd (rd_L4 x5_2 x6_1) (ji29))
                              go_wp2_with (first | ((with_reducible refine gate_store (t := 3) (p := 90) rfl ?_); (try (rw [drewN_self wc]; generalize hq_ : World.drewN wc _ = wc; (try (replace hx221_0 := cell_at hq_ hx221_0)); (try (replace hx222_0 := cell_at hq_ hx222_0)); (try (replace hx223_0 := cell_at hq_ hx223_0)); (try (replace hx224_0 := cell_at hq_ hx224_0)); (try (replace hx225_0 := cell_at hq_ hx225_0)); (try (replace hx226_0 := cell_at hq_ hx226_0)); (try (replace hx227_0 := cell_at hq_ hx227_0)); (try (replace hx228_0 := cell_at hq_ hx228_0)); (try (replace hx235_0 := cell_at hq_ hx235_0)); (try (replace hx42_0 := cell_at hq_ hx42_0)); (try (replace hf42_0 := frozen_at hq_ hf42_0)); (try (replace HX221_0 := Aside0.mk (cell_at hq_ HX221_0.out))); (try (replace HX223_0 := Aside0.mk (cell_at hq_ HX223_0.out))); (try (replace HX225_0 := Aside0.mk (cell_at hq_ HX225_0.out))); (try (replace HX231_0 := Aside0.mk (cell_at hq_ HX231_0.out))); (try (replace HX235_0 := Aside0.mk (cell_at hq_ HX235_0.out))); have n0_ := Aside0.mk (Kd.S_at hq_ HO_5.out); (try have n1_ := Aside0.mk (Kd.R_at hq_ HL252.out)); have n2_ := Aside0.mk (below_at hq_ HB.out); (try clear HL252); clear hq_ HO_5 HB; have HO_5 := n0_; (try have HL252 := n1_); have HB := n2_; (try clear n1_); clear n0_ n2_; (try (have hq43 : (x6_1 : Int) < (x5_2.length : Int) := (by have h_ : (x6_1 : Int) < ((x5_2.length : Int) : Int) := of_decide_eq_true (by first | (with_reducible assumption) | assumption); first | exact h_ | (have e_ := (Kd.S_reads' HO_5.out).1; omega) | simpa only [List.length_set, List.length_set] using h_))); (try (obtain ⟨oki43, ce43, hcl43, hM43, hcc43, hok43, hbk43⟩ := Kd.S_borrow HO_5.out [] (x6_1 : Int) (of_decide_eq_true (by first | (with_reducible assumption) | assumption)) hq43)); (try (obtain ⟨ve43_0, rfl, ge43_0⟩ := hM43)); (try (have hv43 := hcc43 0 _ rfl)); (try (rw [Nat.add_zero, show ((Kd.slice 3 (Kd.int .i64))).sz = 1 from rfl, Nat.mul_one] at hv43)); (try (replace hv43 := Option.some.inj (hv43.symm.trans HX235_0.out))); (try (subst hv43)); (try (clear hcc43 hcl43)); (try (replace ge43_0 := (show Kd.R (Kd.int .i64) 3 _ _ _ _ (rd_L4 x5_2 x6_1) from ge43_0))); (try (have HP43 := Kd.R_putg ge43_0 (x7_2 : Int) (rd (rd_L4 x5_2 x6_1) (ji29)))))); refine store_event (t := 3) (p := 90) (v := ?vo_w44) (w1 := (wc.setCell ⟨go42, (x7_2 : Int).toNat, none⟩ (.int .i64 (rd (rd_L4 x5_2 x6_1) (ji29))))) ?hg ?ho ?hn ?hr ?_; (case ho => rfl); (case hg => rfl); (case hn => rfl); (case hr => first | (go_simp; done) | (go_simp; rfl)); intro w44 hw; have hg : wc.grownBy w44 (some go42) := (by rw [hw]; exact HP43.2); have hz_ : Kd.R (Kd.int .i64) 3 w44 w.heap.size oki43 (.slice (some ⟨go42, 0, none⟩) (rd_L4 x5_2 x6_1).length c223_0) y236 := (by rw [hw, Ny236.out]; exact HP43.1); have hp_ : Kd.S (Kd.slice 3 (Kd.int .i64)) 35 w44 w.heap.size (fun _ => True) (.slice (some ⟨go14, 0, none⟩) x5_2.length co14) y238 := (by rw [Ny238.out]; exact hbk43 hg (fun k_ e_ => by injection e_ with e_; subst e_; exact ge43_0.1 _ rfl) (Kd.M_row hz_)); have hm_ := Kd.R_mono hz_ hok43; clear HP43 hbk43; have n0_ := Aside0.mk (hp_); have n1_ := Aside0.mk ((by rw [hw]; exact below_set (HB.out) GB42.out : Below w.heap.size w w44)); have n2_ := Aside0.mk (hm_); have n3_ := Aside0.mk ((Kd.R_reads' hm_).2.1); clear HO_5; clear HB; clear HL221_0; clear HL223_0; clear HL225_0; clear HL235_0; have HO_5 := n0_; have HB := n1_; have HL252 := n2_; have HC237 := n3_; clear n0_ n1_ n2_ n3_; clear hg hw hp_ hz_ hm_ hok43))
                              repeat (go_quiet (first | ((with_reducible refine gate_store (t := 3) (p := 90) rfl ?_); (try (rw [drewN_self wc]; generalize hq_ : World.drewN wc _ = wc; (try (replace hx221_0 := cell_at hq_ hx221_0)); (try (replace hx222_0 := cell_at hq_ hx222_0)); (try (replace hx223_0 := cell_at hq_ hx223_0)); (try (replace hx224_0 := cell_at hq_ hx224_0)); (try (replace hx225_0 := cell_at hq_ hx225_0)); (try (replace hx226_0 := cell_at hq_ hx226_0)); (try (replace hx227_0 := cell_at hq_ hx227_0)); (try (replace hx228_0 := cell_at hq_ hx228_0)); (try (replace hx235_0 := cell_at hq_ hx235_0)); (try (replace hx42_0 := cell_at hq_ hx42_0)); (try (replace hf42_0 := frozen_at hq_ hf42_0)); (try (replace HX221_0 := Aside0.mk (cell_at hq_ HX221_0.out))); (try (replace HX223_0 := Aside0.mk (cell_at hq_ HX223_0.out))); (try (replace HX225_0 := Aside0.mk (cell_at hq_ HX225_0.out))); (try (replace HX231_0 := Aside0.mk (cell_at hq_ HX231_0.out))); (try (replace HX235_0 := Aside0.mk (cell_at hq_ HX235_0.out))); have n0_ := Aside0.mk (Kd.S_at hq_ HO_5.out); (try have n1_ := Aside0.mk (Kd.R_at hq_ HL252.out)); have n2_ := Aside0.mk (below_at hq_ HB.out); (try clear HL252); clear hq_ HO_5 HB; have HO_5 := n0_; (try have HL252 := n1_); have HB := n2_; (try clear n1_); clear n0_ n2_; (try (have hq43 : (x6_1 : Int) < (x5_2.length : Int) := (by have h_ : (x6_1 : Int) < ((x5_2.length : Int) : Int) := of_decide_eq_true (by first | (with_reducible assumption) | assumption); first | exact h_ | (have e_ := (Kd.S_reads' HO_5.out).1; omega) | simpa only [List.length_set, List.length_set] using h_))); (try (obtain ⟨oki43, ce43, hcl43, hM43, hcc43, hok43, hbk43⟩ := Kd.S_borrow HO_5.out [] (x6_1 : Int) (of_decide_eq_true (by first | (with_reducible assumption) | assumption)) hq43)); (try (obtain ⟨ve43_0, rfl, ge43_0⟩ := hM43)); (try (have hv43 := hcc43 0 _ rfl)); (try (rw [Nat.add_zero, show ((Kd.slice 3 (Kd.int .i64))).sz = 1 from rfl, Nat.mul_one] at hv43)); (try (replace hv43 := Option.some.inj (hv43.symm.trans HX235_0.out))); (try (subst hv43)); (try (clear hcc43 hcl43)); (try (replace ge43_0 := (show Kd.R (Kd.int .i64) 3 _ _ _ _ (rd_L4 x5_2 x6_1) from ge43_0))); (try (have HP43 := Kd.R_putg ge43_0 (x7_2 : Int) (rd (rd_L4 x5_2 x6_1) (ji29)))))); refine store_event (t := 3) (p := 90) (v := ?vo_w44) (w1 := (wc.setCell ⟨go42, (x7_2 : Int).toNat, none⟩ (.int .i64 (rd (rd_L4 x5_2 x6_1) (ji29))))) ?hg ?ho ?hn ?hr ?_; (case ho => rfl); (case hg => rfl); (case hn => rfl); (case hr => first | (go_simp; done) | (go_simp; rfl)); intro w44 hw; have hg : wc.grownBy w44 (some go42) := (by rw [hw]; exact HP43.2); have hz_ : Kd.R (Kd.int .i64) 3 w44 w.heap.size oki43 (.slice (some ⟨go42, 0, none⟩) (rd_L4 x5_2 x6_1).length c223_0) y236 := (by rw [hw, Ny236.out]; exact HP43.1); have hp_ : Kd.S (Kd.slice 3 (Kd.int .i64)) 35 w44 w.heap.size (fun _ => True) (.slice (some ⟨go14, 0, none⟩) x5_2.length co14) y238 := (by rw [Ny238.out]; exact hbk43 hg (fun k_ e_ => by injection e_ with e_; subst e_; exact ge43_0.1 _ rfl) (Kd.M_row hz_)); have hm_ := Kd.R_mono hz_ hok43; clear HP43 hbk43; have n0_ := Aside0.mk (hp_); have n1_ := Aside0.mk ((by rw [hw]; exact below_set (HB.out) GB42.out : Below w.heap.size w w44)); have n2_ := Aside0.mk (hm_); have n3_ := Aside0.mk ((Kd.R_reads' hm_).2.1); clear HO_5; clear HB; clear HL221_0; clear HL223_0; clear HL225_0; clear HL235_0; have HO_5 := n0_; have HB := n1_; have HL252 := n2_; have HC237 := n3_; clear n0_ n1_ n2_ n3_; clear hg hw hp_ hz_ hm_ hok43)); try go_wp2_with (first | ((with_reducible refine gate_store (t := 3) (p := 90) rfl ?_); (try (rw [drewN_self wc]; generalize hq_ : World.drewN wc _ = wc; (try (replace hx221_0 := cell_at hq_ hx221_0)); (try (replace hx222_0 := cell_at hq_ hx222_0)); (try (replace hx223_0 := cell_at hq_ hx223_0)); (try (replace hx224_0 := cell_at hq_ hx224_0)); (try (replace hx225_0 := cell_at hq_ hx225_0)); (try (replace hx226_0 := cell_at hq_ hx226_0)); (try (replace hx227_0 := cell_at hq_ hx227_0)); (try (replace hx228_0 := cell_at hq_ hx228_0)); (try (replace hx235_0 := cell_at hq_ hx235_0)); (try (replace hx42_0 := cell_at hq_ hx42_0)); (try (replace hf42_0 := frozen_at hq_ hf42_0)); (try (replace HX221_0 := Aside0.mk (cell_at hq_ HX221_0.out))); (try (replace HX223_0 := Aside0.mk (cell_at hq_ HX223_0.out))); (try (replace HX225_0 := Aside0.mk (cell_at hq_ HX225_0.out))); (try (replace HX231_0 := Aside0.mk (cell_at hq_ HX231_0.out))); (try (replace HX235_0 := Aside0.mk (cell_at hq_ HX235_0.out))); have n0_ := Aside0.mk (Kd.S_at hq_ HO_5.out); (try have n1_ := Aside0.mk (Kd.R_at hq_ HL252.out)); have n2_ := Aside0.mk (below_at hq_ HB.out); (try clear HL252); clear hq_ HO_5 HB; have HO_5 := n0_; (try have HL252 := n1_); have HB := n2_; (try clear n1_); clear n0_ n2_; (try (have hq43 : (x6_1 : Int) < (x5_2.length : Int) := (by have h_ : (x6_1 : Int) < ((x5_2.length : Int) : Int) := of_decide_eq_true (by first | (with_reducible assumption) | assumption); first | exact h_ | (have e_ := (Kd.S_reads' HO_5.out).1; omega) | simpa only [List.length_set, List.length_set] using h_))); (try (obtain ⟨oki43, ce43, hcl43, hM43, hcc43, hok43, hbk43⟩ := Kd.S_borrow HO_5.out [] (x6_1 : Int) (of_decide_eq_true (by first | (with_reducible assumption) | assumption)) hq43)); (try (obtain ⟨ve43_0, rfl, ge43_0⟩ := hM43)); (try (have hv43 := hcc43 0 _ rfl)); (try (rw [Nat.add_zero, show ((Kd.slice 3 (Kd.int .i64))).sz = 1 from rfl, Nat.mul_one] at hv43)); (try (replace hv43 := Option.some.inj (hv43.symm.trans HX235_0.out))); (try (subst hv43)); (try (clear hcc43 hcl43)); (try (replace ge43_0 := (show Kd.R (Kd.int .i64) 3 _ _ _ _ (rd_L4 x5_2 x6_1) from ge43_0))); (try (have HP43 := Kd.R_putg ge43_0 (x7_2 : Int) (rd (rd_L4 x5_2 x6_1) (ji29)))))); refine store_event (t := 3) (p := 90) (v := ?vo_w44) (w1 := (wc.setCell ⟨go42, (x7_2 : Int).toNat, none⟩ (.int .i64 (rd (rd_L4 x5_2 x6_1) (ji29))))) ?hg ?ho ?hn ?hr ?_; (case ho => rfl); (case hg => rfl); (case hn => rfl); (case hr => first | (go_simp; done) | (go_simp; rfl)); intro w44 hw; have hg : wc.grownBy w44 (some go42) := (by rw [hw]; exact HP43.2); have hz_ : Kd.R (Kd.int .i64) 3 w44 w.heap.size oki43 (.slice (some ⟨go42, 0, none⟩) (rd_L4 x5_2 x6_1).length c223_0) y236 := (by rw [hw, Ny236.out]; exact HP43.1); have hp_ : Kd.S (Kd.slice 3 (Kd.int .i64)) 35 w44 w.heap.size (fun _ => True) (.slice (some ⟨go14, 0, none⟩) x5_2.length co14) y238 := (by rw [Ny238.out]; exact hbk43 hg (fun k_ e_ => by injection e_ with e_; subst e_; exact ge43_0.1 _ rfl) (Kd.M_row hz_)); have hm_ := Kd.R_mono hz_ hok43; clear HP43 hbk43; have n0_ := Aside0.mk (hp_); have n1_ := Aside0.mk ((by rw [hw]; exact below_set (HB.out) GB42.out : Below w.heap.size w w44)); have n2_ := Aside0.mk (hm_); have n3_ := Aside0.mk ((Kd.R_reads' hm_).2.1); clear HO_5; clear HB; clear HL221_0; clear HL223_0; clear HL225_0; clear HL235_0; have HO_5 := n0_; have HB := n1_; have HL252 := n2_; have HC237 := n3_; clear n0_ n1_ n2_ n3_; clear hg hw hp_ hz_ hm_ hok43)))
                              (try simp only [← hl5_2])
                              go_roundg kj18
                              case measure => have := HK1.out; have := HK2.out; have := HJ18.out; omega
                              case rel => exact ⟨(y238), (wrap64 (x7_2 - 1)), (by first | rfl | (simp; done) | (simp [*]; done)), H', ⟨by have := HK1.out; have := HK2.out; have := HJ18.out; omega⟩, ⟨by (try simp only [hl5_2]); (with_reducible repeat (first | apply Kd.S_alloc | apply Kd.S_drewN | apply Kd.S_drew)); exact HO_5.out⟩, ⟨by repeat (first | (with_reducible first | exact HB.out | apply below_alloc | apply pw_below_drewN | apply below_drew1) | exact HB.out)⟩⟩
                             ·rw [if_neg c41] at H
                              exact absurd H (by simp)
                           ·rw [if_neg c34] at H
                            exact absurd H (by simp)
                          ·rw [if_neg c33] at H
                           exact absurd H (by simp)
                         ·rw [if_neg c32] at H
                          have c32b0 : decide ((rd (rd_L4 x5_2 (ji22)) x7_2) < (rd (rd_L4 x5_2 x6_1) (ji29))) = false := decide_eq_false c32
                          clear c32
                          by_cases c45 : x6_1 < (l0.length : Int)
                          ·rw [if_pos c45] at H
                           have c45b0 : decide (x6_1 < (l0.length : Int)) = true := decide_eq_true c45
                           clear c45
                           by_cases c46 : x7_2 < (l1.length : Int)
                           ·rw [if_pos c46] at H
                            have c46b0 : decide (x7_2 < (l1.length : Int)) = true := decide_eq_true c46
                            clear c46
                            by_cases c47 : (rdOf ByteArray.empty l0 x6_1).toList = (rdOf ByteArray.empty l1 x7_2).toList
                            ·rw [if_pos c47] at H
                             have c47b0 : ((rdOf ByteArray.empty l0 x6_1).toList == (rdOf ByteArray.empty l1 x7_2).toList) = true := beq_iff_eq.mpr c47
                             have c47b1 : ((rdOf ByteArray.empty l0 x6_1).toList != (rdOf ByteArray.empty l1 x7_2).toList) = false := bne_eq_false_iff_eq.mpr c47
                             clear c47
                             by_cases c48 : (ji29) < ((rd_L4 x5_2 (ji22)).length : Int)
                             ·rw [if_pos c48] at H
                              have c48b0 : decide ((ji29) < ((rd_L4 x5_2 (ji22)).length : Int)) = true := decide_eq_true c48
                              clear c48
                              by_cases c49 : x7_2 < ((rd_L4 x5_2 x6_1).length : Int)
                              ·rw [if_pos c49] at H
                               have c49b0 : decide (x7_2 < ((rd_L4 x5_2 x6_1).length : Int)) = true := decide_eq_true c49
                               clear c49
                               obtain ⟨y244, hy244⟩ : ∃ y_ : List Int, y_ = ((rd_L4 x5_2 x6_1).set (x7_2 : Int).toNat (wrap64 ((rd (rd_L4 x5_2 (ji22)) (ji29)) + 1))) := ⟨_, rfl⟩
                               replace H : (spec_l04Table.l1 kj18 l0 l1 (x5_2.set (x6_1 : Int).toNat y244) x6_1 (wrap64 (x7_2 - 1))) = some r := by first | (rw [hy244]; with_reducible exact H) | (have H2_ := (Option.bind_some _ _).symm.trans H; rw [hy244]; with_reducible exact H2_) | (have H2_ := (Option.bind_some _ _).symm.trans H; with_reducible exact H2_) | with_reducible exact H | (rw [hy244]; exact H) | exact H
                               have Ny244 := Aside0.mk hy244
                               clear hy244
                               obtain ⟨y246, hy246⟩ : ∃ y_ : List (List Int), y_ = (x5_2.set (x6_1 : Int).toNat y244) := ⟨_, rfl⟩
                               replace H : (spec_l04Table.l1 kj18 l0 l1 y246 x6_1 (wrap64 (x7_2 - 1))) = some r := by first | (rw [hy246]; with_reducible exact H) | (have H2_ := (Option.bind_some _ _).symm.trans H; rw [hy246]; with_reducible exact H2_) | (have H2_ := (Option.bind_some _ _).symm.trans H; with_reducible exact H2_) | with_reducible exact H | (rw [hy246]; exact H) | exact H
                               have Ny246 := Aside0.mk hy246
                               clear hy246
                               have H' := Aside0.mk H
                               clear H
                               have p221 : 0 ≤ ((ji22) : Int) := of_decide_eq_true (by first | (with_reducible assumption) | assumption)
                               have q221 : (ji22) < (x5_2.length : Int) := of_decide_eq_true (by first | (with_reducible assumption) | assumption)
                               obtain ⟨ad221, A221_0, c221_0, e221, hx221_0, hl221_0, hi221_0⟩ := at_L4 (Kd.S_reads' HO_5.out).2.2 (ji22) p221 q221
                               obtain rfl : (⟨go14, 0, none⟩ : Addr) = ad221 := (by injection e221)
                               obtain ⟨ce221, hce221, hMe221, hcc221⟩ := Kd.S_get HO_5.out [] (ji22) p221 (by first | exact q221 | exact of_decide_eq_true (by first | (with_reducible assumption) | assumption) | (have e_ := (Kd.S_reads' HO_5.out).1; omega))
                               obtain ⟨ve221_0, rfl, ge221_0⟩ := hMe221
                               have hv221_0 := hcc221 0 _ rfl
                               rw [Nat.add_zero, show ((Kd.slice 3 (Kd.int .i64))).sz = 1 from rfl, Nat.mul_one] at hv221_0
                               replace hv221_0 := Option.some.inj (hv221_0.symm.trans hx221_0)
                               rw [hv221_0] at ge221_0
                               have HL221_0 := Aside0.mk (show Kd.R (Kd.int .i64) 3 _ _ _ _ (rd_L4 x5_2 (ji22)) from ge221_0)
                               clear hv221_0 ge221_0
                               have HX221_0 := Aside0.mk hx221_0
                               clear hcc221 hce221
                               (first | simp only [add_plain] at hx221_0 | simp only [add_at] at hx221_0 | simp only [Addr.add, Nat.zero_add] at hx221_0 | skip)
                               have HR221_0 := Aside0.mk hi221_0
                               have HC221_0 := Aside0.mk hl221_0
                               clear hi221_0 hl221_0
                               replace p221 := eq_true p221
                               replace q221 := eq_true q221
                               have p222 : 0 ≤ (x7_2 : Int) := of_decide_eq_true (by first | (with_reducible assumption) | assumption)
                               have q222 : x7_2 < ((rd_L4 x5_2 (ji22)).length : Int) := of_decide_eq_true (by first | (with_reducible assumption) | assumption)
                               obtain ⟨ad222, e222, hx222_0⟩ := Kd.at_int (by repeat (first | (with_reducible exact HR221_0.out) | (with_reducible refine Kd.C_alloc ?_ _) | (with_reducible refine Kd.C_drewN ?_ _) | (with_reducible refine Kd.C_drew ?_) | exact HR221_0.out)) x7_2 p222 q222
                               cases e222
                               replace p222 := eq_true p222
                               replace q222 := eq_true q222
                               have p223 : 0 ≤ (x6_1 : Int) := of_decide_eq_true (by first | (with_reducible assumption) | assumption)
                               have q223 : x6_1 < (x5_2.length : Int) := of_decide_eq_true (by first | (with_reducible assumption) | assumption)
                               obtain ⟨ad223, A223_0, c223_0, e223, hx223_0, hl223_0, hi223_0⟩ := at_L4 (Kd.S_reads' HO_5.out).2.2 x6_1 p223 q223
                               obtain rfl : (⟨go14, 0, none⟩ : Addr) = ad223 := (by injection e223)
                               obtain ⟨ce223, hce223, hMe223, hcc223⟩ := Kd.S_get HO_5.out [] x6_1 p223 (by first | exact q223 | exact of_decide_eq_true (by first | (with_reducible assumption) | assumption) | (have e_ := (Kd.S_reads' HO_5.out).1; omega))
                               obtain ⟨ve223_0, rfl, ge223_0⟩ := hMe223
                               have hv223_0 := hcc223 0 _ rfl
                               rw [Nat.add_zero, show ((Kd.slice 3 (Kd.int .i64))).sz = 1 from rfl, Nat.mul_one] at hv223_0
                               replace hv223_0 := Option.some.inj (hv223_0.symm.trans hx223_0)
                               rw [hv223_0] at ge223_0
                               have HL223_0 := Aside0.mk (show Kd.R (Kd.int .i64) 3 _ _ _ _ (rd_L4 x5_2 x6_1) from ge223_0)
                               clear hv223_0 ge223_0
                               have HX223_0 := Aside0.mk hx223_0
                               clear hcc223 hce223
                               (first | simp only [add_plain] at hx223_0 | simp only [add_at] at hx223_0 | simp only [Addr.add, Nat.zero_add] at hx223_0 | skip)
                               have HR223_0 := Aside0.mk hi223_0
                               have HC223_0 := Aside0.mk hl223_0
                               clear hi223_0 hl223_0
                               replace p223 := eq_true p223
                               replace q223 := eq_true q223
                               have p224 : 0 ≤ ((ji29) : Int) := of_decide_eq_true (by first | (with_reducible assumption) | assumption)
                               have q224 : (ji29) < ((rd_L4 x5_2 x6_1).length : Int) := of_decide_eq_true (by first | (with_reducible assumption) | assumption)
                               obtain ⟨ad224, e224, hx224_0⟩ := Kd.at_int (by repeat (first | (with_reducible exact HR223_0.out) | (with_reducible refine Kd.C_alloc ?_ _) | (with_reducible refine Kd.C_drewN ?_ _) | (with_reducible refine Kd.C_drew ?_) | exact HR223_0.out)) (ji29) p224 q224
                               cases e224
                               replace p224 := eq_true p224
                               replace q224 := eq_true q224
                               have p239 : 0 ≤ (x6_1 : Int) := of_decide_eq_true (by first | (with_reducible assumption) | assumption)
                               have q239 : x6_1 < (l0.length : Int) := of_decide_eq_true (by first | (with_reducible assumption) | assumption)
                               obtain ⟨ad239, e239, hx239_0⟩ := Kd.at_string HR0.out x6_1 p239 q239
                               cases e239
                               replace hx239_0 := (HB.out.cell (World.block_lt_of_cell? w _ hx239_0)).trans hx239_0
                               replace p239 := eq_true p239
                               replace q239 := eq_true q239
                               have p240 : 0 ≤ (x7_2 : Int) := of_decide_eq_true (by first | (with_reducible assumption) | assumption)
                               have q240 : x7_2 < (l1.length : Int) := of_decide_eq_true (by first | (with_reducible assumption) | assumption)
                               obtain ⟨ad240, e240, hx240_0⟩ := Kd.at_string HR1.out x7_2 p240 q240
                               cases e240
                               replace hx240_0 := (HB.out.cell (World.block_lt_of_cell? w _ hx240_0)).trans hx240_0
                               replace p240 := eq_true p240
                               replace q240 := eq_true q240
                               have p241 : 0 ≤ ((ji22) : Int) := of_decide_eq_true (by first | (with_reducible assumption) | assumption)
                               have q241 : (ji22) < (x5_2.length : Int) := of_decide_eq_true (by first | (with_reducible assumption) | assumption)
                               obtain ⟨ad241, A241_0, c241_0, e241, hx241_0, hl241_0, hi241_0⟩ := at_L4 (Kd.S_reads' HO_5.out).2.2 (ji22) p241 q241
                               obtain rfl : (⟨go14, 0, none⟩ : Addr) = ad241 := (by injection e241)
                               obtain ⟨ce241, hce241, hMe241, hcc241⟩ := Kd.S_get HO_5.out [] (ji22) p241 (by first | exact q241 | exact of_decide_eq_true (by first | (with_reducible assumption) | assumption) | (have e_ := (Kd.S_reads' HO_5.out).1; omega))
                               obtain ⟨ve241_0, rfl, ge241_0⟩ := hMe241
                               have hv241_0 := hcc241 0 _ rfl
                               rw [Nat.add_zero, show ((Kd.slice 3 (Kd.int .i64))).sz = 1 from rfl, Nat.mul_one] at hv241_0
                               replace hv241_0 := Option.some.inj (hv241_0.symm.trans hx241_0)
                               rw [hv241_0] at ge241_0
                               have HL241_0 := Aside0.mk (show Kd.R (Kd.int .i64) 3 _ _ _ _ (rd_L4 x5_2 (ji22)) from ge241_0)
                               clear hv241_0 ge241_0
                               have HX241_0 := Aside0.mk hx241_0
                               clear hcc241 hce241
                               (first | simp only [add_plain] at hx241_0 | simp only [add_at] at hx241_0 | simp only [Addr.add, Nat.zero_add] at hx241_0 | skip)
                               have HR241_0 := Aside0.mk hi241_0
                               have HC241_0 := Aside0.mk hl241_0
                               clear hi241_0 hl241_0
                               replace p241 := eq_true p241
                               replace q241 := eq_true q241
                               have ea_ := Option.some.inj (hx221_0.symm.trans hx241_0)
                               injection ea_ with ea_ en_ ec_
                               subst ea_
                               subst ec_
                               clear en_
                               have p242 : 0 ≤ ((ji29) : Int) := of_decide_eq_true (by first | (with_reducible assumption) | assumption)
                               have q242 : (ji29) < ((rd_L4 x5_2 (ji22)).length : Int) := of_decide_eq_true (by first | (with_reducible assumption) | assumption)
                               obtain ⟨ad242, e242, hx242_0⟩ := Kd.at_int (by repeat (first | (with_reducible exact HR241_0.out) | (with_reducible refine Kd.C_alloc ?_ _) | (with_reducible refine Kd.C_drewN ?_ _) | (with_reducible refine Kd.C_drew ?_) | exact HR241_0.out)) (ji29) p242 q242
                               cases e242
                               replace p242 := eq_true p242
                               replace q242 := eq_true q242
                               have p243 : 0 ≤ (x6_1 : Int) := of_decide_eq_true (by first | (with_reducible assumption) | assumption)
                               have q243 : x6_1 < (x5_2.length : Int) := of_decide_eq_true (by first | (with_reducible assumption) | assumption)
                               obtain ⟨ad243, A243_0, c243_0, e243, hx243_0, hl243_0, hi243_0⟩ := at_L4 (Kd.S_reads' HO_5.out).2.2 x6_1 p243 q243
                               obtain rfl : (⟨go14, 0, none⟩ : Addr) = ad243 := (by injection e243)
                               obtain ⟨ce243, hce243, hMe243, hcc243⟩ := Kd.S_get HO_5.out [] x6_1 p243 (by first | exact q243 | exact of_decide_eq_true (by first | (with_reducible assumption) | assumption) | (have e_ := (Kd.S_reads' HO_5.out).1; omega))
                               obtain ⟨ve243_0, rfl, ge243_0⟩ := hMe243
                               have hv243_0 := hcc243 0 _ rfl
                               rw [Nat.add_zero, show ((Kd.slice 3 (Kd.int .i64))).sz = 1 from rfl, Nat.mul_one] at hv243_0
                               replace hv243_0 := Option.some.inj (hv243_0.symm.trans hx243_0)
                               rw [hv243_0] at ge243_0
                               have HL243_0 := Aside0.mk (show Kd.R (Kd.int .i64) 3 _ _ _ _ (rd_L4 x5_2 x6_1) from ge243_0)
                               clear hv243_0 ge243_0
                               have HX243_0 := Aside0.mk hx243_0
                               clear hcc243 hce243
                               (first | simp only [add_plain] at hx243_0 | simp only [add_at] at hx243_0 | simp only [Addr.add, Nat.zero_add] at hx243_0 | skip)
                               have HR243_0 := Aside0.mk hi243_0
                               have HC243_0 := Aside0.mk hl243_0
                               clear hi243_0 hl243_0
                               replace p243 := eq_true p243
                               replace q243 := eq_true q243
                               have ea_ := Option.some.inj (hx223_0.symm.trans hx243_0)
                               injection ea_ with ea_ en_ ec_
                               subst ea_
                               subst ec_
                               clear en_
                               have p50 : 0 ≤ (x7_2 : Int) := of_decide_eq_true (by first | (with_reducible assumption) | assumption)
                               have q50 : (x7_2 : Int) < (((rd_L4 x5_2 x6_1).length : Int) : Int) := of_decide_eq_true (by first | (with_reducible assumption) | assumption)
                               obtain ⟨go50, co50, eo50, gb50, gl50, cl50, HG50⟩ := Kd.R_form HL243_0.out (by omega)
                               (first | cases eo50 | (injection eo50 with ea_ en_ ec_; (first | subst ea_ | (injection ea_ with ea_; subst ea_)); subst ec_; clear en_))
                               have GB50 := Aside0.mk gb50
                               have GG50 := Aside0.mk HG50
                               clear gb50 gl50 HG50
                               (first | simp only [add_plain] at hx224_0 | skip)
                               obtain ⟨hx50_0, hf50_0⟩ := Kd.R_celln 0 HL243_0.out (x7_2 : Int) p50 q50
                               replace p50 := eq_true p50
                               replace q50 := eq_true q50
                               have hq51 : (x6_1 : Int) < (x5_2.length : Int) := (by have h_ : (x6_1 : Int) < ((x5_2.length : Int) : Int) := of_decide_eq_true (by first | (with_reducible assumption) | assumption); first | exact h_ | (have e_ := (Kd.S_reads' HO_5.out).1; omega) | simpa only [List.length_set, List.length_set] using h_)
                               obtain ⟨oki51, ce51, hcl51, hM51, hcc51, hok51, hbk51⟩ := Kd.S_borrow HO_5.out [] (x6_1 : Int) (of_decide_eq_true (by first | (with_reducible assumption) | assumption)) hq51
                               obtain ⟨ve51_0, rfl, ge51_0⟩ := hM51
                               have hv51 := hcc51 0 _ rfl
                               rw [Nat.add_zero, show ((Kd.slice 3 (Kd.int .i64))).sz = 1 from rfl, Nat.mul_one] at hv51
                               replace hv51 := Option.some.inj (hv51.symm.trans HX243_0.out)
                               subst hv51
                               clear hcc51 hcl51
                               replace ge51_0 := (show Kd.R (Kd.int .i64) 3 _ _ _ _ (rd_L4 x5_2 x6_1) from ge51_0)
                               have HP51 := Kd.R_putg ge51_0 (x7_2 : Int) (wrap64 ((rd (rd_L4 x5_2 (ji22)) (ji29)) + 1))
                               go_wp2_with (first | ((with_reducible refine gate_store (t := 3) (p := 90) rfl ?_); (try (rw [drewN_self wc]; generalize hq_ : World.drewN wc _ = wc; (try (replace hx221_0 := cell_at hq_ hx221_0)); (try (replace hx222_0 := cell_at hq_ hx222_0)); (try (replace hx223_0 := cell_at hq_ hx223_0)); (try (replace hx224_0 := cell_at hq_ hx224_0)); (try (replace hx239_0 := cell_at hq_ hx239_0)); (try (replace hx240_0 := cell_at hq_ hx240_0)); (try (replace hx241_0 := cell_at hq_ hx241_0)); (try (replace hx242_0 := cell_at hq_ hx242_0)); (try (replace hx243_0 := cell_at hq_ hx243_0)); (try (replace hx50_0 := cell_at hq_ hx50_0)); (try (replace hf50_0 := frozen_at hq_ hf50_0)); (try (replace HX221_0 := Aside0.mk (cell_at hq_ HX221_0.out))); (try (replace HX223_0 := Aside0.mk (cell_at hq_ HX223_0.out))); (try (replace HX235_0 := Aside0.mk (cell_at hq_ HX235_0.out))); (try (replace HX241_0 := Aside0.mk (cell_at hq_ HX241_0.out))); (try (replace HX243_0 := Aside0.mk (cell_at hq_ HX243_0.out))); have n0_ := Aside0.mk (Kd.S_at hq_ HO_5.out); (try have n1_ := Aside0.mk (Kd.R_at hq_ HL253.out)); have n2_ := Aside0.mk (below_at hq_ HB.out); (try clear HL253); clear hq_ HO_5 HB; have HO_5 := n0_; (try have HL253 := n1_); have HB := n2_; (try clear n1_); clear n0_ n2_; (try (have hq51 : (x6_1 : Int) < (x5_2.length : Int) := (by have h_ : (x6_1 : Int) < ((x5_2.length : Int) : Int) := of_decide_eq_true (by first | (with_reducible assumption) | assumption); first | exact h_ | (have e_ := (Kd.S_reads' HO_5.out).1; omega) | simpa only [List.length_set, List.length_set] using h_))); (try (obtain ⟨oki51, ce51, hcl51, hM51, hcc51, hok51, hbk51⟩ := Kd.S_borrow HO_5.out [] (x6_1 : Int) (of_decide_eq_true (by first | (with_reducible assumption) | assumption)) hq51)); (try (obtain ⟨ve51_0, rfl, ge51_0⟩ := hM51)); (try (have hv51 := hcc51 0 _ rfl)); (try (rw [Nat.add_zero, show ((Kd.slice 3 (Kd.int .i64))).sz = 1 from rfl, Nat.mul_one] at hv51)); (try (replace hv51 := Option.some.inj (hv51.symm.trans HX243_0.out))); (try (subst hv51)); (try (clear hcc51 hcl51)); (try (replace ge51_0 := (show Kd.R (Kd.int .i64) 3 _ _ _ _ (rd_L4 x5_2 x6_1) from ge51_0))); (try (have HP51 := Kd.R_putg ge51_0 (x7_2 : Int) (wrap64 ((rd (rd_L4 x5_2 (ji22)) (ji29)) + 1)))))); refine store_event (t := 3) (p := 90) (v := ?vo_w52) (w1 := (wc.setCell ⟨go50, (x7_2 : Int).toNat, none⟩ (.int .i64 (wrap64 ((rd (rd_L4 x5_2 (ji22)) (ji29)) + 1))))) ?hg ?ho ?hn ?hr ?_; (case ho => rfl); (case hg => rfl); (case hn => rfl); (case hr => first | (go_simp; done) | (go_simp; rfl)); intro w52 hw; have hg : wc.grownBy w52 (some go50) := (by rw [hw]; exact HP51.2); have hz_ : Kd.R (Kd.int .i64) 3 w52 w.heap.size oki51 (.slice (some ⟨go50, 0, none⟩) (rd_L4 x5_2 x6_1).length c223_0) y244 := (by rw [hw, Ny244.out]; exact HP51.1); have hp_ : Kd.S (Kd.slice 3 (Kd.int .i64)) 35 w52 w.heap.size (fun _ => True) (.slice (some ⟨go14, 0, none⟩) x5_2.length co14) y246 := (by rw [Ny246.out]; exact hbk51 hg (fun k_ e_ => by injection e_ with e_; subst e_; exact ge51_0.1 _ rfl) (Kd.M_row hz_)); have hm_ := Kd.R_mono hz_ hok51; clear HP51 hbk51; have n0_ := Aside0.mk (hp_); have n1_ := Aside0.mk ((by rw [hw]; exact below_set (HB.out) GB50.out : Below w.heap.size w w52)); have n2_ := Aside0.mk (hm_); have n3_ := Aside0.mk ((Kd.R_reads' hm_).2.1); clear HO_5; clear HB; clear HL221_0; clear HL223_0; clear HL241_0; clear HL243_0; have HO_5 := n0_; have HB := n1_; have HL253 := n2_; have HC245 := n3_; clear n0_ n1_ n2_ n3_; clear hg hw hp_ hz_ hm_ hok51))
                               repeat (go_quiet (first | ((with_reducible refine gate_store (t := 3) (p := 90) rfl ?_); (try (rw [drewN_self wc]; generalize hq_ : World.drewN wc _ = wc; (try (replace hx221_0 := cell_at hq_ hx221_0)); (try (replace hx222_0 := cell_at hq_ hx222_0)); (try (replace hx223_0 := cell_at hq_ hx223_0)); (try (replace hx224_0 := cell_at hq_ hx224_0)); (try (replace hx239_0 := cell_at hq_ hx239_0)); (try (replace hx240_0 := cell_at hq_ hx240_0)); (try (replace hx241_0 := cell_at hq_ hx241_0)); (try (replace hx242_0 := cell_at hq_ hx242_0)); (try (replace hx243_0 := cell_at hq_ hx243_0)); (try (replace hx50_0 := cell_at hq_ hx50_0)); (try (replace hf50_0 := frozen_at hq_ hf50_0)); (try (replace HX221_0 := Aside0.mk (cell_at hq_ HX221_0.out))); (try (replace HX223_0 := Aside0.mk (cell_at hq_ HX223_0.out))); (try (replace HX235_0 := Aside0.mk (cell_at hq_ HX235_0.out))); (try (replace HX241_0 := Aside0.mk (cell_at hq_ HX241_0.out))); (try (replace HX243_0 := Aside0.mk (cell_at hq_ HX243_0.out))); have n0_ := Aside0.mk (Kd.S_at hq_ HO_5.out); (try have n1_ := Aside0.mk (Kd.R_at hq_ HL253.out)); have n2_ := Aside0.mk (below_at hq_ HB.out); (try clear HL253); clear hq_ HO_5 HB; have HO_5 := n0_; (try have HL253 := n1_); have HB := n2_; (try clear n1_); clear n0_ n2_; (try (have hq51 : (x6_1 : Int) < (x5_2.length : Int) := (by have h_ : (x6_1 : Int) < ((x5_2.length : Int) : Int) := of_decide_eq_true (by first | (with_reducible assumption) | assumption); first | exact h_ | (have e_ := (Kd.S_reads' HO_5.out).1; omega) | simpa only [List.length_set, List.length_set] using h_))); (try (obtain ⟨oki51, ce51, hcl51, hM51, hcc51, hok51, hbk51⟩ := Kd.S_borrow HO_5.out [] (x6_1 : Int) (of_decide_eq_true (by first | (with_reducible assumption) | assumption)) hq51)); (try (obtain ⟨ve51_0, rfl, ge51_0⟩ := hM51)); (try (have hv51 := hcc51 0 _ rfl)); (try (rw [Nat.add_zero, show ((Kd.slice 3 (Kd.int .i64))).sz = 1 from rfl, Nat.mul_one] at hv51)); (try (replace hv51 := Option.some.inj (hv51.symm.trans HX243_0.out))); (try (subst hv51)); (try (clear hcc51 hcl51)); (try (replace ge51_0 := (show Kd.R (Kd.int .i64) 3 _ _ _ _ (rd_L4 x5_2 x6_1) from ge51_0))); (try (have HP51 := Kd.R_putg ge51_0 (x7_2 : Int) (wrap64 ((rd (rd_L4 x5_2 (ji22)) (ji29)) + 1)))))); refine store_event (t := 3) (p := 90) (v := ?vo_w52) (w1 := (wc.setCell ⟨go50, (x7_2 : Int).toNat, none⟩ (.int .i64 (wrap64 ((rd (rd_L4 x5_2 (ji22)) (ji29)) + 1))))) ?hg ?ho ?hn ?hr ?_; (case ho => rfl); (case hg => rfl); (case hn => rfl); (case hr => first | (go_simp; done) | (go_simp; rfl)); intro w52 hw; have hg : wc.grownBy w52 (some go50) := (by rw [hw]; exact HP51.2); have hz_ : Kd.R (Kd.int .i64) 3 w52 w.heap.size oki51 (.slice (some ⟨go50, 0, none⟩) (rd_L4 x5_2 x6_1).length c223_0) y244 := (by rw [hw, Ny244.out]; exact HP51.1); have hp_ : Kd.S (Kd.slice 3 (Kd.int .i64)) 35 w52 w.heap.size (fun _ => True) (.slice (some ⟨go14, 0, none⟩) x5_2.length co14) y246 := (by rw [Ny246.out]; exact hbk51 hg (fun k_ e_ => by injection e_ with e_; subst e_; exact ge51_0.1 _ rfl) (Kd.M_row hz_)); have hm_ := Kd.R_mono hz_ hok51; clear HP51 hbk51; have n0_ := Aside0.mk (hp_); have n1_ := Aside0.mk ((by rw [hw]; exact below_set (HB.out) GB50.out : Below w.heap.size w w52)); have n2_ := Aside0.mk (hm_); have n3_ := Aside0.mk ((Kd.R_reads' hm_).2.1); clear HO_5; clear HB; clear HL221_0; clear HL223_0; clear HL241_0; clear HL243_0; have HO_5 := n0_; have HB := n1_; have HL253 := n2_; have HC245 := n3_; clear n0_ n1_ n2_ n3_; clear hg hw hp_ hz_ hm_ hok51)); try go_wp2_with (first | ((with_reducible refine gate_store (t := 3) (p := 90) rfl ?_); (try (rw [drewN_self wc]; generalize hq_ : World.drewN wc _ = wc; (try (replace hx221_0 := cell_at hq_ hx221_0)); (try (replace hx222_0 := cell_at hq_ hx222_0)); (try (replace hx223_0 := cell_at hq_ hx223_0)); (try (replace hx224_0 := cell_at hq_ hx224_0)); (try (replace hx239_0 := cell_at hq_ hx239_0)); (try (replace hx240_0 := cell_at hq_ hx240_0)); (try (replace hx241_0 := cell_at hq_ hx241_0)); (try (replace hx242_0 := cell_at hq_ hx242_0)); (try (replace hx243_0 := cell_at hq_ hx243_0)); (try (replace hx50_0 := cell_at hq_ hx50_0)); (try (replace hf50_0 := frozen_at hq_ hf50_0)); (try (replace HX221_0 := Aside0.mk (cell_at hq_ HX221_0.out))); (try (replace HX223_0 := Aside0.mk (cell_at hq_ HX223_0.out))); (try (replace HX241_0 := Aside0.mk (cell_at hq_ HX241_0.out))); (try (replace HX243_0 := Aside0.mk (cell_at hq_ HX243_0.out))); have n0_ := Aside0.mk (Kd.S_at hq_ HO_5.out); (try have n1_ := Aside0.mk (Kd.R_at hq_ HL253.out)); have n2_ := Aside0.mk (below_at hq_ HB.out); (try clear HL253); clear hq_ HO_5 HB; have HO_5 := n0_; (try have HL253 := n1_); have HB := n2_; (try clear n1_); clear n0_ n2_; (try (have hq51 : (x6_1 : Int) < (x5_2.length : Int) := (by have h_ : (x6_1 : Int) < ((x5_2.length : Int) : Int) := of_decide_eq_true (by first | (with_reducible assumption) | assumption); first | exact h_ | (have e_ := (Kd.S_reads' HO_5.out).1; omega) | simpa only [List.length_set, List.length_set] using h_))); (try (obtain ⟨oki51, ce51, hcl51, hM51, hcc51, hok51, hbk51⟩ := Kd.S_borrow HO_5.out [] (x6_1 : Int) (of_decide_eq_true (by first | (with_reducible assumption) | assumption)) hq51)); (try (obtain ⟨ve51_0, rfl, ge51_0⟩ := hM51)); (try (have hv51 := hcc51 0 _ rfl)); (try (rw [Nat.add_zero, show ((Kd.slice 3 (Kd.int .i64))).sz = 1 from rfl, Nat.mul_one] at hv51)); (try (replace hv51 := Option.some.inj (hv51.symm.trans HX243_0.out))); (try (subst hv51)); (try (clear hcc51 hcl51)); (try (replace ge51_0 := (show Kd.R (Kd.int .i64) 3 _ _ _ _ (rd_L4 x5_2 x6_1) from ge51_0))); (try (have HP51 := Kd.R_putg ge51_0 (x7_2 : Int) (wrap64 ((rd (rd_L4 x5_2 (ji22)) (ji29)) + 1)))))); refine store_event (t := 3) (p := 90) (v := ?vo_w52) (w1 := (wc.setCell ⟨go50, (x7_2 : Int).toNat, none⟩ (.int .i64 (wrap64 ((rd (rd_L4 x5_2 (ji22)) (ji29)) + 1))))) ?hg ?ho ?hn ?hr ?_; (case ho => rfl); (case hg => rfl); (case hn => rfl); (case hr => first | (go_simp; done) | (go_simp; rfl)); intro w52 hw; have hg : wc.grownBy w52 (some go50) := (by rw [hw]; exact HP51.2); have hz_ : Kd.R (Kd.int .i64) 3 w52 w.heap.size oki51 (.slice (some ⟨go50, 0, none⟩) (rd_L4 x5_2 x6_1).length c223_0) y244 := (by rw [hw, Ny244.out]; exact HP51.1); have hp_ : Kd.S (Kd.slice 3 (Kd.int .i64)) 35 w52 w.heap.size (fun _ => True) (.slice (some ⟨go14, 0, none⟩) x5_2.length co14) y246 := (by rw [Ny246.out]; exact hbk51 hg (fun k_ e_ => by injection e_ with e_; subst e_; exact ge51_0.1 _ rfl) (Kd.M_row hz_)); have hm_ := Kd.R_mono hz_ hok51; clear HP51 hbk51; have n0_ := Aside0.mk (hp_); have n1_ := Aside0.mk ((by rw [hw]; exact below_set (HB.out) GB50.out : Below w.heap.size w w52)); have n2_ := Aside0.mk (hm_); have n3_ := Aside0.mk ((Kd.R_reads' hm_).2.1); clear HO_5; clear HB; clear HL221_0; clear HL223_0; clear HL241_0; clear HL243_0; have HO_5 := n0_; have HB := n1_; have HL253 := n2_; have HC245 := n3_; clear n0_ n1_ n2_ n3_; clear hg hw hp_ hz_ hm_ hok51)))
                               (try simp only [← hl5_2])
                               go_roundg kj18
                               case measure => have := HK1.out; have := HK2.out; have := HJ18.out; omega
                               case rel => exact ⟨(y246), (wrap64 (x7_2 - 1)), (by first | rfl | (simp; done) | (simp [*]; done)), H', ⟨by have := HK1.out; have := HK2.out; have := HJ18.out; omega⟩, ⟨by (try simp only [hl5_2]); (with_reducible repeat (first | apply Kd.S_alloc | apply Kd.S_drewN | apply Kd.S_drew)); exact HO_5.out⟩, ⟨by repeat (first | (with_reducible first | exact HB.out | apply below_alloc | apply pw_below_drewN | apply below_drew1) | exact HB.out)⟩⟩
                              ·rw [if_neg c49] at H
                               exact absurd H (by simp)
                             ·rw [if_neg c48] at H
                              exact absurd H (by simp)
                            ·rw [if_neg c47] at H
                             have c47b0 : ((rdOf ByteArray.empty l0 x6_1).toList == (rdOf ByteArray.empty l1 x7_2).toList) = false := beq_eq_false_iff_ne.mpr c47
                             have c47b1 : ((rdOf ByteArray.empty l0 x6_1).toList != (rdOf ByteArray.empty l1 x7_2).toList) = true := bne_iff_ne.mpr c47
                             by_cases c53 : x7_2 < ((rd_L4 x5_2 x6_1).length : Int)
                             ·rw [if_pos c53] at H
                              have c53b0 : decide (x7_2 < ((rd_L4 x5_2 x6_1).length : Int)) = true := decide_eq_true c53
                              clear c53
                              obtain ⟨y248, hy248⟩ : ∃ y_ : List Int, y_ = ((rd_L4 x5_2 x6_1).set (x7_2 : Int).toNat (rd (rd_L4 x5_2 (ji22)) x7_2)) := ⟨_, rfl⟩
                              replace H : (spec_l04Table.l1 kj18 l0 l1 (x5_2.set (x6_1 : Int).toNat y248) x6_1 (wrap64 (x7_2 - 1))) = some r := by first | (rw [hy248]; with_reducible exact H) | (have H2_ := (Option.bind_some _ _).symm.trans H; rw [hy248]; with_reducible exact H2_) | (have H2_ := (Option.bind_some _ _).symm.trans H; with_reducible exact H2_) | with_reducible exact H | (rw [hy248]; exact H) | exact H
                              have Ny248 := Aside0.mk hy248
                              clear hy248
                              obtain ⟨y250, hy250⟩ : ∃ y_ : List (List Int), y_ = (x5_2.set (x6_1 : Int).toNat y248) := ⟨_, rfl⟩
                              replace H : (spec_l04Table.l1 kj18 l0 l1 y250 x6_1 (wrap64 (x7_2 - 1))) = some r := by first | (rw [hy250]; with_reducible exact H) | (have H2_ := (Option.bind_some _ _).symm.trans H; rw [hy250]; with_reducible exact H2_) | (have H2_ := (Option.bind_some _ _).symm.trans H; with_reducible exact H2_) | with_reducible exact H | (rw [hy250]; exact H) | exact H
                              have Ny250 := Aside0.mk hy250
                              clear hy250
                              have H' := Aside0.mk H
                              clear H
                              have p221 : 0 ≤ ((ji22) : Int) := of_decide_eq_true (by first | (with_reducible assumption) | assumption)
                              have q221 : (ji22) < (x5_2.length : Int) := of_decide_eq_true (by first | (with_reducible assumption) | assumption)
                              obtain ⟨ad221, A221_0, c221_0, e221, hx221_0, hl221_0, hi221_0⟩ := at_L4 (Kd.S_reads' HO_5.out).2.2 (ji22) p221 q221
                              obtain rfl : (⟨go14, 0, none⟩ : Addr) = ad221 := (by injection e221)
                              obtain ⟨ce221, hce221, hMe221, hcc221⟩ := Kd.S_get HO_5.out [] (ji22) p221 (by first | exact q221 | exact of_decide_eq_true (by first | (with_reducible assumption) | assumption) | (have e_ := (Kd.S_reads' HO_5.out).1; omega))
                              obtain ⟨ve221_0, rfl, ge221_0⟩ := hMe221
                              have hv221_0 := hcc221 0 _ rfl
                              rw [Nat.add_zero, show ((Kd.slice 3 (Kd.int .i64))).sz = 1 from rfl, Nat.mul_one] at hv221_0
                              replace hv221_0 := Option.some.inj (hv221_0.symm.trans hx221_0)
                              rw [hv221_0] at ge221_0
                              have HL221_0 := Aside0.mk (show Kd.R (Kd.int .i64) 3 _ _ _ _ (rd_L4 x5_2 (ji22)) from ge221_0)
                              clear hv221_0 ge221_0
                              have HX221_0 := Aside0.mk hx221_0
                              clear hcc221 hce221
                              (first | simp only [add_plain] at hx221_0 | simp only [add_at] at hx221_0 | simp only [Addr.add, Nat.zero_add] at hx221_0 | skip)
                              have HR221_0 := Aside0.mk hi221_0
                              have HC221_0 := Aside0.mk hl221_0
                              clear hi221_0 hl221_0
                              replace p221 := eq_true p221
                              replace q221 := eq_true q221
                              have p222 : 0 ≤ (x7_2 : Int) := of_decide_eq_true (by first | (with_reducible assumption) | assumption)
                              have q222 : x7_2 < ((rd_L4 x5_2 (ji22)).length : Int) := of_decide_eq_true (by first | (with_reducible assumption) | assumption)
                              obtain ⟨ad222, e222, hx222_0⟩ := Kd.at_int (by repeat (first | (with_reducible exact HR221_0.out) | (with_reducible refine Kd.C_alloc ?_ _) | (with_reducible refine Kd.C_drewN ?_ _) | (with_reducible refine Kd.C_drew ?_) | exact HR221_0.out)) x7_2 p222 q222
                              cases e222
                              replace p222 := eq_true p222
                              replace q222 := eq_true q222
                              have p223 : 0 ≤ (x6_1 : Int) := of_decide_eq_true (by first | (with_reducible assumption) | assumption)
                              have q223 : x6_1 < (x5_2.length : Int) := of_decide_eq_true (by first | (with_reducible assumption) | assumption)
                              obtain ⟨ad223, A223_0, c223_0, e223, hx223_0, hl223_0, hi223_0⟩ := at_L4 (Kd.S_reads' HO_5.out).2.2 x6_1 p223 q223
                              obtain rfl : (⟨go14, 0, none⟩ : Addr) = ad223 := (by injection e223)
                              obtain ⟨ce223, hce223, hMe223, hcc223⟩ := Kd.S_get HO_5.out [] x6_1 p223 (by first | exact q223 | exact of_decide_eq_true (by first | (with_reducible assumption) | assumption) | (have e_ := (Kd.S_reads' HO_5.out).1; omega))
                              obtain ⟨ve223_0, rfl, ge223_0⟩ := hMe223
                              have hv223_0 := hcc223 0 _ rfl
                              rw [Nat.add_zero, show ((Kd.slice 3 (Kd.int .i64))).sz = 1 from rfl, Nat.mul_one] at hv223_0
                              replace hv223_0 := Option.some.inj (hv223_0.symm.trans hx223_0)
                              rw [hv223_0] at ge223_0
                              have HL223_0 := Aside0.mk (show Kd.R (Kd.int .i64) 3 _ _ _ _ (rd_L4 x5_2 x6_1) from ge223_0)
                              clear hv223_0 ge223_0
                              have HX223_0 := Aside0.mk hx223_0
                              clear hcc223 hce223
                              (first | simp only [add_plain] at hx223_0 | simp only [add_at] at hx223_0 | simp only [Addr.add, Nat.zero_add] at hx223_0 | skip)
                              have HR223_0 := Aside0.mk hi223_0
                              have HC223_0 := Aside0.mk hl223_0
                              clear hi223_0 hl223_0
                              replace p223 := eq_true p223
                              replace q223 := eq_true q223
                              have p224 : 0 ≤ ((ji29) : Int) := of_decide_eq_true (by first | (with_reducible assumption) | assumption)
                              have q224 : (ji29) < ((rd_L4 x5_2 x6_1).length : Int) := of_decide_eq_true (by first | (with_reducible assumption) | assumption)
                              obtain ⟨ad224, e224, hx224_0⟩ := Kd.at_int (by repeat (first | (with_reducible exact HR223_0.out) | (with_reducible refine Kd.C_alloc ?_ _) | (with_reducible refine Kd.C_drewN ?_ _) | (with_reducible refine Kd.C_drew ?_) | exact HR223_0.out)) (ji29) p224 q224
                              cases e224
                              replace p224 := eq_true p224
                              replace q224 := eq_true q224
                              have p239 : 0 ≤ (x6_1 : Int) := of_decide_eq_true (by first | (with_reducible assumption) | assumption)
                              have q239 : x6_1 < (l0.length : Int) := of_decide_eq_true (by first | (with_reducible assumption) | assumption)
                              obtain ⟨ad239, e239, hx239_0⟩ := Kd.at_string HR0.out x6_1 p239 q239
                              cases e239
                              replace hx239_0 := (HB.out.cell (World.block_lt_of_cell? w _ hx239_0)).trans hx239_0
                              replace p239 := eq_true p239
                              replace q239 := eq_true q239
                              have p240 : 0 ≤ (x7_2 : Int) := of_decide_eq_true (by first | (with_reducible assumption) | assumption)
                              have q240 : x7_2 < (l1.length : Int) := of_decide_eq_true (by first | (with_reducible assumption) | assumption)
                              obtain ⟨ad240, e240, hx240_0⟩ := Kd.at_string HR1.out x7_2 p240 q240
                              cases e240
                              replace hx240_0 := (HB.out.cell (World.block_lt_of_cell? w _ hx240_0)).trans hx240_0
                              replace p240 := eq_true p240
                              replace q240 := eq_true q240
                              have p247 : 0 ≤ (x6_1 : Int) := of_decide_eq_true (by first | (with_reducible assumption) | assumption)
                              have q247 : x6_1 < (x5_2.length : Int) := of_decide_eq_true (by first | (with_reducible assumption) | assumption)
                              obtain ⟨ad247, A247_0, c247_0, e247, hx247_0, hl247_0, hi247_0⟩ := at_L4 (Kd.S_reads' HO_5.out).2.2 x6_1 p247 q247
                              obtain rfl : (⟨go14, 0, none⟩ : Addr) = ad247 := (by injection e247)
                              obtain ⟨ce247, hce247, hMe247, hcc247⟩ := Kd.S_get HO_5.out [] x6_1 p247 (by first | exact q247 | exact of_decide_eq_true (by first | (with_reducible assumption) | assumption) | (have e_ := (Kd.S_reads' HO_5.out).1; omega))
                              obtain ⟨ve247_0, rfl, ge247_0⟩ := hMe247
                              have hv247_0 := hcc247 0 _ rfl
                              rw [Nat.add_zero, show ((Kd.slice 3 (Kd.int .i64))).sz = 1 from rfl, Nat.mul_one] at hv247_0
                              replace hv247_0 := Option.some.inj (hv247_0.symm.trans hx247_0)
                              rw [hv247_0] at ge247_0
                              have HL247_0 := Aside0.mk (show Kd.R (Kd.int .i64) 3 _ _ _ _ (rd_L4 x5_2 x6_1) from ge247_0)
                              clear hv247_0 ge247_0
                              have HX247_0 := Aside0.mk hx247_0
                              clear hcc247 hce247
                              (first | simp only [add_plain] at hx247_0 | simp only [add_at] at hx247_0 | simp only [Addr.add, Nat.zero_add] at hx247_0 | skip)
                              have HR247_0 := Aside0.mk hi247_0
                              have HC247_0 := Aside0.mk hl247_0
                              clear hi247_0 hl247_0
                              replace p247 := eq_true p247
                              replace q247 := eq_true q247
                              have ea_ := Option.some.inj (hx223_0.symm.trans hx247_0)
                              injection ea_ with ea_ en_ ec_
                              subst ea_
                              subst ec_
                              clear en_
                              have p54 : 0 ≤ (x7_2 : Int) := of_decide_eq_true (by first | (with_reducible assumption) | assumption)
                              have q54 : (x7_2 : Int) < (((rd_L4 x5_2 x6_1).length : Int) : Int) := of_decide_eq_true (by first | (with_reducible assumption) | assumption)
                              obtain ⟨go54, co54, eo54, gb54, gl54, cl54, HG54⟩ := Kd.R_form HL247_0.out (by omega)
                              (first | cases eo54 | (injection eo54 with ea_ en_ ec_; (first | subst ea_ | (injection ea_ with ea_; subst ea_)); subst ec_; clear en_))
                              have GB54 := Aside0.mk gb54
                              have GG54 := Aside0.mk HG54
                              clear gb54 gl54 HG54
                              (first | simp only [add_plain] at hx224_0 | skip)
                              obtain ⟨hx54_0, hf54_0⟩ := Kd.R_celln 0 HL247_0.out (x7_2 : Int) p54 q54
                              replace p54 := eq_true p54
                              replace q54 := eq_true q54
                              have hq55 : (x6_1 : Int) < (x5_2.length : Int) := (by have h_ : (x6_1 : Int) < ((x5_2.length : Int) : Int) := of_decide_eq_true (by first | (with_reducible assumption) | assumption); first | exact h_ | (have e_ := (Kd.S_reads' HO_5.out).1; omega) | simpa only [List.length_set, List.length_set] using h_)
                              obtain ⟨oki55, ce55, hcl55, hM55, hcc55, hok55, hbk55⟩ := Kd.S_borrow HO_5.out [] (x6_1 : Int) (of_decide_eq_true (by first | (with_reducible assumption) | assumption)) hq55
                              obtain ⟨ve55_0, rfl, ge55_0⟩ := hM55
                              have hv55 := hcc55 0 _ rfl
                              rw [Nat.add_zero, show ((Kd.slice 3 (Kd.int .i64))).sz = 1 from rfl, Nat.mul_one] at hv55
                              replace hv55 := Option.some.inj (hv55.symm.trans HX247_0.out)
                              subst hv55
                              clear hcc55 hcl55
                              replace ge55_0 := (show Kd.R (Kd.int .i64) 3 _ _ _ _ (rd_L4 x5_2 x6_1) from ge55_0)
                              have HP55 := Kd.R_putg ge55_0 (x7_2 : Int) (rd (rd_L4 x5_2 (ji22)) x7_2)
                              go_wp2_with (first | ((with_reducible refine gate_store (t := 3) (p := 90) rfl ?_); (try (rw [drewN_self wc]; generalize hq_ : World.drewN wc _ = wc; (try (replace hx221_0 := cell_at hq_ hx221_0)); (try (replace hx222_0 := cell_at hq_ hx222_0)); (try (replace hx223_0 := cell_at hq_ hx223_0)); (try (replace hx224_0 := cell_at hq_ hx224_0)); (try (replace hx239_0 := cell_at hq_ hx239_0)); (try (replace hx240_0 := cell_at hq_ hx240_0)); (try (replace hx243_0 := cell_at hq_ hx243_0)); (try (replace hx247_0 := cell_at hq_ hx247_0)); (try (replace hx50_0 := cell_at hq_ hx50_0)); (try (replace hx54_0 := cell_at hq_ hx54_0)); (try (replace hf50_0 := frozen_at hq_ hf50_0)); (try (replace hf54_0 := frozen_at hq_ hf54_0)); (try (replace HX221_0 := Aside0.mk (cell_at hq_ HX221_0.out))); (try (replace HX223_0 := Aside0.mk (cell_at hq_ HX223_0.out))); (try (replace HX243_0 := Aside0.mk (cell_at hq_ HX243_0.out))); (try (replace HX247_0 := Aside0.mk (cell_at hq_ HX247_0.out))); have n0_ := Aside0.mk (Kd.S_at hq_ HO_5.out); (try have n1_ := Aside0.mk (Kd.R_at hq_ HL254.out)); have n2_ := Aside0.mk (below_at hq_ HB.out); (try clear HL254); clear hq_ HO_5 HB; have HO_5 := n0_; (try have HL254 := n1_); have HB := n2_; (try clear n1_); clear n0_ n2_; (try (have hq55 : (x6_1 : Int) < (x5_2.length : Int) := (by have h_ : (x6_1 : Int) < ((x5_2.length : Int) : Int) := of_decide_eq_true (by first | (with_reducible assumption) | assumption); first | exact h_ | (have e_ := (Kd.S_reads' HO_5.out).1; omega) | simpa only [List.length_set, List.length_set] using h_))); (try (obtain ⟨oki55, ce55, hcl55, hM55, hcc55, hok55, hbk55⟩ := Kd.S_borrow HO_5.out [] (x6_1 : Int) (of_decide_eq_true (by first | (with_reducible assumption) | assumption)) hq55)); (try (obtain ⟨ve55_0, rfl, ge55_0⟩ := hM55)); (try (have hv55 := hcc55 0 _ rfl)); (try (rw [Nat.add_zero, show ((Kd.slice 3 (Kd.int .i64))).sz = 1 from rfl, Nat.mul_one] at hv55)); (try (replace hv55 := Option.some.inj (hv55.symm.trans HX247_0.out))); (try (subst hv55)); (try (clear hcc55 hcl55)); (try (replace ge55_0 := (show Kd.R (Kd.int .i64) 3 _ _ _ _ (rd_L4 x5_2 x6_1) from ge55_0))); (try (have HP55 := Kd.R_putg ge55_0 (x7_2 : Int) (rd (rd_L4 x5_2 (ji22)) x7_2))))); refine store_event (t := 3) (p := 90) (v := ?vo_w56) (w1 := (wc.setCell ⟨go54, (x7_2 : Int).toNat, none⟩ (.int .i64 (rd (rd_L4 x5_2 (ji22)) x7_2)))) ?hg ?ho ?hn ?hr ?_; (case ho => rfl); (case hg => rfl); (case hn => rfl); (case hr => first | (go_simp; done) | (go_simp; rfl)); intro w56 hw; have hg : wc.grownBy w56 (some go54) := (by rw [hw]; exact HP55.2); have hz_ : Kd.R (Kd.int .i64) 3 w56 w.heap.size oki55 (.slice (some ⟨go54, 0, none⟩) (rd_L4 x5_2 x6_1).length c223_0) y248 := (by rw [hw, Ny248.out]; exact HP55.1); have hp_ : Kd.S (Kd.slice 3 (Kd.int .i64)) 35 w56 w.heap.size (fun _ => True) (.slice (some ⟨go14, 0, none⟩) x5_2.length co14) y250 := (by rw [Ny250.out]; exact hbk55 hg (fun k_ e_ => by injection e_ with e_; subst e_; exact ge55_0.1 _ rfl) (Kd.M_row hz_)); have hm_ := Kd.R_mono hz_ hok55; clear HP55 hbk55; have n0_ := Aside0.mk (hp_); have n1_ := Aside0.mk ((by rw [hw]; exact below_set (HB.out) GB54.out : Below w.heap.size w w56)); have n2_ := Aside0.mk (hm_); have n3_ := Aside0.mk ((Kd.R_reads' hm_).2.1); clear HO_5; clear HB; clear HL221_0; clear HL223_0; clear HL247_0; have HO_5 := n0_; have HB := n1_; have HL254 := n2_; have HC249 := n3_; clear n0_ n1_ n2_ n3_; clear hg hw hp_ hz_ hm_ hok55))
                              repeat (go_quiet (first | ((with_reducible refine gate_store (t := 3) (p := 90) rfl ?_); (try (rw [drewN_self wc]; generalize hq_ : World.drewN wc _ = wc; (try (replace hx221_0 := cell_at hq_ hx221_0)); (try (replace hx222_0 := cell_at hq_ hx222_0)); (try (replace hx223_0 := cell_at hq_ hx223_0)); (try (replace hx224_0 := cell_at hq_ hx224_0)); (try (replace hx239_0 := cell_at hq_ hx239_0)); (try (replace hx240_0 := cell_at hq_ hx240_0)); (try (replace hx247_0 := cell_at hq_ hx247_0)); (try (replace hx54_0 := cell_at hq_ hx54_0)); (try (replace hf54_0 := frozen_at hq_ hf54_0)); (try (replace HX221_0 := Aside0.mk (cell_at hq_ HX221_0.out))); (try (replace HX223_0 := Aside0.mk (cell_at hq_ HX223_0.out))); (try (replace HX243_0 := Aside0.mk (cell_at hq_ HX243_0.out))); (try (replace HX247_0 := Aside0.mk (cell_at hq_ HX247_0.out))); have n0_ := Aside0.mk (Kd.S_at hq_ HO_5.out); (try have n1_ := Aside0.mk (Kd.R_at hq_ HL254.out)); have n2_ := Aside0.mk (below_at hq_ HB.out); (try clear HL254); clear hq_ HO_5 HB; have HO_5 := n0_; (try have HL254 := n1_); have HB := n2_; (try clear n1_); clear n0_ n2_; (try (have hq55 : (x6_1 : Int) < (x5_2.length : Int) := (by have h_ : (x6_1 : Int) < ((x5_2.length : Int) : Int) := of_decide_eq_true (by first | (with_reducible assumption) | assumption); first | exact h_ | (have e_ := (Kd.S_reads' HO_5.out).1; omega) | simpa only [List.length_set, List.length_set] using h_))); (try (obtain ⟨oki55, ce55, hcl55, hM55, hcc55, hok55, hbk55⟩ := Kd.S_borrow HO_5.out [] (x6_1 : Int) (of_decide_eq_true (by first | (with_reducible assumption) | assumption)) hq55)); (try (obtain ⟨ve55_0, rfl, ge55_0⟩ := hM55)); (try (have hv55 := hcc55 0 _ rfl)); (try (rw [Nat.add_zero, show ((Kd.slice 3 (Kd.int .i64))).sz = 1 from rfl, Nat.mul_one] at hv55)); (try (replace hv55 := Option.some.inj (hv55.symm.trans HX247_0.out))); (try (subst hv55)); (try (clear hcc55 hcl55)); (try (replace ge55_0 := (show Kd.R (Kd.int .i64) 3 _ _ _ _ (rd_L4 x5_2 x6_1) from ge55_0))); (try (have HP55 := Kd.R_putg ge55_0 (x7_2 : Int) (rd (rd_L4 x5_2 (ji22)) x7_2))))); refine store_event (t := 3) (p := 90) (v := ?vo_w56) (w1 := (wc.setCell ⟨go54, (x7_2 : Int).toNat, none⟩ (.int .i64 (rd (rd_L4 x5_2 (ji22)) x7_2)))) ?hg ?ho ?hn ?hr ?_; (case ho => rfl); (case hg => rfl); (case hn => rfl); (case hr => first | (go_simp; done) | (go_simp; rfl)); intro w56 hw; have hg : wc.grownBy w56 (some go54) := (by rw [hw]; exact HP55.2); have hz_ : Kd.R (Kd.int .i64) 3 w56 w.heap.size oki55 (.slice (some ⟨go54, 0, none⟩) (rd_L4 x5_2 x6_1).length c223_0) y248 := (by rw [hw, Ny248.out]; exact HP55.1); have hp_ : Kd.S (Kd.slice 3 (Kd.int .i64)) 35 w56 w.heap.size (fun _ => True) (.slice (some ⟨go14, 0, none⟩) x5_2.length co14) y250 := (by rw [Ny250.out]; exact hbk55 hg (fun k_ e_ => by injection e_ with e_; subst e_; exact ge55_0.1 _ rfl) (Kd.M_row hz_)); have hm_ := Kd.R_mono hz_ hok55; clear HP55 hbk55; have n0_ := Aside0.mk (hp_); have n1_ := Aside0.mk ((by rw [hw]; exact below_set (HB.out) GB54.out : Below w.heap.size w w56)); have n2_ := Aside0.mk (hm_); have n3_ := Aside0.mk ((Kd.R_reads' hm_).2.1); clear HO_5; clear HB; clear HL221_0; clear HL223_0; clear HL247_0; have HO_5 := n0_; have HB := n1_; have HL254 := n2_; have HC249 := n3_; clear n0_ n1_ n2_ n3_; clear hg hw hp_ hz_ hm_ hok55)); try go_wp2_with (first | ((with_reducible refine gate_store (t := 3) (p := 90) rfl ?_); (try (rw [drewN_self wc]; generalize hq_ : World.drewN wc _ = wc; (try (replace hx221_0 := cell_at hq_ hx221_0)); (try (replace hx222_0 := cell_at hq_ hx222_0)); (try (replace hx223_0 := cell_at hq_ hx223_0)); (try (replace hx224_0 := cell_at hq_ hx224_0)); (try (replace hx239_0 := cell_at hq_ hx239_0)); (try (replace hx240_0 := cell_at hq_ hx240_0)); (try (replace hx247_0 := cell_at hq_ hx247_0)); (try (replace hx54_0 := cell_at hq_ hx54_0)); (try (replace hf54_0 := frozen_at hq_ hf54_0)); (try (replace HX221_0 := Aside0.mk (cell_at hq_ HX221_0.out))); (try (replace HX223_0 := Aside0.mk (cell_at hq_ HX223_0.out))); (try (replace HX243_0 := Aside0.mk (cell_at hq_ HX243_0.out))); (try (replace HX247_0 := Aside0.mk (cell_at hq_ HX247_0.out))); have n0_ := Aside0.mk (Kd.S_at hq_ HO_5.out); (try have n1_ := Aside0.mk (Kd.R_at hq_ HL254.out)); have n2_ := Aside0.mk (below_at hq_ HB.out); (try clear HL254); clear hq_ HO_5 HB; have HO_5 := n0_; (try have HL254 := n1_); have HB := n2_; (try clear n1_); clear n0_ n2_; (try (have hq55 : (x6_1 : Int) < (x5_2.length : Int) := (by have h_ : (x6_1 : Int) < ((x5_2.length : Int) : Int) := of_decide_eq_true (by first | (with_reducible assumption) | assumption); first | exact h_ | (have e_ := (Kd.S_reads' HO_5.out).1; omega) | simpa only [List.length_set, List.length_set] using h_))); (try (obtain ⟨oki55, ce55, hcl55, hM55, hcc55, hok55, hbk55⟩ := Kd.S_borrow HO_5.out [] (x6_1 : Int) (of_decide_eq_true (by first | (with_reducible assumption) | assumption)) hq55)); (try (obtain ⟨ve55_0, rfl, ge55_0⟩ := hM55)); (try (have hv55 := hcc55 0 _ rfl)); (try (rw [Nat.add_zero, show ((Kd.slice 3 (Kd.int .i64))).sz = 1 from rfl, Nat.mul_one] at hv55)); (try (replace hv55 := Option.some.inj (hv55.symm.trans HX247_0.out))); (try (subst hv55)); (try (clear hcc55 hcl55)); (try (replace ge55_0 := (show Kd.R (Kd.int .i64) 3 _ _ _ _ (rd_L4 x5_2 x6_1) from ge55_0))); (try (have HP55 := Kd.R_putg ge55_0 (x7_2 : Int) (rd (rd_L4 x5_2 (ji22)) x7_2))))); refine store_event (t := 3) (p := 90) (v := ?vo_w56) (w1 := (wc.setCell ⟨go54, (x7_2 : Int).toNat, none⟩ (.int .i64 (rd (rd_L4 x5_2 (ji22)) x7_2)))) ?hg ?ho ?hn ?hr ?_; (case ho => rfl); (case hg => rfl); (case hn => rfl); (case hr => first | (go_simp; done) | (go_simp; rfl)); intro w56 hw; have hg : wc.grownBy w56 (some go54) := (by rw [hw]; exact HP55.2); have hz_ : Kd.R (Kd.int .i64) 3 w56 w.heap.size oki55 (.slice (some ⟨go54, 0, none⟩) (rd_L4 x5_2 x6_1).length c223_0) y248 := (by rw [hw, Ny248.out]; exact HP55.1); have hp_ : Kd.S (Kd.slice 3 (Kd.int .i64)) 35 w56 w.heap.size (fun _ => True) (.slice (some ⟨go14, 0, none⟩) x5_2.length co14) y250 := (by rw [Ny250.out]; exact hbk55 hg (fun k_ e_ => by injection e_ with e_; subst e_; exact ge55_0.1 _ rfl) (Kd.M_row hz_)); have hm_ := Kd.R_mono hz_ hok55; clear HP55 hbk55; have n0_ := Aside0.mk (hp_); have n1_ := Aside0.mk ((by rw [hw]; exact below_set (HB.out) GB54.out : Below w.heap.size w w56)); have n2_ := Aside0.mk (hm_); have n3_ := Aside0.mk ((Kd.R_reads' hm_).2.1); clear HO_5; clear HB; clear HL221_0; clear HL223_0; clear HL247_0; have HO_5 := n0_; have HB := n1_; have HL254 := n2_; have HC249 := n3_; clear n0_ n1_ n2_ n3_; clear hg hw hp_ hz_ hm_ hok55)))
                              (try simp only [← hl5_2])
                              go_roundg kj18
                              case measure => have := HK1.out; have := HK2.out; have := HJ18.out; omega
                              case rel => exact ⟨(y250), (wrap64 (x7_2 - 1)), (by first | rfl | (simp; done) | (simp [*]; done)), H', ⟨by have := HK1.out; have := HK2.out; have := HJ18.out; omega⟩, ⟨by (try simp only [hl5_2]); (with_reducible repeat (first | apply Kd.S_alloc | apply Kd.S_drewN | apply Kd.S_drew)); exact HO_5.out⟩, ⟨by repeat (first | (with_reducible first | exact HB.out | apply below_alloc | apply pw_below_drewN | apply below_drew1) | exact HB.out)⟩⟩
                             ·rw [if_neg c53] at H
                              exact absurd H (by simp)
                           ·rw [if_neg c46] at H
                            exact absurd H (by simp)
                          ·rw [if_neg c45] at H
                           exact absurd H (by simp)
                        ·rw [if_neg c31] at H
                         exact absurd H (by simp)
                       ·rw [if_neg c30] at H
                        exact absurd H (by simp)
                      ·rw [if_neg c28] at H
                       exact absurd H (by simp)
                     ·rw [if_neg c27] at H
                      exact absurd H (by simp)
                    ·rw [if_neg c26] at H
                     exact absurd H (by simp)
                   ·rw [if_neg c25] at H
                    exact absurd H (by simp)
                  ·rw [if_neg c24] at H
                   exact absurd H (by simp)
                 ·rw [if_neg c23] at H
                  exact absurd H (by simp)
                ·replace c21 := Bool.eq_false_iff.mpr c21
                 subst c21
                 have H1 : (spec_l04Table.l0 kj18 l0 l1 x5_2 (wrap64 (x6_1 - 1))) = some r := by rw [if_neg (show ¬ (false = true) by decide)] at H; exact H
                 clear H
                 have H := H1
                 clear H1
                 have H' := Aside0.mk H
                 clear H
                 go_wp2
                 repeat (go_quiet (fail); try go_wp2)
                 (try simp only [← hl5_2])
                 go_roundg kj18
                 case measure => have := HK1.out; have := HK2.out; have := HJ18.out; omega
                 case rel => exact ⟨(x5_2), (wrap64 (x6_1 - 1)), (by first | rfl | (simp; done) | (simp [*]; done)), H', ⟨by have := HK1.out; have := HK2.out; have := HJ18.out; omega⟩, ⟨by (try simp only [hl5_2]); (with_reducible repeat (first | apply Kd.S_alloc | apply Kd.S_drewN | apply Kd.S_drew)); exact HO_5.out⟩, ⟨by repeat (first | (with_reducible first | exact HB.out | apply below_alloc | apply pw_below_drewN | apply below_drew1) | exact HB.out)⟩⟩
           ·rw [if_neg c13] at H
            exact absurd H (by simp)
          ·rw [if_neg c12] at H
           exact absurd H (by simp)
         ·rw [if_neg c11] at H
          exact absurd H (by simp)
        ·rw [if_neg c10] at H
         exact absurd H (by simp)
       ·rw [if_neg c8] at H
        have c8b0 : decide (0 ≤ x6_1) = false := decide_eq_false c8
        clear c8
        obtain rfl := Option.some.inj H
        go_wp2
        repeat (go_quiet (fail); try go_wp2)
        go_ret
        exact ⟨_, by first | rfl | (simp [errW_none, errW_some] <;> rfl) | (simp only [← hji3]; first | rfl | (simp [errW_none, errW_some] <;> rfl)) | (simp [*, errW_none, errW_some] <;> rfl), by (with_reducible repeat (first | apply Kd.S_alloc | apply Kd.S_drewN | apply Kd.S_drew)); exact HO_5.out, by repeat (first | (with_reducible first | exact HB.out | apply below_alloc | apply pw_below_drewN | apply below_drew1) | exact HB.out)⟩
    ·rw [if_neg c5] at H
     exact absurd H (by simp)
  · rw [if_neg c4] at H
    exact absurd H (by simp)

end Go.Proofs.Ytnimljoagcokaaa.PFnEdits
-- (thin)
