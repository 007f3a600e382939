-- Made by a program (the kit's print with additions of this session: wip/tools/patch_print.py, ext.py).
-- (turned)
import Derived.Test.YtjdjcbjeklliaaaPFnLeastx0
namespace Go.Proofs.Ytjdjcbjeklliaaa.PFnLeast
open Go.RowKit Go.Proofs.YtjdjcbjeklliaaaW.PrintWords Go.Proofs.YtjdjcbjeklliaaaW.PrintLast Go.Proofs.YtjdjcbjeklliaaaW.PrintMore
attribute [local go_sem] max2_int min2_int max_two min_two max_three min_three max_four min_four   -- for this text's walks alone
set_option linter.unusedVariables false
set_option linter.unusedSimpArgs false

/-! ### spec_l04Table: function 122 -/
mutual
def spec_l04Table.l0 : Nat → List ByteArray → List ByteArray → List (List Int) → Int → Option ((List (List Int)))
  | 0, _, _, _, _ => none
  | k + 1, x0, x1, x5, x6 => if x6 ≥ 0 then (if 0 ≤ (wrap64 ((x1.length : Int) + 1)) then (if (wrap64 ((x1.length : Int) + 1) : Int).toNat ≤ 35184372088832 then (if 0 ≤ x6 then (if x6 < (x5.length : Int) then (spec_l04Table.l1 k x0 x1 (x5.set (x6 : Int).toNat (List.replicate (wrap64 ((x1.length : Int) + 1) : Int).toNat 0)) x6 (wrap64 ((x1.length : Int) - 1))) else (none)) else (none)) else (none)) else (none)) else (some x5)
def spec_l04Table.l1 : Nat → List ByteArray → List ByteArray → List (List Int) → Int → Int → Option ((List (List Int)))
  | 0, _, _, _, _, _ => none
  | k + 1, x0, x1, x5, x6, x7 => if x7 ≥ 0 then (spec_l04Table.j2 k x0 x1 x5 x6 x7 (decide (x6 < (x0.length : Int)))) else (spec_l04Table.j2 k x0 x1 x5 x6 x7 false)
def spec_l04Table.j2 : Nat → List ByteArray → List ByteArray → List (List Int) → Int → Int → Bool → Option ((List (List Int)))
  | 0, _, _, _, _, _, _ => none
  | k + 1, x0, x1, x5, x6, x7, x36 => if x36 = true then (if 0 ≤ (wrap64 (x6 + 1)) then (if (wrap64 (x6 + 1)) < (x5.length : Int) then (if 0 ≤ x7 then (if x7 < ((rd_L3 x5 (wrap64 (x6 + 1))).length : Int) then (if 0 ≤ x6 then (if x6 < (x5.length : Int) then (if 0 ≤ (wrap64 (x7 + 1)) then (if (wrap64 (x7 + 1)) < ((rd_L3 x5 x6).length : Int) then (if (rd (rd_L3 x5 x6) (wrap64 (x7 + 1))) > (rd (rd_L3 x5 (wrap64 (x6 + 1))) x7) then (if x6 < (x0.length : Int) then (if x7 < (x1.length : Int) then (if (rdOf ByteArray.empty x0 x6).toList = (rdOf ByteArray.empty x1 x7).toList then (if (wrap64 (x7 + 1)) < ((rd_L3 x5 (wrap64 (x6 + 1))).length : Int) then (if x7 < ((rd_L3 x5 x6).length : Int) then (spec_l04Table.l1 k x0 x1 (x5.set (x6 : Int).toNat ((rd_L3 x5 x6).set (x7 : Int).toNat (wrap64 ((rd (rd_L3 x5 (wrap64 (x6 + 1))) (wrap64 (x7 + 1))) + 1)))) x6 (wrap64 (x7 - 1))) else (none)) else (none)) else (if x7 < ((rd_L3 x5 x6).length : Int) then (spec_l04Table.l1 k x0 x1 (x5.set (x6 : Int).toNat ((rd_L3 x5 x6).set (x7 : Int).toNat (rd (rd_L3 x5 x6) (wrap64 (x7 + 1))))) x6 (wrap64 (x7 - 1))) else (none))) else (none)) else (none)) else (if x6 < (x0.length : Int) then (if x7 < (x1.length : Int) then (if (rdOf ByteArray.empty x0 x6).toList = (rdOf ByteArray.empty x1 x7).toList then (if (wrap64 (x7 + 1)) < ((rd_L3 x5 (wrap64 (x6 + 1))).length : Int) then (if x7 < ((rd_L3 x5 x6).length : Int) then (spec_l04Table.l1 k x0 x1 (x5.set (x6 : Int).toNat ((rd_L3 x5 x6).set (x7 : Int).toNat (wrap64 ((rd (rd_L3 x5 (wrap64 (x6 + 1))) (wrap64 (x7 + 1))) + 1)))) x6 (wrap64 (x7 - 1))) else (none)) else (none)) else (if x7 < ((rd_L3 x5 x6).length : Int) then (spec_l04Table.l1 k x0 x1 (x5.set (x6 : Int).toNat ((rd_L3 x5 x6).set (x7 : Int).toNat (rd (rd_L3 x5 (wrap64 (x6 + 1))) x7))) x6 (wrap64 (x7 - 1))) else (none))) else (none)) else (none))) else (none)) else (none)) else (none)) else (none)) else (none)) else (none)) else (none)) else (none)) else (spec_l04Table.l0 k x0 x1 x5 (wrap64 (x6 - 1)))
end
def spec_l04Table.f (k : Nat) (l0 : List ByteArray) (l1 : List ByteArray) : Option ((List (List Int))) := if 0 ≤ (wrap64 ((l0.length : Int) + 1)) then (if (wrap64 ((l0.length : Int) + 1) : Int).toNat ≤ 11728124029610 then (spec_l04Table.l0 k l0 l1 (List.replicate (wrap64 ((l0.length : Int) + 1) : Int).toNat []) (l0.length : Int)) else (none)) else (none)
theorem spec_l04Table.mono_l : ∀ k, (∀ y0 y1 y2 y3, LeO (spec_l04Table.l0 k y0 y1 y2 y3) (spec_l04Table.l0 (k + 1) y0 y1 y2 y3)) ∧ (∀ y0 y1 y2 y3 y4, LeO (spec_l04Table.l1 k y0 y1 y2 y3 y4) (spec_l04Table.l1 (k + 1) y0 y1 y2 y3 y4)) ∧ (∀ y0 y1 y2 y3 y4 y5, LeO (spec_l04Table.j2 k y0 y1 y2 y3 y4 y5) (spec_l04Table.j2 (k + 1) y0 y1 y2 y3 y4 y5))
  | 0 => ⟨fun _ _ _ _ r h => by simp [spec_l04Table.l0] at h, fun _ _ _ _ _ r h => by simp [spec_l04Table.l1] at h, fun _ _ _ _ _ _ r h => by simp [spec_l04Table.j2] at h⟩
  | k + 1 => by
    obtain ⟨ih0, ih1, ih2⟩ := spec_l04Table.mono_l k
    refine ⟨?_, ?_, ?_⟩
    ·intro y0 y1 y2 y3
     unfold spec_l04Table.l0
     repeat' first
     | (with_reducible exact ih0 _ _ _ _)
     | (with_reducible exact ih1 _ _ _ _ _)
     | (with_reducible exact ih2 _ _ _ _ _ _)
     | (with_reducible exact LeO.refl _)
     | (with_reducible exact LeO.none _)
     | (with_reducible refine LeO.ite ?_ ?_)
     | (with_reducible refine LeO.bind ?_ (fun _ => ?_))
     | exact ih0 _ _ _ _
     | exact ih1 _ _ _ _ _
     | exact ih2 _ _ _ _ _ _
     | exact LeO.none _
     | refine LeO.ite ?_ ?_
     | refine LeO.bind ?_ (fun _ => ?_)
    ·intro y0 y1 y2 y3 y4
     unfold spec_l04Table.l1
     repeat' first
     | (with_reducible exact ih0 _ _ _ _)
     | (with_reducible exact ih1 _ _ _ _ _)
     | (with_reducible exact ih2 _ _ _ _ _ _)
     | (with_reducible exact LeO.refl _)
     | (with_reducible exact LeO.none _)
     | (with_reducible refine LeO.ite ?_ ?_)
     | (with_reducible refine LeO.bind ?_ (fun _ => ?_))
     | exact ih0 _ _ _ _
     | exact ih1 _ _ _ _ _
     | exact ih2 _ _ _ _ _ _
     | exact LeO.none _
     | refine LeO.ite ?_ ?_
     | refine LeO.bind ?_ (fun _ => ?_)
    ·intro y0 y1 y2 y3 y4 y5
     unfold spec_l04Table.j2
     repeat' first
     | (with_reducible exact ih0 _ _ _ _)
     | (with_reducible exact ih1 _ _ _ _ _)
     | (with_reducible exact ih2 _ _ _ _ _ _)
     | (with_reducible exact LeO.refl _)
     | (with_reducible exact LeO.none _)
     | (with_reducible refine LeO.ite ?_ ?_)
     | (with_reducible refine LeO.bind ?_ (fun _ => ?_))
     | exact ih0 _ _ _ _
     | exact ih1 _ _ _ _ _
     | exact ih2 _ _ _ _ _ _
     | exact LeO.none _
     | refine LeO.ite ?_ ?_
     | refine LeO.bind ?_ (fun _ => ?_)
theorem spec_l04Table.mono : ∀ a0 a1 k, LeO (spec_l04Table.f k a0 a1) (spec_l04Table.f (k + 1) a0 a1) := by
  intro a0 a1 k
  obtain ⟨ih0, ih1, ih2⟩ := spec_l04Table.mono_l k
  unfold spec_l04Table.f
  repeat' first
     | (with_reducible exact ih0 _ _ _ _)
     | (with_reducible exact ih1 _ _ _ _ _)
     | (with_reducible exact ih2 _ _ _ _ _ _)
     | (with_reducible exact LeO.refl _)
     | (with_reducible exact LeO.none _)
     | (with_reducible refine LeO.ite ?_ ?_)
     | (with_reducible refine LeO.bind ?_ (fun _ => ?_))
     | exact ih0 _ _ _ _
     | exact ih1 _ _ _ _ _
     | exact ih2 _ _ _ _ _ _
     | exact LeO.none _
     | refine LeO.ite ?_ ?_
     | refine LeO.bind ?_ (fun _ => ?_)
set_option maxHeartbeats 8000000 in
set_option maxRecDepth 100000 in
theorem spec_l04Table.calls (k : Nat) (A0 : Option Addr) (c0 : Nat) (l0 : List ByteArray) (A1 : Option Addr) (c1 : Nat) (l1 : List ByteArray) (r : List (List Int)) (w : World) (hr0 : Kd.C Kd.string w A0 l0.length l0) (hc0 : l0.length ≤ c0) (hr1 : Kd.C Kd.string w A1 l1.length l1) (hc1 : l1.length ≤ c1) (h : spec_l04Table.f k l0 l1 = some r) :
    Calls Try.prog 122 #[.slice A0 l0.length c0, .slice A1 l1.length c1] w fun e w' => ∃ v0_ : Value, e = .returned (v0_) ∧ Kd.S (Kd.slice 3 (Kd.int .i64)) 50 w' w.heap.size (fun _ => True) v0_ r ∧ Below w.heap.size w w' := by
  have HR0 := Aside0.mk hr0
  have HC0 := Aside0.mk hc0
  clear hr0 hc0
  have HR1 := Aside0.mk hr1
  have HC1 := Aside0.mk hc1
  clear hr1 hc1
  have HB := Aside0.mk (Below.refl w.heap.size w)
  have H : (if 0 ≤ (wrap64 ((l0.length : Int) + 1)) then (if (wrap64 ((l0.length : Int) + 1) : Int).toNat ≤ 11728124029610 then (spec_l04Table.l0 k l0 l1 (List.replicate (wrap64 ((l0.length : Int) + 1) : Int).toNat []) (l0.length : Int)) else (none)) else (none)) = some r := h
  clear h
  obtain ⟨ji3, hji3⟩ : ∃ j_ : Int, (wrap64 ((l0.length : Int) + 1)) = j_ := ⟨_, rfl⟩
  replace H : (if 0 ≤ (ji3) then (if (ji3 : Int).toNat ≤ 11728124029610 then (spec_l04Table.l0 k l0 l1 (List.replicate (ji3 : Int).toNat []) (l0.length : Int)) else (none)) else (none)) = some r := by first | (rw [hji3] at H; exact H) | (simp only [hji3] at H ⊢; exact H)
  have hji3w : (IntKind.i64.wrap ((l0.length : Int) + 1)) = ji3 := (i64_w _).trans hji3
  by_cases c4 : 0 ≤ (ji3)
  case neg =>
    rw [if_neg c4] at H
    exact absurd H (by simp)

  rw [if_pos c4] at H
  have c4b0 := eq_true c4
  have c4b1 : decide (0 ≤ (ji3)) = true := decide_eq_true c4
  clear c4
  by_cases c5 : (ji3 : Int).toNat ≤ 11728124029610
  case neg =>
    rw [if_neg c5] at H
    exact absurd H (by simp)
  rw [if_pos c5] at H
  have c5b0 := eq_true c5
  have c5b1 : decide ((ji3 : Int).toNat ≤ 11728124029610) = true := decide_eq_true c5
  clear c5
  obtain ⟨y221, hy221⟩ : ∃ y_ : List (List Int), y_ = (List.replicate (ji3 : Int).toNat []) := ⟨_, rfl⟩
  replace H : (spec_l04Table.l0 k l0 l1 y221 (l0.length : Int)) = some r := by first | (rw [hy221]; with_reducible exact H) | (have H2_ := (Option.bind_some _ _).symm.trans H; rw [hy221]; with_reducible exact H2_) | (have H2_ := (Option.bind_some _ _).symm.trans H; with_reducible exact H2_) | with_reducible exact H | (rw [hy221]; exact H) | exact H
  have Ny221 := Aside0.mk hy221
  clear hy221
  have H' := Aside0.mk H
  clear H
  go_enter Try.func122, Try.ntmps122
  go_wp2_with (first | ((with_reducible refine gate_dst (N := 12) rfl ?_); (try (refine gate_guard (by rfl) ?_; dsimp only)); refine Kd.S_make (Kd.slice 3 (Kd.int .i64)) _ 50 rfl (N := 12) rfl 36 _ _ rfl ji3 rfl rfl Try.underlying36 (.slice none 0 0) 24 info50 rfl (by decide) (by omega) [] (ok := fun _ => True) (okp := fun _ => True) ⟨_, rfl, Kd.R_nil _ _ _ _ _⟩ (fun _ hk => hk) trivial (of_decide_eq_true q0_) (Nat.le_trans (Nat.mul_le_mul_right _ (of_decide_eq_true q0_ : ji3.toNat ≤ 11728124029610)) (by omega)) (Below.refl _ _) (Nat.le_refl _) ?_; intro v222 w6 ho7 hb hg_ hnew_; clear hg_ hnew_; (first | rw [← Ny221.out] at ho7 | (simp only [Int.reduceToNat] at ho7; rw [← Ny221.out] at ho7)); have n0_ := Aside0.mk (Kd.S_lower ho7 (below_size q2_)); have n1_ := Aside0.mk (below_step q2_ hb); clear HB; have HO223 := n0_; have HB := n1_; clear n0_ n1_; clear hb ho7))
  go_loopg [6] k (fun kq v6 w' => ∃ (x5_1 : List (List Int)) (x6_1 : Int), v6 = .int .i64 x6_1 ∧ Aside0 (spec_l04Table.l0 kq l0 l1 x5_1 x6_1 = some r) ∧ Aside0 (kq ≤ k) ∧ Aside0 (Kd.S (Kd.slice 3 (Kd.int .i64)) 50 w' w.heap.size (fun _ => True) v222 x5_1) ∧ Aside0 (Below w.heap.size w w'))
  case atStart => exact ⟨(y221), ((l0.length : Int)), q7_, H', ⟨Nat.le_refl _⟩, ⟨by (with_reducible repeat (first | apply Kd.S_alloc | apply Kd.S_drewN | apply Kd.S_drew)); exact HO223.out⟩, ⟨by repeat (first | (with_reducible first | exact HB.out | apply below_alloc | apply pw_below_drewN | apply below_drew1) | exact HB.out)⟩⟩
  case round =>
    clear H'
    try clear c1
    try clear p2
    try clear c4
    try clear c4b0
    try clear c4b1
    try clear c5
    try clear c5b0
    try clear c5b1
    try clear p6
    obtain ⟨x5_1, x6_1, rfl, HA, HK1, HO_5, HB⟩ := hrel
    cases gk with
    | zero => exact absurd HA.out (by simp [spec_l04Table.l0])
    | succ k1 =>
     have H := HA.out
     clear HA
     simp only [spec_l04Table.l0] at H
     by_cases c8 : x6_1 ≥ 0
     ·rw [if_pos c8] at H
      have c8b0 : decide (0 ≤ x6_1) = true := decide_eq_true c8
      clear c8
      obtain ⟨ji9, hji9⟩ : ∃ j_ : Int, (wrap64 ((l1.length : Int) + 1)) = j_ := ⟨_, rfl⟩
      replace H : (if 0 ≤ (ji9) then (if (ji9 : Int).toNat ≤ 35184372088832 then (if 0 ≤ x6_1 then (if x6_1 < (x5_1.length : Int) then (spec_l04Table.l1 k1 l0 l1 (x5_1.set (x6_1 : Int).toNat (List.replicate (ji9 : Int).toNat 0)) x6_1 (wrap64 ((l1.length : Int) - 1))) else (none)) else (none)) else (none)) else (none)) = some r := by first | (rw [hji9] at H; exact H) | (simp only [hji9] at H ⊢; exact H)
      have hji9w : (IntKind.i64.wrap ((l1.length : Int) + 1)) = ji9 := (i64_w _).trans hji9
      by_cases c10 : 0 ≤ (ji9)
      case neg =>
       rw [if_neg c10] at H
       exact absurd H (by simp)
      rw [if_pos c10] at H
      have c10b0 := eq_true c10
      have c10b1 : decide (0 ≤ (ji9)) = true := decide_eq_true c10
      clear c10
      by_cases c11 : (ji9 : Int).toNat ≤ 35184372088832
      case neg =>
       rw [if_neg c11] at H
       exact absurd H (by simp)
      rw [if_pos c11] at H
      have c11b0 := eq_true c11
      have c11b1 : decide ((ji9 : Int).toNat ≤ 35184372088832) = true := decide_eq_true c11
      clear c11
      obtain ⟨y224, hy224⟩ : ∃ y_ : List Int, y_ = (List.replicate (ji9 : Int).toNat 0) := ⟨_, rfl⟩
      replace H : (if 0 ≤ x6_1 then (if x6_1 < (x5_1.length : Int) then (spec_l04Table.l1 k1 l0 l1 (x5_1.set (x6_1 : Int).toNat y224) x6_1 (wrap64 ((l1.length : Int) - 1))) else (none)) else (none)) = some r := by first | (rw [hy224]; with_reducible exact H) | (have H2_ := (Option.bind_some _ _).symm.trans H; rw [hy224]; with_reducible exact H2_) | (have H2_ := (Option.bind_some _ _).symm.trans H; with_reducible exact H2_) | with_reducible exact H | (rw [hy224]; exact H) | exact H
      have Ny224 := Aside0.mk hy224
      clear hy224
      by_cases c12 : 0 ≤ x6_1
      case neg =>
       rw [if_neg c12] at H
       exact absurd H (by simp)
      rw [if_pos c12] at H
      have c12b0 : decide (0 ≤ x6_1) = true := decide_eq_true c12
      clear c12
      by_cases c13 : x6_1 < (x5_1.length : Int)
      case neg =>
       rw [if_neg c13] at H
       exact absurd H (by simp)
      rw [if_pos c13] at H
      have c13b0 : decide (x6_1 < (x5_1.length : Int)) = true := decide_eq_true c13
      clear c13
      obtain ⟨y227, hy227⟩ : ∃ y_ : List (List Int), y_ = (x5_1.set (x6_1 : Int).toNat y224) := ⟨_, rfl⟩
      replace H : (spec_l04Table.l1 k1 l0 l1 y227 x6_1 (wrap64 ((l1.length : Int) - 1))) = some r := by first | (rw [hy227]; with_reducible exact H) | (have H2_ := (Option.bind_some _ _).symm.trans H; rw [hy227]; with_reducible exact H2_) | (have H2_ := (Option.bind_some _ _).symm.trans H; with_reducible exact H2_) | with_reducible exact H | (rw [hy227]; exact H) | exact H
      have Ny227 := Aside0.mk hy227
      clear hy227
      have H' := Aside0.mk H
      clear H
      go_wp2_with (first | ((with_reducible refine gate_dst (N := 24) rfl ?_); (try (refine gate_guard (by rfl) ?_; dsimp only)); refine Kd.R_make (Kd.int .i64) _ 3 rfl (N := 24) rfl 50 _ _ rfl ji9 rfl rfl Try.underlying50 (.int .i64 0) 8 info3 rfl (by decide) (by omega) 0 (ok := fun _ => True) (okp := fun _ => True) rfl (fun _ hk => hk) trivial (of_decide_eq_true q0_) (Nat.le_trans (Nat.mul_le_mul_right _ (of_decide_eq_true q0_ : ji9.toNat ≤ 35184372088832)) (by omega)) (Below.refl _ _) (Nat.le_refl _) ?_; intro v225 w15 ho16 hb hg_ hnew_; clear hg_ hnew_; (first | rw [← Ny224.out] at ho16 | (simp only [Int.reduceToNat] at ho16; rw [← Ny224.out] at ho16)); have n0_ := Aside0.mk (Kd.S_elder' (by (with_reducible repeat (first | apply Kd.S_alloc | apply Kd.S_drewN | apply Kd.S_drew)); exact HO_5.out) (Kd.R_base ho16) hb); have n1_ := Aside0.mk (Kd.R_lower ho16 (below_size q2_)); have n2_ := Aside0.mk (below_step q2_ hb); clear HO_5; clear HB; have HO_5 := n0_; have HO226 := n1_; have HB := n2_; clear n0_ n1_ n2_; clear hb ho16; have p14 : 0 ≤ (x6_1 : Int) := of_decide_eq_true q0_; have q14 : (x6_1 : Int) < ((x5_1.length : Int) : Int) := of_decide_eq_true q0_; obtain ⟨go14, co14, eo14, gb14, gl14, cl14, HG14⟩ := Kd.S_form HO_5.out (by omega); (first | cases eo14 | (injection eo14 with ea_ en_ ec_; (first | subst ea_ | (injection ea_ with ea_; subst ea_)); subst ec_; clear en_)); have GB14 := Aside0.mk gb14; have GG14 := Aside0.mk HG14; clear gb14 gl14 HG14; obtain ⟨_, ce14, hcl14, hM14, hcc14, hfr14, _, _⟩ := Kd.S_elem HO_5.out [] (x6_1 : Int) p14 q14; obtain ⟨ve14_0, rfl, ge14_0⟩ := hM14; have hx14_0 := hcc14 0 _ rfl; have hf14_0 := hfr14 0; (try simp only [show ((Kd.slice 3 (Kd.int .i64))).sz = 1 from rfl, Nat.mul_one, Nat.add_zero] at hx14_0); (try simp only [show ((Kd.slice 3 (Kd.int .i64))).sz = 1 from rfl, Nat.mul_one, Nat.add_zero] at hf14_0); (try clear hcl14); (try clear hcc14); (try clear hfr14); (try clear hM14); replace p14 := eq_true p14; replace q14 := eq_true q14; have n_ := Aside0.mk (Kd.S_mono (ok' := (fun k_ => some k_ ≠ (v225 : Value).ownBlock)) HO_5.out (fun k_ hk => hk.2)); clear HO_5; have HO_5 := n_; clear n_; have HX17 := Aside0.mk (show Kd.S (Kd.slice 3 (Kd.int .i64)) 50 w15 w.heap.size (fun k_ => ((fun _ => True)) k_ ∧ ¬ ((fun k_ => some k_ = (v225 : Value).ownBlock)) k_) (.slice (some ⟨go14, 0, none⟩) x5_1.length co14) x5_1 from (by (with_reducible repeat (first | apply Kd.S_alloc | apply Kd.S_drewN | apply Kd.S_drew)); exact Kd.S_mono HO_5.out (fun k_ hk => ⟨trivial, fun e_ => hk e_⟩))); obtain ⟨oki17, ce17, hcl17, hM17, hcc17, hfr17, hoki17, hH17⟩ := Kd.S_elem HX17.out [] (x6_1 : Int) (of_decide_eq_true q0_) (by have h_ : (x6_1 : Int) < ((x5_1.length : Int) : Int) := of_decide_eq_true q0_; first | exact h_ | (have e_ := (Kd.S_reads' HO_5.out).1; omega) | simpa using h_); obtain ⟨ve17_0, rfl, ge17_0⟩ := hM17; have HP17 := Kd.S_seg hH17 (of_decide_eq_true q0_) (by have h_ : (x6_1 : Int) < ((x5_1.length : Int) : Int) := of_decide_eq_true q0_; first | exact h_ | (have e_ := (Kd.S_reads' HO_5.out).1; omega) | simpa using h_) (seg := [v225]) (j := 0) (show 1 ≤ 1 from by decide) (x' := y224) (Kd.M_row (Kd.R_mono (Kd.R_tight rfl (Kd.R_mono (ok' := fun k_ => ((fun _ => True)) k_ ∧ k_ ≠ go14) (Kd.R_apart' (HO226.out) (Kd.S_typed HO_5.out) (by decide)) (fun k_ hk => ⟨trivial, fun e_ => (hk.2) (by rw [e_]; rfl)⟩))) (fun _ h_ => Or.inr (h_)))) (fun _ hk => hk) (fun k_ hk_ => ((Kd.R_mono (ok' := fun k_ => ((fun _ => True)) k_ ∧ k_ ≠ go14) (Kd.R_apart' (HO226.out) (Kd.S_typed HO_5.out) (by decide)) (fun k_ hk => ⟨trivial, fun e_ => (hk.2) (by rw [e_]; rfl)⟩))).1 k_ hk_.symm); have hx17_0 := hcc17 0 _ rfl; (try simp only [show ((Kd.slice 3 (Kd.int .i64))).sz = 1 from rfl, Nat.mul_one, Nat.add_zero] at hx17_0); have hf17_0 := hfr17 0; (try simp only [show ((Kd.slice 3 (Kd.int .i64))).sz = 1 from rfl, Nat.mul_one, Nat.add_zero] at hf17_0); (try clear hcl17); (try clear hcc17); (try clear hfr17); (try clear hM17); (try clear hoki17); (try clear hH17); (try simp only [show ((Kd.slice 3 (Kd.int .i64))).sz = 1 from rfl, Nat.mul_one, Nat.add_zero] at HP17)) | ((with_reducible refine gate_store (t := 50) (p := 25) rfl ?_); (try (rw [drewN_self w15]; generalize hq_ : World.drewN w15 _ = w15; (try (replace hx14_0 := cell_at hq_ hx14_0)); (try (replace hx17_0 := cell_at hq_ hx17_0)); (try (replace hf14_0 := frozen_at hq_ hf14_0)); (try (replace hf17_0 := frozen_at hq_ hf17_0)); have n0_ := Aside0.mk (Kd.S_at hq_ HO_5.out); have n1_ := Aside0.mk (below_at hq_ HB.out); clear hq_ HO_5 HB; have HO_5 := n0_; have HB := n1_; clear n0_ n1_; (try (have n_ := Aside0.mk (Kd.S_mono (ok' := (fun k_ => some k_ ≠ (v225 : Value).ownBlock)) HO_5.out (fun k_ hk => hk.2)); clear HO_5; have HO_5 := n_; clear n_)); (try (have HX17 := Aside0.mk (show Kd.S (Kd.slice 3 (Kd.int .i64)) 50 w15 w.heap.size (fun k_ => ((fun _ => True)) k_ ∧ ¬ ((fun k_ => some k_ = (v225 : Value).ownBlock)) k_) (.slice (some ⟨go14, 0, none⟩) x5_1.length co14) x5_1 from (by (with_reducible repeat (first | apply Kd.S_alloc | apply Kd.S_drewN | apply Kd.S_drew)); exact Kd.S_mono HO_5.out (fun k_ hk => ⟨trivial, fun e_ => hk e_⟩))))); (try (obtain ⟨oki17, ce17, hcl17, hM17, hcc17, hfr17, hoki17, hH17⟩ := Kd.S_elem HX17.out [] (x6_1 : Int) (of_decide_eq_true q0_) (by have h_ : (x6_1 : Int) < ((x5_1.length : Int) : Int) := of_decide_eq_true q0_; first | exact h_ | (have e_ := (Kd.S_reads' HO_5.out).1; omega) | simpa using h_))); (try (obtain ⟨ve17_0, rfl, ge17_0⟩ := hM17)); (try (have HP17 := Kd.S_seg hH17 (of_decide_eq_true q0_) (by have h_ : (x6_1 : Int) < ((x5_1.length : Int) : Int) := of_decide_eq_true q0_; first | exact h_ | (have e_ := (Kd.S_reads' HO_5.out).1; omega) | simpa using h_) (seg := [v225]) (j := 0) (show 1 ≤ 1 from by decide) (x' := y224) (Kd.M_row (Kd.R_mono (Kd.R_tight rfl (Kd.R_mono (ok' := fun k_ => ((fun _ => True)) k_ ∧ k_ ≠ go14) (Kd.R_apart' (HO226.out) (Kd.S_typed HO_5.out) (by decide)) (fun k_ hk => ⟨trivial, fun e_ => (hk.2) (by rw [e_]; rfl)⟩))) (fun _ h_ => Or.inr (h_)))) (fun _ hk => hk) (fun k_ hk_ => ((Kd.R_mono (ok' := fun k_ => ((fun _ => True)) k_ ∧ k_ ≠ go14) (Kd.R_apart' (HO226.out) (Kd.S_typed HO_5.out) (by decide)) (fun k_ hk => ⟨trivial, fun e_ => (hk.2) (by rw [e_]; rfl)⟩))).1 k_ hk_.symm))); (try (have hx17_0 := hcc17 0 _ rfl)); (try (try simp only [show ((Kd.slice 3 (Kd.int .i64))).sz = 1 from rfl, Nat.mul_one, Nat.add_zero] at hx17_0)); (try (have hf17_0 := hfr17 0)); (try (try simp only [show ((Kd.slice 3 (Kd.int .i64))).sz = 1 from rfl, Nat.mul_one, Nat.add_zero] at hf17_0)); (try (clear hcl17 hcc17 hfr17 hM17 hoki17 hH17)); (try (try simp only [show ((Kd.slice 3 (Kd.int .i64))).sz = 1 from rfl, Nat.mul_one, Nat.add_zero] at HP17)))); refine store_event (t := 50) (p := 25) (v := ?vo_w18) (w1 := (w15.setCell ⟨go14, (x6_1 : Int).toNat, none⟩ (v225))) ?hg ?ho ?hn ?hr ?_; (case ho => rfl); (case hg => rfl); (case hn => rfl); (case hr => first | (go_simp; done) | (go_simp; rfl) | (obtain ⟨_, _, e_, _⟩ := Kd.R_reads (Aside0.out ‹Aside0 (Kd.R _ _ _ _ _ v225 _)›); go_simp; done) | (obtain ⟨_, _, e_, _⟩ := Kd.R_reads (Aside0.out ‹Aside0 (Kd.R _ _ _ _ _ v225 _)›); go_simp; rfl) | (obtain ⟨_, _, e_, _⟩ := Kd.R_reads (Kd.S_R (Aside0.out ‹Aside0 (Kd.S _ _ _ _ _ v225 _)›)); go_simp; done) | (obtain ⟨_, _, e_, _⟩ := Kd.R_reads (Kd.S_R (Aside0.out ‹Aside0 (Kd.S _ _ _ _ _ v225 _)›)); go_simp; rfl) | (obtain ⟨_, _, e_, _⟩ := Kd.N_reads (Aside0.out ‹Aside0 (Kd.N _ _ _ _ _ v225 _)›); go_simp; done) | (obtain ⟨_, _, e_, _⟩ := Kd.N_reads (Aside0.out ‹Aside0 (Kd.N _ _ _ _ _ v225 _)›); go_simp; rfl) | (obtain ⟨_, _, e_, _⟩ := Kd.Q_reads (Aside0.out ‹Aside0 (Kd.Q _ _ _ _ _ v225 _)›); go_simp; done) | (obtain ⟨_, _, e_, _⟩ := Kd.Q_reads (Aside0.out ‹Aside0 (Kd.Q _ _ _ _ _ v225 _)›); go_simp; rfl)); intro w18 hw; have hg : w15.grownBy w18 (some go14) := (by rw [hw]; exact HP17.2); have hp_ : Kd.S (Kd.slice 3 (Kd.int .i64)) 50 w18 w.heap.size (fun _ => True) (.slice (some ⟨go14, 0, none⟩) x5_1.length co14) y227 := (by rw [hw, Ny227.out]; exact HP17.1); clear HP17; have n0_ := Aside0.mk (hp_); have n1_ := Aside0.mk ((by rw [hw]; exact below_set (HB.out) GB14.out : Below w.heap.size w w18)); clear HO_5; clear HB; clear HO226; have HO_5 := n0_; have HB := n1_; clear n0_ n1_; clear hg hw hp_))
      go_loopg [7] k1 (fun kq v7 w' => ∃ (x5_2 : List (List Int)) (x7_2 : Int), v7 = .int .i64 x7_2 ∧ Aside0 (spec_l04Table.l1 kq l0 l1 x5_2 x6_1 x7_2 = some r) ∧ Aside0 (kq ≤ k1) ∧ Aside0 (Kd.S (Kd.slice 3 (Kd.int .i64)) 50 w' w.heap.size (fun _ => True) (.slice (some ⟨go14, 0, none⟩) x5_1.length co14) x5_2) ∧ Aside0 (Below w.heap.size w w'))
      case atStart => exact ⟨(y227), (wrap64 ((l1.length : Int) - 1)), q7_, H', ⟨Nat.le_refl _⟩, ⟨by (with_reducible repeat (first | apply Kd.S_alloc | apply Kd.S_drewN | apply Kd.S_drew)); exact HO_5.out⟩, ⟨by repeat (first | (with_reducible first | exact HB.out | apply below_alloc | apply pw_below_drewN | apply below_drew1) | exact HB.out)⟩⟩
      case round =>
       clear H'
       try clear c1
       try clear p1
       try clear q1
       try clear hx1
       try clear p2
       try clear c4
       try clear c4b0
       try clear c4b1
       try clear c5
       try clear c5b0
       try clear c5b1
       try clear p6
       try clear c8
       try clear c8b0
       try clear c10
       try clear c10b0
       try clear c10b1
       try clear c11
       try clear c11b0
       try clear c11b1
       try clear c12
       try clear c12b0
       try clear c13
       try clear c13b0
       try clear c14
       try clear p14
       try clear q14
       try clear hx14
       try clear hf14
       try clear c17
       try clear hx17
       try clear hf17
       try clear hx14_0
       try clear hx17_0
       try clear p14
       try clear p2
       try clear p6
       try clear q14
       obtain ⟨x5_2, x7_2, rfl, HA, HK2, HO_5, HB⟩ := hrel
       have hl5_2 := (Kd.S_reads' HO_5.out).1
       rw [hl5_2] at HO_5
       (try simp only [hl5_2])
       cases gk with
       | zero => exact absurd HA.out (by simp [spec_l04Table.l1])
       | succ k2 =>
        have H := HA.out
        clear HA
        simp only [spec_l04Table.l1] at H
        have HC19 := Aside0.mk H
        clear H
        go_upto_region 7 with (fail)
        repeat (go_quiet (fail); go_upto_region 7 with (fail))
        go_cut [36] (fun v36 wc => ∃ (kq : Nat) (x36_18 : Bool), v36 = .bool x36_18 ∧ Aside0 (spec_l04Table.j2 kq l0 l1 x5_2 x6_1 x7_2 x36_18 = some r) ∧ Aside0 (kq ≤ k2) ∧ Aside0 (Kd.S (Kd.slice 3 (Kd.int .i64)) 50 wc w.heap.size (fun _ => True) (.slice (some ⟨go14, 0, none⟩) x5_2.length co14) x5_2) ∧ Aside0 (Below w.heap.size w wc))
        case first =>
         have H := HC19.out
         clear HC19
         by_cases c20 : x7_2 ≥ 0
         ·rw [if_pos c20] at H
          have c20b0 : decide (0 ≤ x7_2) = true := decide_eq_true c20
          clear c20
          (first | rw [c20b0] | (simp only [i64_w, i32_w]; rw [c20b0]) | skip)
          have H' := Aside0.mk H
          clear H
          go_wp2
          repeat (go_quiet (fail); try go_wp2)
          go_meet
          case rel => exact ⟨_, (decide (x6_1 < (l0.length : Int))), q7_, H', ⟨by have := HK1.out; have := HK2.out; first | omega | exact Nat.le_refl _⟩, ⟨by (try simp only [hl5_2]); (with_reducible repeat (first | apply Kd.S_alloc | apply Kd.S_drewN | apply Kd.S_drew)); exact HO_5.out⟩, ⟨by repeat (first | (with_reducible first | exact HB.out | apply below_alloc | apply pw_below_drewN | apply below_drew1) | exact HB.out)⟩⟩
         ·rw [if_neg c20] at H
          have c20b0 : decide (0 ≤ x7_2) = false := decide_eq_false c20
          clear c20
          (first | rw [c20b0] | (simp only [i64_w, i32_w]; rw [c20b0]) | skip)
          have H' := Aside0.mk H
          clear H
          go_wp2
          repeat (go_quiet (fail); try go_wp2)
          go_meet
          case rel => exact ⟨_, (false), q7_, H', ⟨by have := HK1.out; have := HK2.out; first | omega | exact Nat.le_refl _⟩, ⟨by (try simp only [hl5_2]); (with_reducible repeat (first | apply Kd.S_alloc | apply Kd.S_drewN | apply Kd.S_drew)); exact HO_5.out⟩, ⟨by repeat (first | (with_reducible first | exact HB.out | apply below_alloc | apply pw_below_drewN | apply below_drew1) | exact HB.out)⟩⟩
        case rest =>
         clear HC19
         try clear c1
         try clear p1
         try clear q1
         try clear hx1
         try clear c2
         try clear p2
         try clear c4
         try clear c4b0
         try clear c4b1
         try clear c5
         try clear c5b0
         try clear c5b1
         try clear p6
         try clear c8
         try clear c8b0
         try clear c10
         try clear c10b0
         try clear c10b1
         try clear c11
         try clear c11b0
         try clear c11b1
         try clear c12
         try clear c12b0
         try clear c13
         try clear c13b0
         try clear c14
         try clear p14
         try clear q14
         try clear hx14
         try clear hf14
         try clear c17
         try clear hx17
         try clear hf17
         try clear c20
         try clear c20b0
         try clear hx14_0
         try clear hx17_0
         try clear p1
         try clear p14
         try clear p2
         try clear p6
         try clear q1
         try clear q14
         obtain ⟨kq, x36_18, rfl, HA, HJ18, HO_5, HB⟩ := hcut
         cases kq with
         | zero => exact absurd HA.out (by simp [spec_l04Table.j2])
         | succ kj18 =>
          have H := HA.out
          clear HA
          simp only [spec_l04Table.j2] at H
          by_cases c21 : x36_18 = true
          ·subst c21
           have H1 : (if 0 ≤ (wrap64 (x6_1 + 1)) then (if (wrap64 (x6_1 + 1)) < (x5_2.length : Int) then (if 0 ≤ x7_2 then (if x7_2 < ((rd_L3 x5_2 (wrap64 (x6_1 + 1))).length : Int) then (if 0 ≤ x6_1 then (if x6_1 < (x5_2.length : Int) then (if 0 ≤ (wrap64 (x7_2 + 1)) then (if (wrap64 (x7_2 + 1)) < ((rd_L3 x5_2 x6_1).length : Int) then (if (rd (rd_L3 x5_2 x6_1) (wrap64 (x7_2 + 1))) > (rd (rd_L3 x5_2 (wrap64 (x6_1 + 1))) x7_2) then (if x6_1 < (l0.length : Int) then (if x7_2 < (l1.length : Int) then (if (rdOf ByteArray.empty l0 x6_1).toList = (rdOf ByteArray.empty l1 x7_2).toList then (if (wrap64 (x7_2 + 1)) < ((rd_L3 x5_2 (wrap64 (x6_1 + 1))).length : Int) then (if x7_2 < ((rd_L3 x5_2 x6_1).length : Int) then (spec_l04Table.l1 kj18 l0 l1 (x5_2.set (x6_1 : Int).toNat ((rd_L3 x5_2 x6_1).set (x7_2 : Int).toNat (wrap64 ((rd (rd_L3 x5_2 (wrap64 (x6_1 + 1))) (wrap64 (x7_2 + 1))) + 1)))) x6_1 (wrap64 (x7_2 - 1))) else (none)) else (none)) else (if x7_2 < ((rd_L3 x5_2 x6_1).length : Int) then (spec_l04Table.l1 kj18 l0 l1 (x5_2.set (x6_1 : Int).toNat ((rd_L3 x5_2 x6_1).set (x7_2 : Int).toNat (rd (rd_L3 x5_2 x6_1) (wrap64 (x7_2 + 1))))) x6_1 (wrap64 (x7_2 - 1))) else (none))) else (none)) else (none)) else (if x6_1 < (l0.length : Int) then (if x7_2 < (l1.length : Int) then (if (rdOf ByteArray.empty l0 x6_1).toList = (rdOf ByteArray.empty l1 x7_2).toList then (if (wrap64 (x7_2 + 1)) < ((rd_L3 x5_2 (wrap64 (x6_1 + 1))).length : Int) then (if x7_2 < ((rd_L3 x5_2 x6_1).length : Int) then (spec_l04Table.l1 kj18 l0 l1 (x5_2.set (x6_1 : Int).toNat ((rd_L3 x5_2 x6_1).set (x7_2 : Int).toNat (wrap64 ((rd (rd_L3 x5_2 (wrap64 (x6_1 + 1))) (wrap64 (x7_2 + 1))) + 1)))) x6_1 (wrap64 (x7_2 - 1))) else (none)) else (none)) else (if x7_2 < ((rd_L3 x5_2 x6_1).length : Int) then (spec_l04Table.l1 kj18 l0 l1 (x5_2.set (x6_1 : Int).toNat ((rd_L3 x5_2 x6_1).set (x7_2 : Int).toNat (rd (rd_L3 x5_2 (wrap64 (x6_1 + 1))) x7_2))) x6_1 (wrap64 (x7_2 - 1))) else (none))) else (none)) else (none))) else (none)) else (none)) else (none)) else (none)) else (none)) else (none)) else (none)) else (none)) = some r := by rw [if_pos rfl] at H; exact H
           clear H
           have H := H1
           clear H1
           obtain ⟨ji22, hji22⟩ : ∃ j_ : Int, (wrap64 (x6_1 + 1)) = j_ := ⟨_, rfl⟩
           replace H : (if 0 ≤ (ji22) then (if (ji22) < (x5_2.length : Int) then (if 0 ≤ x7_2 then (if x7_2 < ((rd_L3 x5_2 (ji22)).length : Int) then (if 0 ≤ x6_1 then (if x6_1 < (x5_2.length : Int) then (if 0 ≤ (wrap64 (x7_2 + 1)) then (if (wrap64 (x7_2 + 1)) < ((rd_L3 x5_2 x6_1).length : Int) then (if (rd (rd_L3 x5_2 x6_1) (wrap64 (x7_2 + 1))) > (rd (rd_L3 x5_2 (ji22)) x7_2) then (if x6_1 < (l0.length : Int) then (if x7_2 < (l1.length : Int) then (if (rdOf ByteArray.empty l0 x6_1).toList = (rdOf ByteArray.empty l1 x7_2).toList then (if (wrap64 (x7_2 + 1)) < ((rd_L3 x5_2 (ji22)).length : Int) then (if x7_2 < ((rd_L3 x5_2 x6_1).length : Int) then (spec_l04Table.l1 kj18 l0 l1 (x5_2.set (x6_1 : Int).toNat ((rd_L3 x5_2 x6_1).set (x7_2 : Int).toNat (wrap64 ((rd (rd_L3 x5_2 (ji22)) (wrap64 (x7_2 + 1))) + 1)))) x6_1 (wrap64 (x7_2 - 1))) else (none)) else (none)) else (if x7_2 < ((rd_L3 x5_2 x6_1).length : Int) then (spec_l04Table.l1 kj18 l0 l1 (x5_2.set (x6_1 : Int).toNat ((rd_L3 x5_2 x6_1).set (x7_2 : Int).toNat (rd (rd_L3 x5_2 x6_1) (wrap64 (x7_2 + 1))))) x6_1 (wrap64 (x7_2 - 1))) else (none))) else (none)) else (none)) else (if x6_1 < (l0.length : Int) then (if x7_2 < (l1.length : Int) then (if (rdOf ByteArray.empty l0 x6_1).toList = (rdOf ByteArray.empty l1 x7_2).toList then (if (wrap64 (x7_2 + 1)) < ((rd_L3 x5_2 (ji22)).length : Int) then (if x7_2 < ((rd_L3 x5_2 x6_1).length : Int) then (spec_l04Table.l1 kj18 l0 l1 (x5_2.set (x6_1 : Int).toNat ((rd_L3 x5_2 x6_1).set (x7_2 : Int).toNat (wrap64 ((rd (rd_L3 x5_2 (ji22)) (wrap64 (x7_2 + 1))) + 1)))) x6_1 (wrap64 (x7_2 - 1))) else (none)) else (none)) else (if x7_2 < ((rd_L3 x5_2 x6_1).length : Int) then (spec_l04Table.l1 kj18 l0 l1 (x5_2.set (x6_1 : Int).toNat ((rd_L3 x5_2 x6_1).set (x7_2 : Int).toNat (rd (rd_L3 x5_2 (ji22)) x7_2))) x6_1 (wrap64 (x7_2 - 1))) else (none))) else (none)) else (none))) else (none)) else (none)) else (none)) else (none)) else (none)) else (none)) else (none)) else (none)) = some r := by first | (rw [hji22] at H; exact H) | (simp only [hji22] at H ⊢; exact H)
           have hji22w : (IntKind.i64.wrap (x6_1 + 1)) = ji22 := (i64_w _).trans hji22
           by_cases c23 : 0 ≤ (ji22)
           case neg =>
            rw [if_neg c23] at H
            exact absurd H (by simp)
           rw [if_pos c23] at H
           have c23b0 : decide (0 ≤ (ji22)) = true := decide_eq_true c23
           clear c23
           by_cases c24 : (ji22) < (x5_2.length : Int)
           case neg =>
            rw [if_neg c24] at H
            exact absurd H (by simp)
           rw [if_pos c24] at H
           have c24b0 : decide ((ji22) < (x5_2.length : Int)) = true := decide_eq_true c24
           clear c24
           by_cases c25 : 0 ≤ x7_2
           case neg =>
            rw [if_neg c25] at H
            exact absurd H (by simp)
           rw [if_pos c25] at H
           have c25b0 : decide (0 ≤ x7_2) = true := decide_eq_true c25
           clear c25
           by_cases c26 : x7_2 < ((rd_L3 x5_2 (ji22)).length : Int)
           case neg =>
            rw [if_neg c26] at H
            exact absurd H (by simp)
           rw [if_pos c26] at H
           have c26b0 : decide (x7_2 < ((rd_L3 x5_2 (ji22)).length : Int)) = true := decide_eq_true c26
           clear c26
           by_cases c27 : 0 ≤ x6_1
           case neg =>
            rw [if_neg c27] at H
            exact absurd H (by simp)
           rw [if_pos c27] at H
           have c27b0 : decide (0 ≤ x6_1) = true := decide_eq_true c27
           clear c27
           by_cases c28 : x6_1 < (x5_2.length : Int)
           case neg =>
            rw [if_neg c28] at H
            exact absurd H (by simp)
           rw [if_pos c28] at H
           have c28b0 : decide (x6_1 < (x5_2.length : Int)) = true := decide_eq_true c28
           clear c28
           obtain ⟨ji29, hji29⟩ : ∃ j_ : Int, (wrap64 (x7_2 + 1)) = j_ := ⟨_, rfl⟩
           replace H : (if 0 ≤ (ji29) then (if (ji29) < ((rd_L3 x5_2 x6_1).length : Int) then (if (rd (rd_L3 x5_2 x6_1) (ji29)) > (rd (rd_L3 x5_2 (ji22)) x7_2) then (if x6_1 < (l0.length : Int) then (if x7_2 < (l1.length : Int) then (if (rdOf ByteArray.empty l0 x6_1).toList = (rdOf ByteArray.empty l1 x7_2).toList then (if (ji29) < ((rd_L3 x5_2 (ji22)).length : Int) then (if x7_2 < ((rd_L3 x5_2 x6_1).length : Int) then (spec_l04Table.l1 kj18 l0 l1 (x5_2.set (x6_1 : Int).toNat ((rd_L3 x5_2 x6_1).set (x7_2 : Int).toNat (wrap64 ((rd (rd_L3 x5_2 (ji22)) (ji29)) + 1)))) x6_1 (wrap64 (x7_2 - 1))) else (none)) else (none)) else (if x7_2 < ((rd_L3 x5_2 x6_1).length : Int) then (spec_l04Table.l1 kj18 l0 l1 (x5_2.set (x6_1 : Int).toNat ((rd_L3 x5_2 x6_1).set (x7_2 : Int).toNat (rd (rd_L3 x5_2 x6_1) (ji29)))) x6_1 (wrap64 (x7_2 - 1))) else (none))) else (none)) else (none)) else (if x6_1 < (l0.length : Int) then (if x7_2 < (l1.length : Int) then (if (rdOf ByteArray.empty l0 x6_1).toList = (rdOf ByteArray.empty l1 x7_2).toList then (if (ji29) < ((rd_L3 x5_2 (ji22)).length : Int) then (if x7_2 < ((rd_L3 x5_2 x6_1).length : Int) then (spec_l04Table.l1 kj18 l0 l1 (x5_2.set (x6_1 : Int).toNat ((rd_L3 x5_2 x6_1).set (x7_2 : Int).toNat (wrap64 ((rd (rd_L3 x5_2 (ji22)) (ji29)) + 1)))) x6_1 (wrap64 (x7_2 - 1))) else (none)) else (none)) else (if x7_2 < ((rd_L3 x5_2 x6_1).length : Int) then (spec_l04Table.l1 kj18 l0 l1 (x5_2.set (x6_1 : Int).toNat ((rd_L3 x5_2 x6_1).set (x7_2 : Int).toNat (rd (rd_L3 x5_2 (ji22)) x7_2))) x6_1 (wrap64 (x7_2 - 1))) else (none))) else (none)) else (none))) else (none)) else (none)) = some r := by first | (rw [hji29] at H; exact H) | (simp only [hji29] at H ⊢; exact H)
           have hji29w : (IntKind.i64.wrap (x7_2 + 1)) = ji29 := (i64_w _).trans hji29
           by_cases c30 : 0 ≤ (ji29)
           case neg =>
            rw [if_neg c30] at H
            exact absurd H (by simp)
           rw [if_pos c30] at H
           have c30b0 : decide (0 ≤ (ji29)) = true := decide_eq_true c30
           clear c30
           by_cases c31 : (ji29) < ((rd_L3 x5_2 x6_1).length : Int)
           case neg =>
            rw [if_neg c31] at H
            exact absurd H (by simp)
           rw [if_pos c31] at H
           have c31b0 : decide ((ji29) < ((rd_L3 x5_2 x6_1).length : Int)) = true := decide_eq_true c31
           clear c31
           by_cases c32 : (rd (rd_L3 x5_2 x6_1) (ji29)) > (rd (rd_L3 x5_2 (ji22)) x7_2)
           ·rw [if_pos c32] at H
            have c32b0 : decide ((rd (rd_L3 x5_2 (ji22)) x7_2) < (rd (rd_L3 x5_2 x6_1) (ji29))) = true := decide_eq_true c32
            clear c32
            by_cases c33 : x6_1 < (l0.length : Int)
            case neg =>
             rw [if_neg c33] at H
             exact absurd H (by simp)
            rw [if_pos c33] at H
            have c33b0 : decide (x6_1 < (l0.length : Int)) = true := decide_eq_true c33
            clear c33
            by_cases c34 : x7_2 < (l1.length : Int)
            case neg =>
             rw [if_neg c34] at H
             exact absurd H (by simp)
            rw [if_pos c34] at H
            have c34b0 : decide (x7_2 < (l1.length : Int)) = true := decide_eq_true c34
            clear c34
            by_cases c35 : (rdOf ByteArray.empty l0 x6_1).toList = (rdOf ByteArray.empty l1 x7_2).toList
            ·rw [if_pos c35] at H
             have c35b0 : ((rdOf ByteArray.empty l0 x6_1).toList == (rdOf ByteArray.empty l1 x7_2).toList) = true := beq_iff_eq.mpr c35
             have c35b1 : ((rdOf ByteArray.empty l0 x6_1).toList != (rdOf ByteArray.empty l1 x7_2).toList) = false := bne_eq_false_iff_eq.mpr c35
             clear c35
             by_cases c36 : (ji29) < ((rd_L3 x5_2 (ji22)).length : Int)
             case neg =>
              rw [if_neg c36] at H
              exact absurd H (by simp)
             rw [if_pos c36] at H
             have c36b0 : decide ((ji29) < ((rd_L3 x5_2 (ji22)).length : Int)) = true := decide_eq_true c36
             clear c36
             by_cases c37 : x7_2 < ((rd_L3 x5_2 x6_1).length : Int)
             case neg =>
              rw [if_neg c37] at H
              exact absurd H (by simp)
             rw [if_pos c37] at H
             have c37b0 : decide (x7_2 < ((rd_L3 x5_2 x6_1).length : Int)) = true := decide_eq_true c37
             clear c37
             obtain ⟨y239, hy239⟩ : ∃ y_ : List Int, y_ = ((rd_L3 x5_2 x6_1).set (x7_2 : Int).toNat (wrap64 ((rd (rd_L3 x5_2 (ji22)) (ji29)) + 1))) := ⟨_, rfl⟩
             replace H : (spec_l04Table.l1 kj18 l0 l1 (x5_2.set (x6_1 : Int).toNat y239) x6_1 (wrap64 (x7_2 - 1))) = some r := by first | (rw [hy239]; with_reducible exact H) | (have H2_ := (Option.bind_some _ _).symm.trans H; rw [hy239]; with_reducible exact H2_) | (have H2_ := (Option.bind_some _ _).symm.trans H; with_reducible exact H2_) | with_reducible exact H | (rw [hy239]; exact H) | exact H
             have Ny239 := Aside0.mk hy239
             clear hy239
             obtain ⟨y241, hy241⟩ : ∃ y_ : List (List Int), y_ = (x5_2.set (x6_1 : Int).toNat y239) := ⟨_, rfl⟩
             replace H : (spec_l04Table.l1 kj18 l0 l1 y241 x6_1 (wrap64 (x7_2 - 1))) = some r := by first | (rw [hy241]; with_reducible exact H) | (have H2_ := (Option.bind_some _ _).symm.trans H; rw [hy241]; with_reducible exact H2_) | (have H2_ := (Option.bind_some _ _).symm.trans H; with_reducible exact H2_) | with_reducible exact H | (rw [hy241]; exact H) | exact H
             have Ny241 := Aside0.mk hy241
             clear hy241
             have H' := Aside0.mk H
             clear H
             have p228 : 0 ≤ ((ji22) : Int) := of_decide_eq_true q0_
             have q228 : (ji22) < (x5_2.length : Int) := of_decide_eq_true q0_
             obtain ⟨ad228, A228_0, c228_0, e228, hx228_0, hl228_0, hi228_0⟩ := at_L3 (Kd.S_reads' HO_5.out).2.2 (ji22) p228 q228
             obtain rfl : (⟨go14, 0, none⟩ : Addr) = ad228 := (by injection e228)
             obtain ⟨ce228, hce228, hMe228, hcc228⟩ := Kd.S_get HO_5.out [] (ji22) p228 (by first | exact q228 | exact of_decide_eq_true q0_ | (have e_ := (Kd.S_reads' HO_5.out).1; omega))
             obtain ⟨ve228_0, rfl, ge228_0⟩ := hMe228
             have hv228_0 := hcc228 0 _ rfl
             rw [Nat.add_zero, show ((Kd.slice 3 (Kd.int .i64))).sz = 1 from rfl, Nat.mul_one] at hv228_0
             replace hv228_0 := Option.some.inj (hv228_0.symm.trans hx228_0)
             rw [hv228_0] at ge228_0
             have HL228_0 := Aside0.mk (show Kd.R (Kd.int .i64) 3 _ _ _ _ (rd_L3 x5_2 (ji22)) from ge228_0)
             clear hv228_0 ge228_0
             have HX228_0 := Aside0.mk hx228_0
             clear hcc228 hce228
             (first | simp only [add_plain] at hx228_0 | simp only [add_at] at hx228_0 | simp only [Addr.add, Nat.zero_add] at hx228_0 | skip)
             have HR228_0 := Aside0.mk hi228_0
             have HC228_0 := Aside0.mk hl228_0
             clear hi228_0 hl228_0
             replace p228 := eq_true p228
             replace q228 := eq_true q228
             have p229 : 0 ≤ (x7_2 : Int) := of_decide_eq_true q0_
             have q229 : x7_2 < ((rd_L3 x5_2 (ji22)).length : Int) := of_decide_eq_true q0_
             obtain ⟨ad229, e229, hx229_0⟩ := Kd.at_int q30_ x7_2 p229 q229
             cases e229
             replace p229 := eq_true p229
             replace q229 := eq_true q229
             have p230 : 0 ≤ (x6_1 : Int) := of_decide_eq_true q0_
             have q230 : x6_1 < (x5_2.length : Int) := of_decide_eq_true q0_
             obtain ⟨ad230, A230_0, c230_0, e230, hx230_0, hl230_0, hi230_0⟩ := at_L3 (Kd.S_reads' HO_5.out).2.2 x6_1 p230 q230
             obtain rfl : (⟨go14, 0, none⟩ : Addr) = ad230 := (by injection e230)
             obtain ⟨ce230, hce230, hMe230, hcc230⟩ := Kd.S_get HO_5.out [] x6_1 p230 (by first | exact q230 | exact of_decide_eq_true q0_ | (have e_ := (Kd.S_reads' HO_5.out).1; omega))
             obtain ⟨ve230_0, rfl, ge230_0⟩ := hMe230
             have hv230_0 := hcc230 0 _ rfl
             rw [Nat.add_zero, show ((Kd.slice 3 (Kd.int .i64))).sz = 1 from rfl, Nat.mul_one] at hv230_0
             replace hv230_0 := Option.some.inj (hv230_0.symm.trans hx230_0)
             rw [hv230_0] at ge230_0
             have HL230_0 := Aside0.mk (show Kd.R (Kd.int .i64) 3 _ _ _ _ (rd_L3 x5_2 x6_1) from ge230_0)
             clear hv230_0 ge230_0
             have HX230_0 := Aside0.mk hx230_0
             clear hcc230 hce230
             (first | simp only [add_plain] at hx230_0 | simp only [add_at] at hx230_0 | simp only [Addr.add, Nat.zero_add] at hx230_0 | skip)
             have HR230_0 := Aside0.mk hi230_0
             have HC230_0 := Aside0.mk hl230_0
             clear hi230_0 hl230_0
             replace p230 := eq_true p230
             replace q230 := eq_true q230
             have p231 : 0 ≤ ((ji29) : Int) := of_decide_eq_true q0_
             have q231 : (ji29) < ((rd_L3 x5_2 x6_1).length : Int) := of_decide_eq_true q0_
             obtain ⟨ad231, e231, hx231_0⟩ := Kd.at_int q31_ (ji29) p231 q231
             cases e231
             replace p231 := eq_true p231
             replace q231 := eq_true q231
             have p232 : 0 ≤ (x6_1 : Int) := of_decide_eq_true q0_
             have q232 : x6_1 < (x5_2.length : Int) := of_decide_eq_true q0_
             obtain ⟨ad232, A232_0, c232_0, e232, hx232_0, hl232_0, hi232_0⟩ := at_L3 (Kd.S_reads' HO_5.out).2.2 x6_1 p232 q232
             obtain rfl : (⟨go14, 0, none⟩ : Addr) = ad232 := (by injection e232)
             obtain ⟨ce232, hce232, hMe232, hcc232⟩ := Kd.S_get HO_5.out [] x6_1 p232 (by first | exact q232 | exact of_decide_eq_true q0_ | (have e_ := (Kd.S_reads' HO_5.out).1; omega))
             obtain ⟨ve232_0, rfl, ge232_0⟩ := hMe232
             have hv232_0 := hcc232 0 _ rfl
             rw [Nat.add_zero, show ((Kd.slice 3 (Kd.int .i64))).sz = 1 from rfl, Nat.mul_one] at hv232_0
             replace hv232_0 := Option.some.inj (hv232_0.symm.trans hx232_0)
             rw [hv232_0] at ge232_0
             have HL232_0 := Aside0.mk (show Kd.R (Kd.int .i64) 3 _ _ _ _ (rd_L3 x5_2 x6_1) from ge232_0)
             clear hv232_0 ge232_0
             have HX232_0 := Aside0.mk hx232_0
             clear hcc232 hce232
             (first | simp only [add_plain] at hx232_0 | simp only [add_at] at hx232_0 | simp only [Addr.add, Nat.zero_add] at hx232_0 | skip)
             have HR232_0 := Aside0.mk hi232_0
             have HC232_0 := Aside0.mk hl232_0
             clear hi232_0 hl232_0
             replace p232 := eq_true p232
             replace q232 := eq_true q232
             have ea_ := Option.some.inj (hx230_0.symm.trans hx232_0)
             injection ea_ with ea_ en_ ec_
             subst ea_
             subst ec_
             clear en_
             have p233 : 0 ≤ ((ji29) : Int) := of_decide_eq_true q0_
             have q233 : (ji29) < ((rd_L3 x5_2 x6_1).length : Int) := of_decide_eq_true q0_
             obtain ⟨ad233, e233, hx233_0⟩ := Kd.at_int (by repeat (first | (with_reducible exact HR232_0.out) | (with_reducible refine Kd.C_alloc ?_ _) | (with_reducible refine Kd.C_drewN ?_ _) | (with_reducible refine Kd.C_drew ?_) | exact HR232_0.out)) (ji29) p233 q233
             cases e233
             replace p233 := eq_true p233
             replace q233 := eq_true q233
             have p234 : 0 ≤ (x6_1 : Int) := of_decide_eq_true q0_
             have q234 : x6_1 < (l0.length : Int) := of_decide_eq_true q0_
             obtain ⟨ad234, e234, hx234_0⟩ := Kd.at_string HR0.out x6_1 p234 q234
             cases e234
             replace hx234_0 := (HB.out.cell (World.block_lt_of_cell? w _ hx234_0)).trans hx234_0
             replace p234 := eq_true p234
             replace q234 := eq_true q234
             have p235 : 0 ≤ (x7_2 : Int) := of_decide_eq_true q0_
             have q235 : x7_2 < (l1.length : Int) := of_decide_eq_true q0_
             obtain ⟨ad235, e235, hx235_0⟩ := Kd.at_string HR1.out x7_2 p235 q235
             cases e235
             replace hx235_0 := (HB.out.cell (World.block_lt_of_cell? w _ hx235_0)).trans hx235_0
             replace p235 := eq_true p235
             replace q235 := eq_true q235
             have p236 : 0 ≤ ((ji22) : Int) := of_decide_eq_true q0_
             have q236 : (ji22) < (x5_2.length : Int) := of_decide_eq_true q0_
             obtain ⟨ad236, A236_0, c236_0, e236, hx236_0, hl236_0, hi236_0⟩ := at_L3 (Kd.S_reads' HO_5.out).2.2 (ji22) p236 q236
             obtain rfl : (⟨go14, 0, none⟩ : Addr) = ad236 := (by injection e236)
             obtain ⟨ce236, hce236, hMe236, hcc236⟩ := Kd.S_get HO_5.out [] (ji22) p236 (by first | exact q236 | exact of_decide_eq_true q0_ | (have e_ := (Kd.S_reads' HO_5.out).1; omega))
             obtain ⟨ve236_0, rfl, ge236_0⟩ := hMe236
             have hv236_0 := hcc236 0 _ rfl
             rw [Nat.add_zero, show ((Kd.slice 3 (Kd.int .i64))).sz = 1 from rfl, Nat.mul_one] at hv236_0
             replace hv236_0 := Option.some.inj (hv236_0.symm.trans hx236_0)
             rw [hv236_0] at ge236_0
             have HL236_0 := Aside0.mk (show Kd.R (Kd.int .i64) 3 _ _ _ _ (rd_L3 x5_2 (ji22)) from ge236_0)
             clear hv236_0 ge236_0
             have HX236_0 := Aside0.mk hx236_0
             clear hcc236 hce236
             (first | simp only [add_plain] at hx236_0 | simp only [add_at] at hx236_0 | simp only [Addr.add, Nat.zero_add] at hx236_0 | skip)
             have HR236_0 := Aside0.mk hi236_0
             have HC236_0 := Aside0.mk hl236_0
             clear hi236_0 hl236_0
             replace p236 := eq_true p236
             replace q236 := eq_true q236
             have ea_ := Option.some.inj (hx228_0.symm.trans hx236_0)
             injection ea_ with ea_ en_ ec_
             subst ea_
             subst ec_
             clear en_
             have p237 : 0 ≤ ((ji29) : Int) := of_decide_eq_true q0_
             have q237 : (ji29) < ((rd_L3 x5_2 (ji22)).length : Int) := of_decide_eq_true q0_
             obtain ⟨ad237, e237, hx237_0⟩ := Kd.at_int (by repeat (first | (with_reducible exact HR236_0.out) | (with_reducible refine Kd.C_alloc ?_ _) | (with_reducible refine Kd.C_drewN ?_ _) | (with_reducible refine Kd.C_drew ?_) | exact HR236_0.out)) (ji29) p237 q237
             cases e237
             replace p237 := eq_true p237
             replace q237 := eq_true q237
             have p238 : 0 ≤ (x6_1 : Int) := of_decide_eq_true q0_
             have q238 : x6_1 < (x5_2.length : Int) := of_decide_eq_true q0_
             obtain ⟨ad238, A238_0, c238_0, e238, hx238_0, hl238_0, hi238_0⟩ := at_L3 (Kd.S_reads' HO_5.out).2.2 x6_1 p238 q238
             obtain rfl : (⟨go14, 0, none⟩ : Addr) = ad238 := (by injection e238)
             obtain ⟨ce238, hce238, hMe238, hcc238⟩ := Kd.S_get HO_5.out [] x6_1 p238 (by first | exact q238 | exact of_decide_eq_true q0_ | (have e_ := (Kd.S_reads' HO_5.out).1; omega))
             obtain ⟨ve238_0, rfl, ge238_0⟩ := hMe238
             have hv238_0 := hcc238 0 _ rfl
             rw [Nat.add_zero, show ((Kd.slice 3 (Kd.int .i64))).sz = 1 from rfl, Nat.mul_one] at hv238_0
             replace hv238_0 := Option.some.inj (hv238_0.symm.trans hx238_0)
             rw [hv238_0] at ge238_0
             have HL238_0 := Aside0.mk (show Kd.R (Kd.int .i64) 3 _ _ _ _ (rd_L3 x5_2 x6_1) from ge238_0)
             clear hv238_0 ge238_0
             have HX238_0 := Aside0.mk hx238_0
             clear hcc238 hce238
             (first | simp only [add_plain] at hx238_0 | simp only [add_at] at hx238_0 | simp only [Addr.add, Nat.zero_add] at hx238_0 | skip)
             have HR238_0 := Aside0.mk hi238_0
             have HC238_0 := Aside0.mk hl238_0
             clear hi238_0 hl238_0
             replace p238 := eq_true p238
             replace q238 := eq_true q238
             have ea_ := Option.some.inj (hx230_0.symm.trans hx238_0)
             injection ea_ with ea_ en_ ec_
             subst ea_
             subst ec_
             clear en_
             have p38 : 0 ≤ (x7_2 : Int) := of_decide_eq_true q0_
             have q38 : (x7_2 : Int) < (((rd_L3 x5_2 x6_1).length : Int) : Int) := of_decide_eq_true q0_
             obtain ⟨go38, co38, eo38, gb38, gl38, cl38, HG38⟩ := Kd.R_form HL238_0.out (by omega)
             (first | cases eo38 | (injection eo38 with ea_ en_ ec_; (first | subst ea_ | (injection ea_ with ea_; subst ea_)); subst ec_; clear en_))
             have GB38 := Aside0.mk gb38
             have GG38 := Aside0.mk HG38
             clear gb38 gl38 HG38
             (first | simp only [add_plain] at hx233_0 | skip)
             obtain ⟨hx38_0, hf38_0⟩ := Kd.R_celln 0 HL238_0.out (x7_2 : Int) p38 q38
             replace p38 := eq_true p38
             replace q38 := eq_true q38
             have hq39 : (x6_1 : Int) < (x5_2.length : Int) := (by have h_ : (x6_1 : Int) < ((x5_2.length : Int) : Int) := of_decide_eq_true q0_; first | exact h_ | (have e_ := (Kd.S_reads' HO_5.out).1; omega) | simpa only [List.length_set, List.length_set] using h_)
             obtain ⟨oki39, ce39, hcl39, hM39, hcc39, hok39, hbk39⟩ := Kd.S_borrow HO_5.out [] (x6_1 : Int) (of_decide_eq_true q0_) hq39
             obtain ⟨ve39_0, rfl, ge39_0⟩ := hM39
             have hv39 := hcc39 0 _ rfl
             rw [Nat.add_zero, show ((Kd.slice 3 (Kd.int .i64))).sz = 1 from rfl, Nat.mul_one] at hv39
             replace hv39 := Option.some.inj (hv39.symm.trans HX238_0.out)
             subst hv39
             clear hcc39 hcl39
             replace ge39_0 := (show Kd.R (Kd.int .i64) 3 _ _ _ _ (rd_L3 x5_2 x6_1) from ge39_0)
             have HP39 := Kd.R_putg ge39_0 (x7_2 : Int) (wrap64 ((rd (rd_L3 x5_2 (ji22)) (ji29)) + 1))
             go_wp2_with (first | ((with_reducible refine gate_store (t := 3) (p := 90) rfl ?_); (try (rw [drewN_self wc]; generalize hq_ : World.drewN wc _ = wc; (try (replace hx228_0 := cell_at hq_ hx228_0)); (try (replace hx229_0 := cell_at hq_ hx229_0)); (try (replace hx230_0 := cell_at hq_ hx230_0)); (try (replace hx231_0 := cell_at hq_ hx231_0)); (try (replace hx232_0 := cell_at hq_ hx232_0)); (try (replace hx233_0 := cell_at hq_ hx233_0)); (try (replace hx234_0 := cell_at hq_ hx234_0)); (try (replace hx235_0 := cell_at hq_ hx235_0)); (try (replace hx236_0 := cell_at hq_ hx236_0)); (try (replace hx237_0 := cell_at hq_ hx237_0)); (try (replace hx238_0 := cell_at hq_ hx238_0)); (try (replace hx38_0 := cell_at hq_ hx38_0)); (try (replace hf38_0 := frozen_at hq_ hf38_0)); (try (replace HX228_0 := Aside0.mk (cell_at hq_ HX228_0.out))); (try (replace HX230_0 := Aside0.mk (cell_at hq_ HX230_0.out))); (try (replace HX232_0 := Aside0.mk (cell_at hq_ HX232_0.out))); (try (replace HX236_0 := Aside0.mk (cell_at hq_ HX236_0.out))); (try (replace HX238_0 := Aside0.mk (cell_at hq_ HX238_0.out))); have n0_ := Aside0.mk (Kd.S_at hq_ HO_5.out); (try have n1_ := Aside0.mk (Kd.R_at hq_ HL258.out)); have n2_ := Aside0.mk (below_at hq_ HB.out); (try clear HL258); clear hq_ HO_5 HB; have HO_5 := n0_; (try have HL258 := n1_); have HB := n2_; (try clear n1_); clear n0_ n2_; (try (have hq39 : (x6_1 : Int) < (x5_2.length : Int) := (by have h_ : (x6_1 : Int) < ((x5_2.length : Int) : Int) := of_decide_eq_true q0_; first | exact h_ | (have e_ := (Kd.S_reads' HO_5.out).1; omega) | simpa only [List.length_set, List.length_set] using h_))); (try (obtain ⟨oki39, ce39, hcl39, hM39, hcc39, hok39, hbk39⟩ := Kd.S_borrow HO_5.out [] (x6_1 : Int) (of_decide_eq_true q0_) hq39)); (try (obtain ⟨ve39_0, rfl, ge39_0⟩ := hM39)); (try (have hv39 := hcc39 0 _ rfl)); (try (rw [Nat.add_zero, show ((Kd.slice 3 (Kd.int .i64))).sz = 1 from rfl, Nat.mul_one] at hv39)); (try (replace hv39 := Option.some.inj (hv39.symm.trans HX238_0.out))); (try (subst hv39)); (try (clear hcc39 hcl39)); (try (replace ge39_0 := (show Kd.R (Kd.int .i64) 3 _ _ _ _ (rd_L3 x5_2 x6_1) from ge39_0))); (try (have HP39 := Kd.R_putg ge39_0 (x7_2 : Int) (wrap64 ((rd (rd_L3 x5_2 (ji22)) (ji29)) + 1)))))); refine store_event (t := 3) (p := 90) (v := ?vo_w40) (w1 := (wc.setCell ⟨go38, (x7_2 : Int).toNat, none⟩ (.int .i64 (wrap64 ((rd (rd_L3 x5_2 (ji22)) (ji29)) + 1))))) ?hg ?ho ?hn ?hr ?_; (case ho => rfl); (case hg => rfl); (case hn => rfl); (case hr => first | (go_simp; done) | (go_simp; rfl)); intro w40 hw; have hg : wc.grownBy w40 (some go38) := (by rw [hw]; exact HP39.2); have hz_ : Kd.R (Kd.int .i64) 3 w40 w.heap.size oki39 (.slice (some ⟨go38, 0, none⟩) (rd_L3 x5_2 x6_1).length c230_0) y239 := (by rw [hw, Ny239.out]; exact HP39.1); have hp_ : Kd.S (Kd.slice 3 (Kd.int .i64)) 50 w40 w.heap.size (fun _ => True) (.slice (some ⟨go14, 0, none⟩) x5_2.length co14) y241 := (by rw [Ny241.out]; exact hbk39 hg (fun k_ e_ => by injection e_ with e_; subst e_; exact ge39_0.1 _ rfl) (Kd.M_row hz_)); have hm_ := Kd.R_mono hz_ hok39; clear HP39 hbk39; have n0_ := Aside0.mk (hp_); have n1_ := Aside0.mk ((by rw [hw]; exact below_set (HB.out) GB38.out : Below w.heap.size w w40)); have n2_ := Aside0.mk (hm_); have n3_ := Aside0.mk ((Kd.R_reads' hm_).2.1); clear HO_5; clear HB; clear HL228_0; clear HL230_0; clear HL232_0; clear HL236_0; clear HL238_0; have HO_5 := n0_; have HB := n1_; have HL258 := n2_; have HC240 := n3_; clear n0_ n1_ n2_ n3_; clear hg hw hp_ hz_ hm_ hok39))
             repeat (go_quiet (first | ((with_reducible refine gate_store (t := 3) (p := 90) rfl ?_); (try (rw [drewN_self wc]; generalize hq_ : World.drewN wc _ = wc; (try (replace hx228_0 := cell_at hq_ hx228_0)); (try (replace hx229_0 := cell_at hq_ hx229_0)); (try (replace hx230_0 := cell_at hq_ hx230_0)); (try (replace hx231_0 := cell_at hq_ hx231_0)); (try (replace hx232_0 := cell_at hq_ hx232_0)); (try (replace hx233_0 := cell_at hq_ hx233_0)); (try (replace hx234_0 := cell_at hq_ hx234_0)); (try (replace hx235_0 := cell_at hq_ hx235_0)); (try (replace hx236_0 := cell_at hq_ hx236_0)); (try (replace hx237_0 := cell_at hq_ hx237_0)); (try (replace hx238_0 := cell_at hq_ hx238_0)); (try (replace hx38_0 := cell_at hq_ hx38_0)); (try (replace hf38_0 := frozen_at hq_ hf38_0)); (try (replace HX228_0 := Aside0.mk (cell_at hq_ HX228_0.out))); (try (replace HX230_0 := Aside0.mk (cell_at hq_ HX230_0.out))); (try (replace HX232_0 := Aside0.mk (cell_at hq_ HX232_0.out))); (try (replace HX236_0 := Aside0.mk (cell_at hq_ HX236_0.out))); (try (replace HX238_0 := Aside0.mk (cell_at hq_ HX238_0.out))); have n0_ := Aside0.mk (Kd.S_at hq_ HO_5.out); (try have n1_ := Aside0.mk (Kd.R_at hq_ HL258.out)); have n2_ := Aside0.mk (below_at hq_ HB.out); (try clear HL258); clear hq_ HO_5 HB; have HO_5 := n0_; (try have HL258 := n1_); have HB := n2_; (try clear n1_); clear n0_ n2_; (try (have hq39 : (x6_1 : Int) < (x5_2.length : Int) := (by have h_ : (x6_1 : Int) < ((x5_2.length : Int) : Int) := of_decide_eq_true q0_; first | exact h_ | (have e_ := (Kd.S_reads' HO_5.out).1; omega) | simpa only [List.length_set, List.length_set] using h_))); (try (obtain ⟨oki39, ce39, hcl39, hM39, hcc39, hok39, hbk39⟩ := Kd.S_borrow HO_5.out [] (x6_1 : Int) (of_decide_eq_true q0_) hq39)); (try (obtain ⟨ve39_0, rfl, ge39_0⟩ := hM39)); (try (have hv39 := hcc39 0 _ rfl)); (try (rw [Nat.add_zero, show ((Kd.slice 3 (Kd.int .i64))).sz = 1 from rfl, Nat.mul_one] at hv39)); (try (replace hv39 := Option.some.inj (hv39.symm.trans HX238_0.out))); (try (subst hv39)); (try (clear hcc39 hcl39)); (try (replace ge39_0 := (show Kd.R (Kd.int .i64) 3 _ _ _ _ (rd_L3 x5_2 x6_1) from ge39_0))); (try (have HP39 := Kd.R_putg ge39_0 (x7_2 : Int) (wrap64 ((rd (rd_L3 x5_2 (ji22)) (ji29)) + 1)))))); refine store_event (t := 3) (p := 90) (v := ?vo_w40) (w1 := (wc.setCell ⟨go38, (x7_2 : Int).toNat, none⟩ (.int .i64 (wrap64 ((rd (rd_L3 x5_2 (ji22)) (ji29)) + 1))))) ?hg ?ho ?hn ?hr ?_; (case ho => rfl); (case hg => rfl); (case hn => rfl); (case hr => first | (go_simp; done) | (go_simp; rfl)); intro w40 hw; have hg : wc.grownBy w40 (some go38) := (by rw [hw]; exact HP39.2); have hz_ : Kd.R (Kd.int .i64) 3 w40 w.heap.size oki39 (.slice (some ⟨go38, 0, none⟩) (rd_L3 x5_2 x6_1).length c230_0) y239 := (by rw [hw, Ny239.out]; exact HP39.1); have hp_ : Kd.S (Kd.slice 3 (Kd.int .i64)) 50 w40 w.heap.size (fun _ => True) (.slice (some ⟨go14, 0, none⟩) x5_2.length co14) y241 := (by rw [Ny241.out]; exact hbk39 hg (fun k_ e_ => by injection e_ with e_; subst e_; exact ge39_0.1 _ rfl) (Kd.M_row hz_)); have hm_ := Kd.R_mono hz_ hok39; clear HP39 hbk39; have n0_ := Aside0.mk (hp_); have n1_ := Aside0.mk ((by rw [hw]; exact below_set (HB.out) GB38.out : Below w.heap.size w w40)); have n2_ := Aside0.mk (hm_); have n3_ := Aside0.mk ((Kd.R_reads' hm_).2.1); clear HO_5; clear HB; clear HL228_0; clear HL230_0; clear HL232_0; clear HL236_0; clear HL238_0; have HO_5 := n0_; have HB := n1_; have HL258 := n2_; have HC240 := n3_; clear n0_ n1_ n2_ n3_; clear hg hw hp_ hz_ hm_ hok39)); try go_wp2_with (first | ((with_reducible refine gate_store (t := 3) (p := 90) rfl ?_); (try (rw [drewN_self wc]; generalize hq_ : World.drewN wc _ = wc; (try (replace hx228_0 := cell_at hq_ hx228_0)); (try (replace hx229_0 := cell_at hq_ hx229_0)); (try (replace hx230_0 := cell_at hq_ hx230_0)); (try (replace hx231_0 := cell_at hq_ hx231_0)); (try (replace hx232_0 := cell_at hq_ hx232_0)); (try (replace hx233_0 := cell_at hq_ hx233_0)); (try (replace hx234_0 := cell_at hq_ hx234_0)); (try (replace hx235_0 := cell_at hq_ hx235_0)); (try (replace hx236_0 := cell_at hq_ hx236_0)); (try (replace hx237_0 := cell_at hq_ hx237_0)); (try (replace hx238_0 := cell_at hq_ hx238_0)); (try (replace hx38_0 := cell_at hq_ hx38_0)); (try (replace hf38_0 := frozen_at hq_ hf38_0)); (try (replace HX228_0 := Aside0.mk (cell_at hq_ HX228_0.out))); (try (replace HX230_0 := Aside0.mk (cell_at hq_ HX230_0.out))); (try (replace HX232_0 := Aside0.mk (cell_at hq_ HX232_0.out))); (try (replace HX236_0 := Aside0.mk (cell_at hq_ HX236_0.out))); (try (replace HX238_0 := Aside0.mk (cell_at hq_ HX238_0.out))); have n0_ := Aside0.mk (Kd.S_at hq_ HO_5.out); (try have n1_ := Aside0.mk (Kd.R_at hq_ HL258.out)); have n2_ := Aside0.mk (below_at hq_ HB.out); (try clear HL258); clear hq_ HO_5 HB; have HO_5 := n0_; (try have HL258 := n1_); have HB := n2_; (try clear n1_); clear n0_ n2_; (try (have hq39 : (x6_1 : Int) < (x5_2.length : Int) := (by have h_ : (x6_1 : Int) < ((x5_2.length : Int) : Int) := of_decide_eq_true q0_; first | exact h_ | (have e_ := (Kd.S_reads' HO_5.out).1; omega) | simpa only [List.length_set, List.length_set] using h_))); (try (obtain ⟨oki39, ce39, hcl39, hM39, hcc39, hok39, hbk39⟩ := Kd.S_borrow HO_5.out [] (x6_1 : Int) (of_decide_eq_true q0_) hq39)); (try (obtain ⟨ve39_0, rfl, ge39_0⟩ := hM39)); (try (have hv39 := hcc39 0 _ rfl)); (try (rw [Nat.add_zero, show ((Kd.slice 3 (Kd.int .i64))).sz = 1 from rfl, Nat.mul_one] at hv39)); (try (replace hv39 := Option.some.inj (hv39.symm.trans HX238_0.out))); (try (subst hv39)); (try (clear hcc39 hcl39)); (try (replace ge39_0 := (show Kd.R (Kd.int .i64) 3 _ _ _ _ (rd_L3 x5_2 x6_1) from ge39_0))); (try (have HP39 := Kd.R_putg ge39_0 (x7_2 : Int) (wrap64 ((rd (rd_L3 x5_2 (ji22)) (ji29)) + 1)))))); refine store_event (t := 3) (p := 90) (v := ?vo_w40) (w1 := (wc.setCell ⟨go38, (x7_2 : Int).toNat, none⟩ (.int .i64 (wrap64 ((rd (rd_L3 x5_2 (ji22)) (ji29)) + 1))))) ?hg ?ho ?hn ?hr ?_; (case ho => rfl); (case hg => rfl); (case hn => rfl); (case hr => first | (go_simp; done) | (go_simp; rfl)); intro w40 hw; have hg : wc.grownBy w40 (some go38) := (by rw [hw]; exact HP39.2); have hz_ : Kd.R (Kd.int .i64) 3 w40 w.heap.size oki39 (.slice (some ⟨go38, 0, none⟩) (rd_L3 x5_2 x6_1).length c230_0) y239 := (by rw [hw, Ny239.out]; exact HP39.1); have hp_ : Kd.S (Kd.slice 3 (Kd.int .i64)) 50 w40 w.heap.size (fun _ => True) (.slice (some ⟨go14, 0, none⟩) x5_2.length co14) y241 := (by rw [Ny241.out]; exact hbk39 hg (fun k_ e_ => by injection e_ with e_; subst e_; exact ge39_0.1 _ rfl) (Kd.M_row hz_)); have hm_ := Kd.R_mono hz_ hok39; clear HP39 hbk39; have n0_ := Aside0.mk (hp_); have n1_ := Aside0.mk ((by rw [hw]; exact below_set (HB.out) GB38.out : Below w.heap.size w w40)); have n2_ := Aside0.mk (hm_); have n3_ := Aside0.mk ((Kd.R_reads' hm_).2.1); clear HO_5; clear HB; clear HL228_0; clear HL230_0; clear HL232_0; clear HL236_0; clear HL238_0; have HO_5 := n0_; have HB := n1_; have HL258 := n2_; have HC240 := n3_; clear n0_ n1_ n2_ n3_; clear hg hw hp_ hz_ hm_ hok39)))
             (try simp only [← hl5_2])
             go_roundg kj18
             case measure => have := HK1.out; have := HK2.out; have := HJ18.out; omega
             case rel => exact ⟨(y241), (wrap64 (x7_2 - 1)), q7_, H', ⟨by have := HK1.out; have := HK2.out; have := HJ18.out; omega⟩, ⟨by (try simp only [hl5_2]); (with_reducible repeat (first | apply Kd.S_alloc | apply Kd.S_drewN | apply Kd.S_drew)); exact HO_5.out⟩, ⟨by repeat (first | (with_reducible first | exact HB.out | apply below_alloc | apply pw_below_drewN | apply below_drew1) | exact HB.out)⟩⟩
            ·rw [if_neg c35] at H
             have c35b0 : ((rdOf ByteArray.empty l0 x6_1).toList == (rdOf ByteArray.empty l1 x7_2).toList) = false := beq_eq_false_iff_ne.mpr c35
             have c35b1 : ((rdOf ByteArray.empty l0 x6_1).toList != (rdOf ByteArray.empty l1 x7_2).toList) = true := bne_iff_ne.mpr c35
             by_cases c41 : x7_2 < ((rd_L3 x5_2 x6_1).length : Int)
             case neg =>
              rw [if_neg c41] at H
              exact absurd H (by simp)
             rw [if_pos c41] at H
             have c41b0 : decide (x7_2 < ((rd_L3 x5_2 x6_1).length : Int)) = true := decide_eq_true c41
             clear c41
             obtain ⟨y243, hy243⟩ : ∃ y_ : List Int, y_ = ((rd_L3 x5_2 x6_1).set (x7_2 : Int).toNat (rd (rd_L3 x5_2 x6_1) (ji29))) := ⟨_, rfl⟩
             replace H : (spec_l04Table.l1 kj18 l0 l1 (x5_2.set (x6_1 : Int).toNat y243) x6_1 (wrap64 (x7_2 - 1))) = some r := by first | (rw [hy243]; with_reducible exact H) | (have H2_ := (Option.bind_some _ _).symm.trans H; rw [hy243]; with_reducible exact H2_) | (have H2_ := (Option.bind_some _ _).symm.trans H; with_reducible exact H2_) | with_reducible exact H | (rw [hy243]; exact H) | exact H
             have Ny243 := Aside0.mk hy243
             clear hy243
             obtain ⟨y245, hy245⟩ : ∃ y_ : List (List Int), y_ = (x5_2.set (x6_1 : Int).toNat y243) := ⟨_, rfl⟩
             replace H : (spec_l04Table.l1 kj18 l0 l1 y245 x6_1 (wrap64 (x7_2 - 1))) = some r := by first | (rw [hy245]; with_reducible exact H) | (have H2_ := (Option.bind_some _ _).symm.trans H; rw [hy245]; with_reducible exact H2_) | (have H2_ := (Option.bind_some _ _).symm.trans H; with_reducible exact H2_) | with_reducible exact H | (rw [hy245]; exact H) | exact H
             have Ny245 := Aside0.mk hy245
             clear hy245
             have H' := Aside0.mk H
             clear H
             have p228 : 0 ≤ ((ji22) : Int) := of_decide_eq_true q0_
             have q228 : (ji22) < (x5_2.length : Int) := of_decide_eq_true q0_
             obtain ⟨ad228, A228_0, c228_0, e228, hx228_0, hl228_0, hi228_0⟩ := at_L3 (Kd.S_reads' HO_5.out).2.2 (ji22) p228 q228
             obtain rfl : (⟨go14, 0, none⟩ : Addr) = ad228 := (by injection e228)
             obtain ⟨ce228, hce228, hMe228, hcc228⟩ := Kd.S_get HO_5.out [] (ji22) p228 (by first | exact q228 | exact of_decide_eq_true q0_ | (have e_ := (Kd.S_reads' HO_5.out).1; omega))
             obtain ⟨ve228_0, rfl, ge228_0⟩ := hMe228
             have hv228_0 := hcc228 0 _ rfl
             rw [Nat.add_zero, show ((Kd.slice 3 (Kd.int .i64))).sz = 1 from rfl, Nat.mul_one] at hv228_0
             replace hv228_0 := Option.some.inj (hv228_0.symm.trans hx228_0)
             rw [hv228_0] at ge228_0
             have HL228_0 := Aside0.mk (show Kd.R (Kd.int .i64) 3 _ _ _ _ (rd_L3 x5_2 (ji22)) from ge228_0)
             clear hv228_0 ge228_0
             have HX228_0 := Aside0.mk hx228_0
             clear hcc228 hce228
             (first | simp only [add_plain] at hx228_0 | simp only [add_at] at hx228_0 | simp only [Addr.add, Nat.zero_add] at hx228_0 | skip)
             have HR228_0 := Aside0.mk hi228_0
             have HC228_0 := Aside0.mk hl228_0
             clear hi228_0 hl228_0
             replace p228 := eq_true p228
             replace q228 := eq_true q228
             have p229 : 0 ≤ (x7_2 : Int) := of_decide_eq_true q0_
             have q229 : x7_2 < ((rd_L3 x5_2 (ji22)).length : Int) := of_decide_eq_true q0_
             obtain ⟨ad229, e229, hx229_0⟩ := Kd.at_int q30_ x7_2 p229 q229
             cases e229
             replace p229 := eq_true p229
             replace q229 := eq_true q229
             have p230 : 0 ≤ (x6_1 : Int) := of_decide_eq_true q0_
             have q230 : x6_1 < (x5_2.length : Int) := of_decide_eq_true q0_
             obtain ⟨ad230, A230_0, c230_0, e230, hx230_0, hl230_0, hi230_0⟩ := at_L3 (Kd.S_reads' HO_5.out).2.2 x6_1 p230 q230
             obtain rfl : (⟨go14, 0, none⟩ : Addr) = ad230 := (by injection e230)
             obtain ⟨ce230, hce230, hMe230, hcc230⟩ := Kd.S_get HO_5.out [] x6_1 p230 (by first | exact q230 | exact of_decide_eq_true q0_ | (have e_ := (Kd.S_reads' HO_5.out).1; omega))
             obtain ⟨ve230_0, rfl, ge230_0⟩ := hMe230
             have hv230_0 := hcc230 0 _ rfl
             rw [Nat.add_zero, show ((Kd.slice 3 (Kd.int .i64))).sz = 1 from rfl, Nat.mul_one] at hv230_0
             replace hv230_0 := Option.some.inj (hv230_0.symm.trans hx230_0)
             rw [hv230_0] at ge230_0
             have HL230_0 := Aside0.mk (show Kd.R (Kd.int .i64) 3 _ _ _ _ (rd_L3 x5_2 x6_1) from ge230_0)
             clear hv230_0 ge230_0
             have HX230_0 := Aside0.mk hx230_0
             clear hcc230 hce230
             (first | simp only [add_plain] at hx230_0 | simp only [add_at] at hx230_0 | simp only [Addr.add, Nat.zero_add] at hx230_0 | skip)
             have HR230_0 := Aside0.mk hi230_0
             have HC230_0 := Aside0.mk hl230_0
             clear hi230_0 hl230_0
             replace p230 := eq_true p230
             replace q230 := eq_true q230
             have p231 : 0 ≤ ((ji29) : Int) := of_decide_eq_true q0_
             have q231 : (ji29) < ((rd_L3 x5_2 x6_1).length : Int) := of_decide_eq_true q0_
             obtain ⟨ad231, e231, hx231_0⟩ := Kd.at_int q31_ (ji29) p231 q231
             cases e231
             replace p231 := eq_true p231
             replace q231 := eq_true q231
             have p232 : 0 ≤ (x6_1 : Int) := of_decide_eq_true q0_
             have q232 : x6_1 < (x5_2.length : Int) := of_decide_eq_true q0_
             obtain ⟨ad232, A232_0, c232_0, e232, hx232_0, hl232_0, hi232_0⟩ := at_L3 (Kd.S_reads' HO_5.out).2.2 x6_1 p232 q232
             obtain rfl : (⟨go14, 0, none⟩ : Addr) = ad232 := (by injection e232)
             obtain ⟨ce232, hce232, hMe232, hcc232⟩ := Kd.S_get HO_5.out [] x6_1 p232 (by first | exact q232 | exact of_decide_eq_true q0_ | (have e_ := (Kd.S_reads' HO_5.out).1; omega))
             obtain ⟨ve232_0, rfl, ge232_0⟩ := hMe232
             have hv232_0 := hcc232 0 _ rfl
             rw [Nat.add_zero, show ((Kd.slice 3 (Kd.int .i64))).sz = 1 from rfl, Nat.mul_one] at hv232_0
             replace hv232_0 := Option.some.inj (hv232_0.symm.trans hx232_0)
             rw [hv232_0] at ge232_0
             have HL232_0 := Aside0.mk (show Kd.R (Kd.int .i64) 3 _ _ _ _ (rd_L3 x5_2 x6_1) from ge232_0)
             clear hv232_0 ge232_0
             have HX232_0 := Aside0.mk hx232_0
             clear hcc232 hce232
             (first | simp only [add_plain] at hx232_0 | simp only [add_at] at hx232_0 | simp only [Addr.add, Nat.zero_add] at hx232_0 | skip)
             have HR232_0 := Aside0.mk hi232_0
             have HC232_0 := Aside0.mk hl232_0
             clear hi232_0 hl232_0
             replace p232 := eq_true p232
             replace q232 := eq_true q232
             have ea_ := Option.some.inj (hx230_0.symm.trans hx232_0)
             injection ea_ with ea_ en_ ec_
             subst ea_
             subst ec_
             clear en_
             have p233 : 0 ≤ ((ji29) : Int) := of_decide_eq_true q0_
             have q233 : (ji29) < ((rd_L3 x5_2 x6_1).length : Int) := of_decide_eq_true q0_
             obtain ⟨ad233, e233, hx233_0⟩ := Kd.at_int (by repeat (first | (with_reducible exact HR232_0.out) | (with_reducible refine Kd.C_alloc ?_ _) | (with_reducible refine Kd.C_drewN ?_ _) | (with_reducible refine Kd.C_drew ?_) | exact HR232_0.out)) (ji29) p233 q233
             cases e233
             replace p233 := eq_true p233
             replace q233 := eq_true q233
             have p234 : 0 ≤ (x6_1 : Int) := of_decide_eq_true q0_
             have q234 : x6_1 < (l0.length : Int) := of_decide_eq_true q0_
             obtain ⟨ad234, e234, hx234_0⟩ := Kd.at_string HR0.out x6_1 p234 q234
             cases e234
             replace hx234_0 := (HB.out.cell (World.block_lt_of_cell? w _ hx234_0)).trans hx234_0
             replace p234 := eq_true p234
             replace q234 := eq_true q234
             have p235 : 0 ≤ (x7_2 : Int) := of_decide_eq_true q0_
             have q235 : x7_2 < (l1.length : Int) := of_decide_eq_true q0_
             obtain ⟨ad235, e235, hx235_0⟩ := Kd.at_string HR1.out x7_2 p235 q235
             cases e235
             replace hx235_0 := (HB.out.cell (World.block_lt_of_cell? w _ hx235_0)).trans hx235_0
             replace p235 := eq_true p235
             replace q235 := eq_true q235
             have p242 : 0 ≤ (x6_1 : Int) := of_decide_eq_true q0_
             have q242 : x6_1 < (x5_2.length : Int) := of_decide_eq_true q0_
             obtain ⟨ad242, A242_0, c242_0, e242, hx242_0, hl242_0, hi242_0⟩ := at_L3 (Kd.S_reads' HO_5.out).2.2 x6_1 p242 q242
             obtain rfl : (⟨go14, 0, none⟩ : Addr) = ad242 := (by injection e242)
             obtain ⟨ce242, hce242, hMe242, hcc242⟩ := Kd.S_get HO_5.out [] x6_1 p242 (by first | exact q242 | exact of_decide_eq_true q0_ | (have e_ := (Kd.S_reads' HO_5.out).1; omega))
             obtain ⟨ve242_0, rfl, ge242_0⟩ := hMe242
             have hv242_0 := hcc242 0 _ rfl
             rw [Nat.add_zero, show ((Kd.slice 3 (Kd.int .i64))).sz = 1 from rfl, Nat.mul_one] at hv242_0
             replace hv242_0 := Option.some.inj (hv242_0.symm.trans hx242_0)
             rw [hv242_0] at ge242_0
             have HL242_0 := Aside0.mk (show Kd.R (Kd.int .i64) 3 _ _ _ _ (rd_L3 x5_2 x6_1) from ge242_0)
             clear hv242_0 ge242_0
             have HX242_0 := Aside0.mk hx242_0
             clear hcc242 hce242
             (first | simp only [add_plain] at hx242_0 | simp only [add_at] at hx242_0 | simp only [Addr.add, Nat.zero_add] at hx242_0 | skip)
             have HR242_0 := Aside0.mk hi242_0
             have HC242_0 := Aside0.mk hl242_0
             clear hi242_0 hl242_0
             replace p242 := eq_true p242
             replace q242 := eq_true q242
             have ea_ := Option.some.inj (hx230_0.symm.trans hx242_0)
             injection ea_ with ea_ en_ ec_
             subst ea_
             subst ec_
             clear en_
             have p42 : 0 ≤ (x7_2 : Int) := of_decide_eq_true q0_
             have q42 : (x7_2 : Int) < (((rd_L3 x5_2 x6_1).length : Int) : Int) := of_decide_eq_true q0_
             obtain ⟨go42, co42, eo42, gb42, gl42, cl42, HG42⟩ := Kd.R_form HL242_0.out (by omega)
             (first | cases eo42 | (injection eo42 with ea_ en_ ec_; (first | subst ea_ | (injection ea_ with ea_; subst ea_)); subst ec_; clear en_))
             have GB42 := Aside0.mk gb42
             have GG42 := Aside0.mk HG42
             clear gb42 gl42 HG42
             (first | simp only [add_plain] at hx233_0 | skip)
             obtain ⟨hx42_0, hf42_0⟩ := Kd.R_celln 0 HL242_0.out (x7_2 : Int) p42 q42
             replace p42 := eq_true p42
             replace q42 := eq_true q42
             have hq43 : (x6_1 : Int) < (x5_2.length : Int) := (by have h_ : (x6_1 : Int) < ((x5_2.length : Int) : Int) := of_decide_eq_true q0_; first | exact h_ | (have e_ := (Kd.S_reads' HO_5.out).1; omega) | simpa only [List.length_set, List.length_set] using h_)
             obtain ⟨oki43, ce43, hcl43, hM43, hcc43, hok43, hbk43⟩ := Kd.S_borrow HO_5.out [] (x6_1 : Int) (of_decide_eq_true q0_) hq43
             obtain ⟨ve43_0, rfl, ge43_0⟩ := hM43
             have hv43 := hcc43 0 _ rfl
             rw [Nat.add_zero, show ((Kd.slice 3 (Kd.int .i64))).sz = 1 from rfl, Nat.mul_one] at hv43
             replace hv43 := Option.some.inj (hv43.symm.trans HX242_0.out)
             subst hv43
             clear hcc43 hcl43
             replace ge43_0 := (show Kd.R (Kd.int .i64) 3 _ _ _ _ (rd_L3 x5_2 x6_1) from ge43_0)
             have HP43 := Kd.R_putg ge43_0 (x7_2 : Int) (rd (rd_L3 x5_2 x6_1) (ji29))
             go_wp2_with (first | ((with_reducible refine gate_store (t := 3) (p := 90) rfl ?_); (try (rw [drewN_self wc]; generalize hq_ : World.drewN wc _ = wc; (try (replace hx228_0 := cell_at hq_ hx228_0)); (try (replace hx229_0 := cell_at hq_ hx229_0)); (try (replace hx230_0 := cell_at hq_ hx230_0)); (try (replace hx231_0 := cell_at hq_ hx231_0)); (try (replace hx232_0 := cell_at hq_ hx232_0)); (try (replace hx233_0 := cell_at hq_ hx233_0)); (try (replace hx234_0 := cell_at hq_ hx234_0)); (try (replace hx235_0 := cell_at hq_ hx235_0)); (try (replace hx242_0 := cell_at hq_ hx242_0)); (try (replace hx42_0 := cell_at hq_ hx42_0)); (try (replace hf42_0 := frozen_at hq_ hf42_0)); (try (replace HX228_0 := Aside0.mk (cell_at hq_ HX228_0.out))); (try (replace HX230_0 := Aside0.mk (cell_at hq_ HX230_0.out))); (try (replace HX232_0 := Aside0.mk (cell_at hq_ HX232_0.out))); (try (replace HX238_0 := Aside0.mk (cell_at hq_ HX238_0.out))); (try (replace HX242_0 := Aside0.mk (cell_at hq_ HX242_0.out))); have n0_ := Aside0.mk (Kd.S_at hq_ HO_5.out); (try have n1_ := Aside0.mk (Kd.R_at hq_ HL259.out)); have n2_ := Aside0.mk (below_at hq_ HB.out); (try clear HL259); clear hq_ HO_5 HB; have HO_5 := n0_; (try have HL259 := n1_); have HB := n2_; (try clear n1_); clear n0_ n2_; (try (have hq43 : (x6_1 : Int) < (x5_2.length : Int) := (by have h_ : (x6_1 : Int) < ((x5_2.length : Int) : Int) := of_decide_eq_true q0_; first | exact h_ | (have e_ := (Kd.S_reads' HO_5.out).1; omega) | simpa only [List.length_set, List.length_set] using h_))); (try (obtain ⟨oki43, ce43, hcl43, hM43, hcc43, hok43, hbk43⟩ := Kd.S_borrow HO_5.out [] (x6_1 : Int) (of_decide_eq_true q0_) hq43)); (try (obtain ⟨ve43_0, rfl, ge43_0⟩ := hM43)); (try (have hv43 := hcc43 0 _ rfl)); (try (rw [Nat.add_zero, show ((Kd.slice 3 (Kd.int .i64))).sz = 1 from rfl, Nat.mul_one] at hv43)); (try (replace hv43 := Option.some.inj (hv43.symm.trans HX242_0.out))); (try (subst hv43)); (try (clear hcc43 hcl43)); (try (replace ge43_0 := (show Kd.R (Kd.int .i64) 3 _ _ _ _ (rd_L3 x5_2 x6_1) from ge43_0))); (try (have HP43 := Kd.R_putg ge43_0 (x7_2 : Int) (rd (rd_L3 x5_2 x6_1) (ji29)))))); refine store_event (t := 3) (p := 90) (v := ?vo_w44) (w1 := (wc.setCell ⟨go42, (x7_2 : Int).toNat, none⟩ (.int .i64 (rd (rd_L3 x5_2 x6_1) (ji29))))) ?hg ?ho ?hn ?hr ?_; (case ho => rfl); (case hg => rfl); (case hn => rfl); (case hr => first | (go_simp; done) | (go_simp; rfl)); intro w44 hw; have hg : wc.grownBy w44 (some go42) := (by rw [hw]; exact HP43.2); have hz_ : Kd.R (Kd.int .i64) 3 w44 w.heap.size oki43 (.slice (some ⟨go42, 0, none⟩) (rd_L3 x5_2 x6_1).length c230_0) y243 := (by rw [hw, Ny243.out]; exact HP43.1); have hp_ : Kd.S (Kd.slice 3 (Kd.int .i64)) 50 w44 w.heap.size (fun _ => True) (.slice (some ⟨go14, 0, none⟩) x5_2.length co14) y245 := (by rw [Ny245.out]; exact hbk43 hg (fun k_ e_ => by injection e_ with e_; subst e_; exact ge43_0.1 _ rfl) (Kd.M_row hz_)); have hm_ := Kd.R_mono hz_ hok43; clear HP43 hbk43; have n0_ := Aside0.mk (hp_); have n1_ := Aside0.mk ((by rw [hw]; exact below_set (HB.out) GB42.out : Below w.heap.size w w44)); have n2_ := Aside0.mk (hm_); have n3_ := Aside0.mk ((Kd.R_reads' hm_).2.1); clear HO_5; clear HB; clear HL228_0; clear HL230_0; clear HL232_0; clear HL242_0; have HO_5 := n0_; have HB := n1_; have HL259 := n2_; have HC244 := n3_; clear n0_ n1_ n2_ n3_; clear hg hw hp_ hz_ hm_ hok43))
             repeat (go_quiet (first | ((with_reducible refine gate_store (t := 3) (p := 90) rfl ?_); (try (rw [drewN_self wc]; generalize hq_ : World.drewN wc _ = wc; (try (replace hx228_0 := cell_at hq_ hx228_0)); (try (replace hx229_0 := cell_at hq_ hx229_0)); (try (replace hx230_0 := cell_at hq_ hx230_0)); (try (replace hx231_0 := cell_at hq_ hx231_0)); (try (replace hx232_0 := cell_at hq_ hx232_0)); (try (replace hx233_0 := cell_at hq_ hx233_0)); (try (replace hx234_0 := cell_at hq_ hx234_0)); (try (replace hx235_0 := cell_at hq_ hx235_0)); (try (replace hx242_0 := cell_at hq_ hx242_0)); (try (replace hx42_0 := cell_at hq_ hx42_0)); (try (replace hf42_0 := frozen_at hq_ hf42_0)); (try (replace HX228_0 := Aside0.mk (cell_at hq_ HX228_0.out))); (try (replace HX230_0 := Aside0.mk (cell_at hq_ HX230_0.out))); (try (replace HX232_0 := Aside0.mk (cell_at hq_ HX232_0.out))); (try (replace HX238_0 := Aside0.mk (cell_at hq_ HX238_0.out))); (try (replace HX242_0 := Aside0.mk (cell_at hq_ HX242_0.out))); have n0_ := Aside0.mk (Kd.S_at hq_ HO_5.out); (try have n1_ := Aside0.mk (Kd.R_at hq_ HL259.out)); have n2_ := Aside0.mk (below_at hq_ HB.out); (try clear HL259); clear hq_ HO_5 HB; have HO_5 := n0_; (try have HL259 := n1_); have HB := n2_; (try clear n1_); clear n0_ n2_; (try (have hq43 : (x6_1 : Int) < (x5_2.length : Int) := (by have h_ : (x6_1 : Int) < ((x5_2.length : Int) : Int) := of_decide_eq_true q0_; first | exact h_ | (have e_ := (Kd.S_reads' HO_5.out).1; omega) | simpa only [List.length_set, List.length_set] using h_))); (try (obtain ⟨oki43, ce43, hcl43, hM43, hcc43, hok43, hbk43⟩ := Kd.S_borrow HO_5.out [] (x6_1 : Int) (of_decide_eq_true q0_) hq43)); (try (obtain ⟨ve43_0, rfl, ge43_0⟩ := hM43)); (try (have hv43 := hcc43 0 _ rfl)); (try (rw [Nat.add_zero, show ((Kd.slice 3 (Kd.int .i64))).sz = 1 from rfl, Nat.mul_one] at hv43)); (try (replace hv43 := Option.some.inj (hv43.symm.trans HX242_0.out))); (try (subst hv43)); (try (clear hcc43 hcl43)); (try (replace ge43_0 := (show Kd.R (Kd.int .i64) 3 _ _ _ _ (rd_L3 x5_2 x6_1) from ge43_0))); (try (have HP43 := Kd.R_putg ge43_0 (x7_2 : Int) (rd (rd_L3 x5_2 x6_1) (ji29)))))); refine store_event (t := 3) (p := 90) (v := ?vo_w44) (w1 := (wc.setCell ⟨go42, (x7_2 : Int).toNat, none⟩ (.int .i64 (rd (rd_L3 x5_2 x6_1) (ji29))))) ?hg ?ho ?hn ?hr ?_; (case ho => rfl); (case hg => rfl); (case hn => rfl); (case hr => first | (go_simp; done) | (go_simp; rfl)); intro w44 hw; have hg : wc.grownBy w44 (some go42) := (by rw [hw]; exact HP43.2); have hz_ : Kd.R (Kd.int .i64) 3 w44 w.heap.size oki43 (.slice (some ⟨go42, 0, none⟩) (rd_L3 x5_2 x6_1).length c230_0) y243 := (by rw [hw, Ny243.out]; exact HP43.1); have hp_ : Kd.S (Kd.slice 3 (Kd.int .i64)) 50 w44 w.heap.size (fun _ => True) (.slice (some ⟨go14, 0, none⟩) x5_2.length co14) y245 := (by rw [Ny245.out]; exact hbk43 hg (fun k_ e_ => by injection e_ with e_; subst e_; exact ge43_0.1 _ rfl) (Kd.M_row hz_)); have hm_ := Kd.R_mono hz_ hok43; clear HP43 hbk43; have n0_ := Aside0.mk (hp_); have n1_ := Aside0.mk ((by rw [hw]; exact below_set (HB.out) GB42.out : Below w.heap.size w w44)); have n2_ := Aside0.mk (hm_); have n3_ := Aside0.mk ((Kd.R_reads' hm_).2.1); clear HO_5; clear HB; clear HL228_0; clear HL230_0; clear HL232_0; clear HL242_0; have HO_5 := n0_; have HB := n1_; have HL259 := n2_; have HC244 := n3_; clear n0_ n1_ n2_ n3_; clear hg hw hp_ hz_ hm_ hok43)); try go_wp2_with (first | ((with_reducible refine gate_store (t := 3) (p := 90) rfl ?_); (try (rw [drewN_self wc]; generalize hq_ : World.drewN wc _ = wc; (try (replace hx228_0 := cell_at hq_ hx228_0)); (try (replace hx229_0 := cell_at hq_ hx229_0)); (try (replace hx230_0 := cell_at hq_ hx230_0)); (try (replace hx231_0 := cell_at hq_ hx231_0)); (try (replace hx232_0 := cell_at hq_ hx232_0)); (try (replace hx233_0 := cell_at hq_ hx233_0)); (try (replace hx234_0 := cell_at hq_ hx234_0)); (try (replace hx235_0 := cell_at hq_ hx235_0)); (try (replace hx242_0 := cell_at hq_ hx242_0)); (try (replace hx42_0 := cell_at hq_ hx42_0)); (try (replace hf42_0 := frozen_at hq_ hf42_0)); (try (replace HX228_0 := Aside0.mk (cell_at hq_ HX228_0.out))); (try (replace HX230_0 := Aside0.mk (cell_at hq_ HX230_0.out))); (try (replace HX232_0 := Aside0.mk (cell_at hq_ HX232_0.out))); (try (replace HX238_0 := Aside0.mk (cell_at hq_ HX238_0.out))); (try (replace HX242_0 := Aside0.mk (cell_at hq_ HX242_0.out))); have n0_ := Aside0.mk (Kd.S_at hq_ HO_5.out); (try have n1_ := Aside0.mk (Kd.R_at hq_ HL259.out)); have n2_ := Aside0.mk (below_at hq_ HB.out); (try clear HL259); clear hq_ HO_5 HB; have HO_5 := n0_; (try have HL259 := n1_); have HB := n2_; (try clear n1_); clear n0_ n2_; (try (have hq43 : (x6_1 : Int) < (x5_2.length : Int) := (by have h_ : (x6_1 : Int) < ((x5_2.length : Int) : Int) := of_decide_eq_true q0_; first | exact h_ | (have e_ := (Kd.S_reads' HO_5.out).1; omega) | simpa only [List.length_set, List.length_set] using h_))); (try (obtain ⟨oki43, ce43, hcl43, hM43, hcc43, hok43, hbk43⟩ := Kd.S_borrow HO_5.out [] (x6_1 : Int) (of_decide_eq_true q0_) hq43)); (try (obtain ⟨ve43_0, rfl, ge43_0⟩ := hM43)); (try (have hv43 := hcc43 0 _ rfl)); (try (rw [Nat.add_zero, show ((Kd.slice 3 (Kd.int .i64))).sz = 1 from rfl, Nat.mul_one] at hv43)); (try (replace hv43 := Option.some.inj (hv43.symm.trans HX242_0.out))); (try (subst hv43)); (try (clear hcc43 hcl43)); (try (replace ge43_0 := (show Kd.R (Kd.int .i64) 3 _ _ _ _ (rd_L3 x5_2 x6_1) from ge43_0))); (try (have HP43 := Kd.R_putg ge43_0 (x7_2 : Int) (rd (rd_L3 x5_2 x6_1) (ji29)))))); refine store_event (t := 3) (p := 90) (v := ?vo_w44) (w1 := (wc.setCell ⟨go42, (x7_2 : Int).toNat, none⟩ (.int .i64 (rd (rd_L3 x5_2 x6_1) (ji29))))) ?hg ?ho ?hn ?hr ?_; (case ho => rfl); (case hg => rfl); (case hn => rfl); (case hr => first | (go_simp; done) | (go_simp; rfl)); intro w44 hw; have hg : wc.grownBy w44 (some go42) := (by rw [hw]; exact HP43.2); have hz_ : Kd.R (Kd.int .i64) 3 w44 w.heap.size oki43 (.slice (some ⟨go42, 0, none⟩) (rd_L3 x5_2 x6_1).length c230_0) y243 := (by rw [hw, Ny243.out]; exact HP43.1); have hp_ : Kd.S (Kd.slice 3 (Kd.int .i64)) 50 w44 w.heap.size (fun _ => True) (.slice (some ⟨go14, 0, none⟩) x5_2.length co14) y245 := (by rw [Ny245.out]; exact hbk43 hg (fun k_ e_ => by injection e_ with e_; subst e_; exact ge43_0.1 _ rfl) (Kd.M_row hz_)); have hm_ := Kd.R_mono hz_ hok43; clear HP43 hbk43; have n0_ := Aside0.mk (hp_); have n1_ := Aside0.mk ((by rw [hw]; exact below_set (HB.out) GB42.out : Below w.heap.size w w44)); have n2_ := Aside0.mk (hm_); have n3_ := Aside0.mk ((Kd.R_reads' hm_).2.1); clear HO_5; clear HB; clear HL228_0; clear HL230_0; clear HL232_0; clear HL242_0; have HO_5 := n0_; have HB := n1_; have HL259 := n2_; have HC244 := n3_; clear n0_ n1_ n2_ n3_; clear hg hw hp_ hz_ hm_ hok43)))
             (try simp only [← hl5_2])
             go_roundg kj18
             case measure => have := HK1.out; have := HK2.out; have := HJ18.out; omega
             case rel => exact ⟨(y245), (wrap64 (x7_2 - 1)), q7_, H', ⟨by have := HK1.out; have := HK2.out; have := HJ18.out; omega⟩, ⟨by (try simp only [hl5_2]); (with_reducible repeat (first | apply Kd.S_alloc | apply Kd.S_drewN | apply Kd.S_drew)); exact HO_5.out⟩, ⟨by repeat (first | (with_reducible first | exact HB.out | apply below_alloc | apply pw_below_drewN | apply below_drew1) | exact HB.out)⟩⟩
           ·rw [if_neg c32] at H
            have c32b0 : decide ((rd (rd_L3 x5_2 (ji22)) x7_2) < (rd (rd_L3 x5_2 x6_1) (ji29))) = false := decide_eq_false c32
            clear c32
            by_cases c45 : x6_1 < (l0.length : Int)
            case neg =>
             rw [if_neg c45] at H
             exact absurd H (by simp)
            rw [if_pos c45] at H
            have c45b0 : decide (x6_1 < (l0.length : Int)) = true := decide_eq_true c45
            clear c45
            by_cases c46 : x7_2 < (l1.length : Int)
            case neg =>
             rw [if_neg c46] at H
             exact absurd H (by simp)
            rw [if_pos c46] at H
            have c46b0 : decide (x7_2 < (l1.length : Int)) = true := decide_eq_true c46
            clear c46
            by_cases c47 : (rdOf ByteArray.empty l0 x6_1).toList = (rdOf ByteArray.empty l1 x7_2).toList
            ·rw [if_pos c47] at H
             have c47b0 : ((rdOf ByteArray.empty l0 x6_1).toList == (rdOf ByteArray.empty l1 x7_2).toList) = true := beq_iff_eq.mpr c47
             have c47b1 : ((rdOf ByteArray.empty l0 x6_1).toList != (rdOf ByteArray.empty l1 x7_2).toList) = false := bne_eq_false_iff_eq.mpr c47
             clear c47
             by_cases c48 : (ji29) < ((rd_L3 x5_2 (ji22)).length : Int)
             case neg =>
              rw [if_neg c48] at H
              exact absurd H (by simp)
             rw [if_pos c48] at H
             have c48b0 : decide ((ji29) < ((rd_L3 x5_2 (ji22)).length : Int)) = true := decide_eq_true c48
             clear c48
             by_cases c49 : x7_2 < ((rd_L3 x5_2 x6_1).length : Int)
             case neg =>
              rw [if_neg c49] at H
              exact absurd H (by simp)
             rw [if_pos c49] at H
             have c49b0 : decide (x7_2 < ((rd_L3 x5_2 x6_1).length : Int)) = true := decide_eq_true c49
             clear c49
             obtain ⟨y251, hy251⟩ : ∃ y_ : List Int, y_ = ((rd_L3 x5_2 x6_1).set (x7_2 : Int).toNat (wrap64 ((rd (rd_L3 x5_2 (ji22)) (ji29)) + 1))) := ⟨_, rfl⟩
             replace H : (spec_l04Table.l1 kj18 l0 l1 (x5_2.set (x6_1 : Int).toNat y251) x6_1 (wrap64 (x7_2 - 1))) = some r := by first | (rw [hy251]; with_reducible exact H) | (have H2_ := (Option.bind_some _ _).symm.trans H; rw [hy251]; with_reducible exact H2_) | (have H2_ := (Option.bind_some _ _).symm.trans H; with_reducible exact H2_) | with_reducible exact H | (rw [hy251]; exact H) | exact H
             have Ny251 := Aside0.mk hy251
             clear hy251
             obtain ⟨y253, hy253⟩ : ∃ y_ : List (List Int), y_ = (x5_2.set (x6_1 : Int).toNat y251) := ⟨_, rfl⟩
             replace H : (spec_l04Table.l1 kj18 l0 l1 y253 x6_1 (wrap64 (x7_2 - 1))) = some r := by first | (rw [hy253]; with_reducible exact H) | (have H2_ := (Option.bind_some _ _).symm.trans H; rw [hy253]; with_reducible exact H2_) | (have H2_ := (Option.bind_some _ _).symm.trans H; with_reducible exact H2_) | with_reducible exact H | (rw [hy253]; exact H) | exact H
             have Ny253 := Aside0.mk hy253
             clear hy253
             have H' := Aside0.mk H
             clear H
             have p228 : 0 ≤ ((ji22) : Int) := of_decide_eq_true q0_
             have q228 : (ji22) < (x5_2.length : Int) := of_decide_eq_true q0_
             obtain ⟨ad228, A228_0, c228_0, e228, hx228_0, hl228_0, hi228_0⟩ := at_L3 (Kd.S_reads' HO_5.out).2.2 (ji22) p228 q228
             obtain rfl : (⟨go14, 0, none⟩ : Addr) = ad228 := (by injection e228)
             obtain ⟨ce228, hce228, hMe228, hcc228⟩ := Kd.S_get HO_5.out [] (ji22) p228 (by first | exact q228 | exact of_decide_eq_true q0_ | (have e_ := (Kd.S_reads' HO_5.out).1; omega))
             obtain ⟨ve228_0, rfl, ge228_0⟩ := hMe228
             have hv228_0 := hcc228 0 _ rfl
             rw [Nat.add_zero, show ((Kd.slice 3 (Kd.int .i64))).sz = 1 from rfl, Nat.mul_one] at hv228_0
             replace hv228_0 := Option.some.inj (hv228_0.symm.trans hx228_0)
             rw [hv228_0] at ge228_0
             have HL228_0 := Aside0.mk (show Kd.R (Kd.int .i64) 3 _ _ _ _ (rd_L3 x5_2 (ji22)) from ge228_0)
             clear hv228_0 ge228_0
             have HX228_0 := Aside0.mk hx228_0
             clear hcc228 hce228
             (first | simp only [add_plain] at hx228_0 | simp only [add_at] at hx228_0 | simp only [Addr.add, Nat.zero_add] at hx228_0 | skip)
             have HR228_0 := Aside0.mk hi228_0
             have HC228_0 := Aside0.mk hl228_0
             clear hi228_0 hl228_0
             replace p228 := eq_true p228
             replace q228 := eq_true q228
             have p229 : 0 ≤ (x7_2 : Int) := of_decide_eq_true q0_
             have q229 : x7_2 < ((rd_L3 x5_2 (ji22)).length : Int) := of_decide_eq_true q0_
             obtain ⟨ad229, e229, hx229_0⟩ := Kd.at_int q30_ x7_2 p229 q229
             cases e229
             replace p229 := eq_true p229
             replace q229 := eq_true q229
             have p230 : 0 ≤ (x6_1 : Int) := of_decide_eq_true q0_
             have q230 : x6_1 < (x5_2.length : Int) := of_decide_eq_true q0_
             obtain ⟨ad230, A230_0, c230_0, e230, hx230_0, hl230_0, hi230_0⟩ := at_L3 (Kd.S_reads' HO_5.out).2.2 x6_1 p230 q230
             obtain rfl : (⟨go14, 0, none⟩ : Addr) = ad230 := (by injection e230)
             obtain ⟨ce230, hce230, hMe230, hcc230⟩ := Kd.S_get HO_5.out [] x6_1 p230 (by first | exact q230 | exact of_decide_eq_true q0_ | (have e_ := (Kd.S_reads' HO_5.out).1; omega))
             obtain ⟨ve230_0, rfl, ge230_0⟩ := hMe230
             have hv230_0 := hcc230 0 _ rfl
             rw [Nat.add_zero, show ((Kd.slice 3 (Kd.int .i64))).sz = 1 from rfl, Nat.mul_one] at hv230_0
             replace hv230_0 := Option.some.inj (hv230_0.symm.trans hx230_0)
             rw [hv230_0] at ge230_0
             have HL230_0 := Aside0.mk (show Kd.R (Kd.int .i64) 3 _ _ _ _ (rd_L3 x5_2 x6_1) from ge230_0)
             clear hv230_0 ge230_0
             have HX230_0 := Aside0.mk hx230_0
             clear hcc230 hce230
             (first | simp only [add_plain] at hx230_0 | simp only [add_at] at hx230_0 | simp only [Addr.add, Nat.zero_add] at hx230_0 | skip)
             have HR230_0 := Aside0.mk hi230_0
             have HC230_0 := Aside0.mk hl230_0
             clear hi230_0 hl230_0
             replace p230 := eq_true p230
             replace q230 := eq_true q230
             have p231 : 0 ≤ ((ji29) : Int) := of_decide_eq_true q0_
             have q231 : (ji29) < ((rd_L3 x5_2 x6_1).length : Int) := of_decide_eq_true q0_
             obtain ⟨ad231, e231, hx231_0⟩ := Kd.at_int q31_ (ji29) p231 q231
             cases e231
             replace p231 := eq_true p231
             replace q231 := eq_true q231
             have p246 : 0 ≤ (x6_1 : Int) := of_decide_eq_true q0_
             have q246 : x6_1 < (l0.length : Int) := of_decide_eq_true q0_
             obtain ⟨ad246, e246, hx246_0⟩ := Kd.at_string HR0.out x6_1 p246 q246
             cases e246
             replace hx246_0 := (HB.out.cell (World.block_lt_of_cell? w _ hx246_0)).trans hx246_0
             replace p246 := eq_true p246
             replace q246 := eq_true q246
             have p247 : 0 ≤ (x7_2 : Int) := of_decide_eq_true q0_
             have q247 : x7_2 < (l1.length : Int) := of_decide_eq_true q0_
             obtain ⟨ad247, e247, hx247_0⟩ := Kd.at_string HR1.out x7_2 p247 q247
             cases e247
             replace hx247_0 := (HB.out.cell (World.block_lt_of_cell? w _ hx247_0)).trans hx247_0
             replace p247 := eq_true p247
             replace q247 := eq_true q247
             have p248 : 0 ≤ ((ji22) : Int) := of_decide_eq_true q0_
             have q248 : (ji22) < (x5_2.length : Int) := of_decide_eq_true q0_
             obtain ⟨ad248, A248_0, c248_0, e248, hx248_0, hl248_0, hi248_0⟩ := at_L3 (Kd.S_reads' HO_5.out).2.2 (ji22) p248 q248
             obtain rfl : (⟨go14, 0, none⟩ : Addr) = ad248 := (by injection e248)
             obtain ⟨ce248, hce248, hMe248, hcc248⟩ := Kd.S_get HO_5.out [] (ji22) p248 (by first | exact q248 | exact of_decide_eq_true q0_ | (have e_ := (Kd.S_reads' HO_5.out).1; omega))
             obtain ⟨ve248_0, rfl, ge248_0⟩ := hMe248
             have hv248_0 := hcc248 0 _ rfl
             rw [Nat.add_zero, show ((Kd.slice 3 (Kd.int .i64))).sz = 1 from rfl, Nat.mul_one] at hv248_0
             replace hv248_0 := Option.some.inj (hv248_0.symm.trans hx248_0)
             rw [hv248_0] at ge248_0
             have HL248_0 := Aside0.mk (show Kd.R (Kd.int .i64) 3 _ _ _ _ (rd_L3 x5_2 (ji22)) from ge248_0)
             clear hv248_0 ge248_0
             have HX248_0 := Aside0.mk hx248_0
             clear hcc248 hce248
             (first | simp only [add_plain] at hx248_0 | simp only [add_at] at hx248_0 | simp only [Addr.add, Nat.zero_add] at hx248_0 | skip)
             have HR248_0 := Aside0.mk hi248_0
             have HC248_0 := Aside0.mk hl248_0
             clear hi248_0 hl248_0
             replace p248 := eq_true p248
             replace q248 := eq_true q248
             have ea_ := Option.some.inj (hx228_0.symm.trans hx248_0)
             injection ea_ with ea_ en_ ec_
             subst ea_
             subst ec_
             clear en_
             have p249 : 0 ≤ ((ji29) : Int) := of_decide_eq_true q0_
             have q249 : (ji29) < ((rd_L3 x5_2 (ji22)).length : Int) := of_decide_eq_true q0_
             obtain ⟨ad249, e249, hx249_0⟩ := Kd.at_int (by repeat (first | (with_reducible exact HR248_0.out) | (with_reducible refine Kd.C_alloc ?_ _) | (with_reducible refine Kd.C_drewN ?_ _) | (with_reducible refine Kd.C_drew ?_) | exact HR248_0.out)) (ji29) p249 q249
             cases e249
             replace p249 := eq_true p249
             replace q249 := eq_true q249
             have p250 : 0 ≤ (x6_1 : Int) := of_decide_eq_true q0_
             have q250 : x6_1 < (x5_2.length : Int) := of_decide_eq_true q0_
             obtain ⟨ad250, A250_0, c250_0, e250, hx250_0, hl250_0, hi250_0⟩ := at_L3 (Kd.S_reads' HO_5.out).2.2 x6_1 p250 q250
             obtain rfl : (⟨go14, 0, none⟩ : Addr) = ad250 := (by injection e250)
             obtain ⟨ce250, hce250, hMe250, hcc250⟩ := Kd.S_get HO_5.out [] x6_1 p250 (by first | exact q250 | exact of_decide_eq_true q0_ | (have e_ := (Kd.S_reads' HO_5.out).1; omega))
             obtain ⟨ve250_0, rfl, ge250_0⟩ := hMe250
             have hv250_0 := hcc250 0 _ rfl
             rw [Nat.add_zero, show ((Kd.slice 3 (Kd.int .i64))).sz = 1 from rfl, Nat.mul_one] at hv250_0
             replace hv250_0 := Option.some.inj (hv250_0.symm.trans hx250_0)
             rw [hv250_0] at ge250_0
             have HL250_0 := Aside0.mk (show Kd.R (Kd.int .i64) 3 _ _ _ _ (rd_L3 x5_2 x6_1) from ge250_0)
             clear hv250_0 ge250_0
             have HX250_0 := Aside0.mk hx250_0
             clear hcc250 hce250
             (first | simp only [add_plain] at hx250_0 | simp only [add_at] at hx250_0 | simp only [Addr.add, Nat.zero_add] at hx250_0 | skip)
             have HR250_0 := Aside0.mk hi250_0
             have HC250_0 := Aside0.mk hl250_0
             clear hi250_0 hl250_0
             replace p250 := eq_true p250
             replace q250 := eq_true q250
             have ea_ := Option.some.inj (hx230_0.symm.trans hx250_0)
             injection ea_ with ea_ en_ ec_
             subst ea_
             subst ec_
             clear en_
             have p50 : 0 ≤ (x7_2 : Int) := of_decide_eq_true q0_
             have q50 : (x7_2 : Int) < (((rd_L3 x5_2 x6_1).length : Int) : Int) := of_decide_eq_true q0_
             obtain ⟨go50, co50, eo50, gb50, gl50, cl50, HG50⟩ := Kd.R_form HL250_0.out (by omega)
             (first | cases eo50 | (injection eo50 with ea_ en_ ec_; (first | subst ea_ | (injection ea_ with ea_; subst ea_)); subst ec_; clear en_))
             have GB50 := Aside0.mk gb50
             have GG50 := Aside0.mk HG50
             clear gb50 gl50 HG50
             (first | simp only [add_plain] at hx231_0 | skip)
             obtain ⟨hx50_0, hf50_0⟩ := Kd.R_celln 0 HL250_0.out (x7_2 : Int) p50 q50
             replace p50 := eq_true p50
             replace q50 := eq_true q50
             have hq51 : (x6_1 : Int) < (x5_2.length : Int) := (by have h_ : (x6_1 : Int) < ((x5_2.length : Int) : Int) := of_decide_eq_true q0_; first | exact h_ | (have e_ := (Kd.S_reads' HO_5.out).1; omega) | simpa only [List.length_set, List.length_set] using h_)
             obtain ⟨oki51, ce51, hcl51, hM51, hcc51, hok51, hbk51⟩ := Kd.S_borrow HO_5.out [] (x6_1 : Int) (of_decide_eq_true q0_) hq51
             obtain ⟨ve51_0, rfl, ge51_0⟩ := hM51
             have hv51 := hcc51 0 _ rfl
             rw [Nat.add_zero, show ((Kd.slice 3 (Kd.int .i64))).sz = 1 from rfl, Nat.mul_one] at hv51
             replace hv51 := Option.some.inj (hv51.symm.trans HX250_0.out)
             subst hv51
             clear hcc51 hcl51
             replace ge51_0 := (show Kd.R (Kd.int .i64) 3 _ _ _ _ (rd_L3 x5_2 x6_1) from ge51_0)
             have HP51 := Kd.R_putg ge51_0 (x7_2 : Int) (wrap64 ((rd (rd_L3 x5_2 (ji22)) (ji29)) + 1))
             go_wp2_with (first | ((with_reducible refine gate_store (t := 3) (p := 90) rfl ?_); (try (rw [drewN_self wc]; generalize hq_ : World.drewN wc _ = wc; (try (replace hx228_0 := cell_at hq_ hx228_0)); (try (replace hx229_0 := cell_at hq_ hx229_0)); (try (replace hx230_0 := cell_at hq_ hx230_0)); (try (replace hx231_0 := cell_at hq_ hx231_0)); (try (replace hx246_0 := cell_at hq_ hx246_0)); (try (replace hx247_0 := cell_at hq_ hx247_0)); (try (replace hx248_0 := cell_at hq_ hx248_0)); (try (replace hx249_0 := cell_at hq_ hx249_0)); (try (replace hx250_0 := cell_at hq_ hx250_0)); (try (replace hx50_0 := cell_at hq_ hx50_0)); (try (replace hf50_0 := frozen_at hq_ hf50_0)); (try (replace HX228_0 := Aside0.mk (cell_at hq_ HX228_0.out))); (try (replace HX230_0 := Aside0.mk (cell_at hq_ HX230_0.out))); (try (replace HX242_0 := Aside0.mk (cell_at hq_ HX242_0.out))); (try (replace HX248_0 := Aside0.mk (cell_at hq_ HX248_0.out))); (try (replace HX250_0 := Aside0.mk (cell_at hq_ HX250_0.out))); have n0_ := Aside0.mk (Kd.S_at hq_ HO_5.out); (try have n1_ := Aside0.mk (Kd.R_at hq_ HL260.out)); have n2_ := Aside0.mk (below_at hq_ HB.out); (try clear HL260); clear hq_ HO_5 HB; have HO_5 := n0_; (try have HL260 := n1_); have HB := n2_; (try clear n1_); clear n0_ n2_; (try (have hq51 : (x6_1 : Int) < (x5_2.length : Int) := (by have h_ : (x6_1 : Int) < ((x5_2.length : Int) : Int) := of_decide_eq_true q0_; first | exact h_ | (have e_ := (Kd.S_reads' HO_5.out).1; omega) | simpa only [List.length_set, List.length_set] using h_))); (try (obtain ⟨oki51, ce51, hcl51, hM51, hcc51, hok51, hbk51⟩ := Kd.S_borrow HO_5.out [] (x6_1 : Int) (of_decide_eq_true q0_) hq51)); (try (obtain ⟨ve51_0, rfl, ge51_0⟩ := hM51)); (try (have hv51 := hcc51 0 _ rfl)); (try (rw [Nat.add_zero, show ((Kd.slice 3 (Kd.int .i64))).sz = 1 from rfl, Nat.mul_one] at hv51)); (try (replace hv51 := Option.some.inj (hv51.symm.trans HX250_0.out))); (try (subst hv51)); (try (clear hcc51 hcl51)); (try (replace ge51_0 := (show Kd.R (Kd.int .i64) 3 _ _ _ _ (rd_L3 x5_2 x6_1) from ge51_0))); (try (have HP51 := Kd.R_putg ge51_0 (x7_2 : Int) (wrap64 ((rd (rd_L3 x5_2 (ji22)) (ji29)) + 1)))))); refine store_event (t := 3) (p := 90) (v := ?vo_w52) (w1 := (wc.setCell ⟨go50, (x7_2 : Int).toNat, none⟩ (.int .i64 (wrap64 ((rd (rd_L3 x5_2 (ji22)) (ji29)) + 1))))) ?hg ?ho ?hn ?hr ?_; (case ho => rfl); (case hg => rfl); (case hn => rfl); (case hr => first | (go_simp; done) | (go_simp; rfl)); intro w52 hw; have hg : wc.grownBy w52 (some go50) := (by rw [hw]; exact HP51.2); have hz_ : Kd.R (Kd.int .i64) 3 w52 w.heap.size oki51 (.slice (some ⟨go50, 0, none⟩) (rd_L3 x5_2 x6_1).length c230_0) y251 := (by rw [hw, Ny251.out]; exact HP51.1); have hp_ : Kd.S (Kd.slice 3 (Kd.int .i64)) 50 w52 w.heap.size (fun _ => True) (.slice (some ⟨go14, 0, none⟩) x5_2.length co14) y253 := (by rw [Ny253.out]; exact hbk51 hg (fun k_ e_ => by injection e_ with e_; subst e_; exact ge51_0.1 _ rfl) (Kd.M_row hz_)); have hm_ := Kd.R_mono hz_ hok51; clear HP51 hbk51; have n0_ := Aside0.mk (hp_); have n1_ := Aside0.mk ((by rw [hw]; exact below_set (HB.out) GB50.out : Below w.heap.size w w52)); have n2_ := Aside0.mk (hm_); have n3_ := Aside0.mk ((Kd.R_reads' hm_).2.1); clear HO_5; clear HB; clear HL228_0; clear HL230_0; clear HL248_0; clear HL250_0; have HO_5 := n0_; have HB := n1_; have HL260 := n2_; have HC252 := n3_; clear n0_ n1_ n2_ n3_; clear hg hw hp_ hz_ hm_ hok51))
             repeat (go_quiet (first | ((with_reducible refine gate_store (t := 3) (p := 90) rfl ?_); (try (rw [drewN_self wc]; generalize hq_ : World.drewN wc _ = wc; (try (replace hx228_0 := cell_at hq_ hx228_0)); (try (replace hx229_0 := cell_at hq_ hx229_0)); (try (replace hx230_0 := cell_at hq_ hx230_0)); (try (replace hx231_0 := cell_at hq_ hx231_0)); (try (replace hx246_0 := cell_at hq_ hx246_0)); (try (replace hx247_0 := cell_at hq_ hx247_0)); (try (replace hx248_0 := cell_at hq_ hx248_0)); (try (replace hx249_0 := cell_at hq_ hx249_0)); (try (replace hx250_0 := cell_at hq_ hx250_0)); (try (replace hx50_0 := cell_at hq_ hx50_0)); (try (replace hf50_0 := frozen_at hq_ hf50_0)); (try (replace HX228_0 := Aside0.mk (cell_at hq_ HX228_0.out))); (try (replace HX230_0 := Aside0.mk (cell_at hq_ HX230_0.out))); (try (replace HX242_0 := Aside0.mk (cell_at hq_ HX242_0.out))); (try (replace HX248_0 := Aside0.mk (cell_at hq_ HX248_0.out))); (try (replace HX250_0 := Aside0.mk (cell_at hq_ HX250_0.out))); have n0_ := Aside0.mk (Kd.S_at hq_ HO_5.out); (try have n1_ := Aside0.mk (Kd.R_at hq_ HL260.out)); have n2_ := Aside0.mk (below_at hq_ HB.out); (try clear HL260); clear hq_ HO_5 HB; have HO_5 := n0_; (try have HL260 := n1_); have HB := n2_; (try clear n1_); clear n0_ n2_; (try (have hq51 : (x6_1 : Int) < (x5_2.length : Int) := (by have h_ : (x6_1 : Int) < ((x5_2.length : Int) : Int) := of_decide_eq_true q0_; first | exact h_ | (have e_ := (Kd.S_reads' HO_5.out).1; omega) | simpa only [List.length_set, List.length_set] using h_))); (try (obtain ⟨oki51, ce51, hcl51, hM51, hcc51, hok51, hbk51⟩ := Kd.S_borrow HO_5.out [] (x6_1 : Int) (of_decide_eq_true q0_) hq51)); (try (obtain ⟨ve51_0, rfl, ge51_0⟩ := hM51)); (try (have hv51 := hcc51 0 _ rfl)); (try (rw [Nat.add_zero, show ((Kd.slice 3 (Kd.int .i64))).sz = 1 from rfl, Nat.mul_one] at hv51)); (try (replace hv51 := Option.some.inj (hv51.symm.trans HX250_0.out))); (try (subst hv51)); (try (clear hcc51 hcl51)); (try (replace ge51_0 := (show Kd.R (Kd.int .i64) 3 _ _ _ _ (rd_L3 x5_2 x6_1) from ge51_0))); (try (have HP51 := Kd.R_putg ge51_0 (x7_2 : Int) (wrap64 ((rd (rd_L3 x5_2 (ji22)) (ji29)) + 1)))))); refine store_event (t := 3) (p := 90) (v := ?vo_w52) (w1 := (wc.setCell ⟨go50, (x7_2 : Int).toNat, none⟩ (.int .i64 (wrap64 ((rd (rd_L3 x5_2 (ji22)) (ji29)) + 1))))) ?hg ?ho ?hn ?hr ?_; (case ho => rfl); (case hg => rfl); (case hn => rfl); (case hr => first | (go_simp; done) | (go_simp; rfl)); intro w52 hw; have hg : wc.grownBy w52 (some go50) := (by rw [hw]; exact HP51.2); have hz_ : Kd.R (Kd.int .i64) 3 w52 w.heap.size oki51 (.slice (some ⟨go50, 0, none⟩) (rd_L3 x5_2 x6_1).length c230_0) y251 := (by rw [hw, Ny251.out]; exact HP51.1); have hp_ : Kd.S (Kd.slice 3 (Kd.int .i64)) 50 w52 w.heap.size (fun _ => True) (.slice (some ⟨go14, 0, none⟩) x5_2.length co14) y253 := (by rw [Ny253.out]; exact hbk51 hg (fun k_ e_ => by injection e_ with e_; subst e_; exact ge51_0.1 _ rfl) (Kd.M_row hz_)); have hm_ := Kd.R_mono hz_ hok51; clear HP51 hbk51; have n0_ := Aside0.mk (hp_); have n1_ := Aside0.mk ((by rw [hw]; exact below_set (HB.out) GB50.out : Below w.heap.size w w52)); have n2_ := Aside0.mk (hm_); have n3_ := Aside0.mk ((Kd.R_reads' hm_).2.1); clear HO_5; clear HB; clear HL228_0; clear HL230_0; clear HL248_0; clear HL250_0; have HO_5 := n0_; have HB := n1_; have HL260 := n2_; have HC252 := n3_; clear n0_ n1_ n2_ n3_; clear hg hw hp_ hz_ hm_ hok51)); try go_wp2_with (first | ((with_reducible refine gate_store (t := 3) (p := 90) rfl ?_); (try (rw [drewN_self wc]; generalize hq_ : World.drewN wc _ = wc; (try (replace hx228_0 := cell_at hq_ hx228_0)); (try (replace hx229_0 := cell_at hq_ hx229_0)); (try (replace hx230_0 := cell_at hq_ hx230_0)); (try (replace hx231_0 := cell_at hq_ hx231_0)); (try (replace hx246_0 := cell_at hq_ hx246_0)); (try (replace hx247_0 := cell_at hq_ hx247_0)); (try (replace hx248_0 := cell_at hq_ hx248_0)); (try (replace hx249_0 := cell_at hq_ hx249_0)); (try (replace hx250_0 := cell_at hq_ hx250_0)); (try (replace hx50_0 := cell_at hq_ hx50_0)); (try (replace hf50_0 := frozen_at hq_ hf50_0)); (try (replace HX228_0 := Aside0.mk (cell_at hq_ HX228_0.out))); (try (replace HX230_0 := Aside0.mk (cell_at hq_ HX230_0.out))); (try (replace HX248_0 := Aside0.mk (cell_at hq_ HX248_0.out))); (try (replace HX250_0 := Aside0.mk (cell_at hq_ HX250_0.out))); have n0_ := Aside0.mk (Kd.S_at hq_ HO_5.out); (try have n1_ := Aside0.mk (Kd.R_at hq_ HL260.out)); have n2_ := Aside0.mk (below_at hq_ HB.out); (try clear HL260); clear hq_ HO_5 HB; have HO_5 := n0_; (try have HL260 := n1_); have HB := n2_; (try clear n1_); clear n0_ n2_; (try (have hq51 : (x6_1 : Int) < (x5_2.length : Int) := (by have h_ : (x6_1 : Int) < ((x5_2.length : Int) : Int) := of_decide_eq_true q0_; first | exact h_ | (have e_ := (Kd.S_reads' HO_5.out).1; omega) | simpa only [List.length_set, List.length_set] using h_))); (try (obtain ⟨oki51, ce51, hcl51, hM51, hcc51, hok51, hbk51⟩ := Kd.S_borrow HO_5.out [] (x6_1 : Int) (of_decide_eq_true q0_) hq51)); (try (obtain ⟨ve51_0, rfl, ge51_0⟩ := hM51)); (try (have hv51 := hcc51 0 _ rfl)); (try (rw [Nat.add_zero, show ((Kd.slice 3 (Kd.int .i64))).sz = 1 from rfl, Nat.mul_one] at hv51)); (try (replace hv51 := Option.some.inj (hv51.symm.trans HX250_0.out))); (try (subst hv51)); (try (clear hcc51 hcl51)); (try (replace ge51_0 := (show Kd.R (Kd.int .i64) 3 _ _ _ _ (rd_L3 x5_2 x6_1) from ge51_0))); (try (have HP51 := Kd.R_putg ge51_0 (x7_2 : Int) (wrap64 ((rd (rd_L3 x5_2 (ji22)) (ji29)) + 1)))))); refine store_event (t := 3) (p := 90) (v := ?vo_w52) (w1 := (wc.setCell ⟨go50, (x7_2 : Int).toNat, none⟩ (.int .i64 (wrap64 ((rd (rd_L3 x5_2 (ji22)) (ji29)) + 1))))) ?hg ?ho ?hn ?hr ?_; (case ho => rfl); (case hg => rfl); (case hn => rfl); (case hr => first | (go_simp; done) | (go_simp; rfl)); intro w52 hw; have hg : wc.grownBy w52 (some go50) := (by rw [hw]; exact HP51.2); have hz_ : Kd.R (Kd.int .i64) 3 w52 w.heap.size oki51 (.slice (some ⟨go50, 0, none⟩) (rd_L3 x5_2 x6_1).length c230_0) y251 := (by rw [hw, Ny251.out]; exact HP51.1); have hp_ : Kd.S (Kd.slice 3 (Kd.int .i64)) 50 w52 w.heap.size (fun _ => True) (.slice (some ⟨go14, 0, none⟩) x5_2.length co14) y253 := (by rw [Ny253.out]; exact hbk51 hg (fun k_ e_ => by injection e_ with e_; subst e_; exact ge51_0.1 _ rfl) (Kd.M_row hz_)); have hm_ := Kd.R_mono hz_ hok51; clear HP51 hbk51; have n0_ := Aside0.mk (hp_); have n1_ := Aside0.mk ((by rw [hw]; exact below_set (HB.out) GB50.out : Below w.heap.size w w52)); have n2_ := Aside0.mk (hm_); have n3_ := Aside0.mk ((Kd.R_reads' hm_).2.1); clear HO_5; clear HB; clear HL228_0; clear HL230_0; clear HL248_0; clear HL250_0; have HO_5 := n0_; have HB := n1_; have HL260 := n2_; have HC252 := n3_; clear n0_ n1_ n2_ n3_; clear hg hw hp_ hz_ hm_ hok51)))
             (try simp only [← hl5_2])
             go_roundg kj18
             case measure => have := HK1.out; have := HK2.out; have := HJ18.out; omega
             case rel => exact ⟨(y253), (wrap64 (x7_2 - 1)), q7_, H', ⟨by have := HK1.out; have := HK2.out; have := HJ18.out; omega⟩, ⟨by (try simp only [hl5_2]); (with_reducible repeat (first | apply Kd.S_alloc | apply Kd.S_drewN | apply Kd.S_drew)); exact HO_5.out⟩, ⟨by repeat (first | (with_reducible first | exact HB.out | apply below_alloc | apply pw_below_drewN | apply below_drew1) | exact HB.out)⟩⟩
            ·rw [if_neg c47] at H
             have c47b0 : ((rdOf ByteArray.empty l0 x6_1).toList == (rdOf ByteArray.empty l1 x7_2).toList) = false := beq_eq_false_iff_ne.mpr c47
             have c47b1 : ((rdOf ByteArray.empty l0 x6_1).toList != (rdOf ByteArray.empty l1 x7_2).toList) = true := bne_iff_ne.mpr c47
             by_cases c53 : x7_2 < ((rd_L3 x5_2 x6_1).length : Int)
             case neg =>
              rw [if_neg c53] at H
              exact absurd H (by simp)
             rw [if_pos c53] at H
             have c53b0 : decide (x7_2 < ((rd_L3 x5_2 x6_1).length : Int)) = true := decide_eq_true c53
             clear c53
             obtain ⟨y255, hy255⟩ : ∃ y_ : List Int, y_ = ((rd_L3 x5_2 x6_1).set (x7_2 : Int).toNat (rd (rd_L3 x5_2 (ji22)) x7_2)) := ⟨_, rfl⟩
             replace H : (spec_l04Table.l1 kj18 l0 l1 (x5_2.set (x6_1 : Int).toNat y255) x6_1 (wrap64 (x7_2 - 1))) = some r := by first | (rw [hy255]; with_reducible exact H) | (have H2_ := (Option.bind_some _ _).symm.trans H; rw [hy255]; with_reducible exact H2_) | (have H2_ := (Option.bind_some _ _).symm.trans H; with_reducible exact H2_) | with_reducible exact H | (rw [hy255]; exact H) | exact H
             have Ny255 := Aside0.mk hy255
             clear hy255
             obtain ⟨y257, hy257⟩ : ∃ y_ : List (List Int), y_ = (x5_2.set (x6_1 : Int).toNat y255) := ⟨_, rfl⟩
             replace H : (spec_l04Table.l1 kj18 l0 l1 y257 x6_1 (wrap64 (x7_2 - 1))) = some r := by first | (rw [hy257]; with_reducible exact H) | (have H2_ := (Option.bind_some _ _).symm.trans H; rw [hy257]; with_reducible exact H2_) | (have H2_ := (Option.bind_some _ _).symm.trans H; with_reducible exact H2_) | with_reducible exact H | (rw [hy257]; exact H) | exact H
             have Ny257 := Aside0.mk hy257
             clear hy257
             have H' := Aside0.mk H
             clear H
             have p228 : 0 ≤ ((ji22) : Int) := of_decide_eq_true q0_
             have q228 : (ji22) < (x5_2.length : Int) := of_decide_eq_true q0_
             obtain ⟨ad228, A228_0, c228_0, e228, hx228_0, hl228_0, hi228_0⟩ := at_L3 (Kd.S_reads' HO_5.out).2.2 (ji22) p228 q228
             obtain rfl : (⟨go14, 0, none⟩ : Addr) = ad228 := (by injection e228)
             obtain ⟨ce228, hce228, hMe228, hcc228⟩ := Kd.S_get HO_5.out [] (ji22) p228 (by first | exact q228 | exact of_decide_eq_true q0_ | (have e_ := (Kd.S_reads' HO_5.out).1; omega))
             obtain ⟨ve228_0, rfl, ge228_0⟩ := hMe228
             have hv228_0 := hcc228 0 _ rfl
             rw [Nat.add_zero, show ((Kd.slice 3 (Kd.int .i64))).sz = 1 from rfl, Nat.mul_one] at hv228_0
             replace hv228_0 := Option.some.inj (hv228_0.symm.trans hx228_0)
             rw [hv228_0] at ge228_0
             have HL228_0 := Aside0.mk (show Kd.R (Kd.int .i64) 3 _ _ _ _ (rd_L3 x5_2 (ji22)) from ge228_0)
             clear hv228_0 ge228_0
             have HX228_0 := Aside0.mk hx228_0
             clear hcc228 hce228
             (first | simp only [add_plain] at hx228_0 | simp only [add_at] at hx228_0 | simp only [Addr.add, Nat.zero_add] at hx228_0 | skip)
             have HR228_0 := Aside0.mk hi228_0
             have HC228_0 := Aside0.mk hl228_0
             clear hi228_0 hl228_0
             replace p228 := eq_true p228
             replace q228 := eq_true q228
             have p229 : 0 ≤ (x7_2 : Int) := of_decide_eq_true q0_
             have q229 : x7_2 < ((rd_L3 x5_2 (ji22)).length : Int) := of_decide_eq_true q0_
             obtain ⟨ad229, e229, hx229_0⟩ := Kd.at_int q30_ x7_2 p229 q229
             cases e229
             replace p229 := eq_true p229
             replace q229 := eq_true q229
             have p230 : 0 ≤ (x6_1 : Int) := of_decide_eq_true q0_
             have q230 : x6_1 < (x5_2.length : Int) := of_decide_eq_true q0_
             obtain ⟨ad230, A230_0, c230_0, e230, hx230_0, hl230_0, hi230_0⟩ := at_L3 (Kd.S_reads' HO_5.out).2.2 x6_1 p230 q230
             obtain rfl : (⟨go14, 0, none⟩ : Addr) = ad230 := (by injection e230)
             obtain ⟨ce230, hce230, hMe230, hcc230⟩ := Kd.S_get HO_5.out [] x6_1 p230 (by first | exact q230 | exact of_decide_eq_true q0_ | (have e_ := (Kd.S_reads' HO_5.out).1; omega))
             obtain ⟨ve230_0, rfl, ge230_0⟩ := hMe230
             have hv230_0 := hcc230 0 _ rfl
             rw [Nat.add_zero, show ((Kd.slice 3 (Kd.int .i64))).sz = 1 from rfl, Nat.mul_one] at hv230_0
             replace hv230_0 := Option.some.inj (hv230_0.symm.trans hx230_0)
             rw [hv230_0] at ge230_0
             have HL230_0 := Aside0.mk (show Kd.R (Kd.int .i64) 3 _ _ _ _ (rd_L3 x5_2 x6_1) from ge230_0)
             clear hv230_0 ge230_0
             have HX230_0 := Aside0.mk hx230_0
             clear hcc230 hce230
             (first | simp only [add_plain] at hx230_0 | simp only [add_at] at hx230_0 | simp only [Addr.add, Nat.zero_add] at hx230_0 | skip)
             have HR230_0 := Aside0.mk hi230_0
             have HC230_0 := Aside0.mk hl230_0
             clear hi230_0 hl230_0
             replace p230 := eq_true p230
             replace q230 := eq_true q230
             have p231 : 0 ≤ ((ji29) : Int) := of_decide_eq_true q0_
             have q231 : (ji29) < ((rd_L3 x5_2 x6_1).length : Int) := of_decide_eq_true q0_
             obtain ⟨ad231, e231, hx231_0⟩ := Kd.at_int q31_ (ji29) p231 q231
             cases e231
             replace p231 := eq_true p231
             replace q231 := eq_true q231
             have p246 : 0 ≤ (x6_1 : Int) := of_decide_eq_true q0_
             have q246 : x6_1 < (l0.length : Int) := of_decide_eq_true q0_
             obtain ⟨ad246, e246, hx246_0⟩ := Kd.at_string HR0.out x6_1 p246 q246
             cases e246
             replace hx246_0 := (HB.out.cell (World.block_lt_of_cell? w _ hx246_0)).trans hx246_0
             replace p246 := eq_true p246
             replace q246 := eq_true q246
             have p247 : 0 ≤ (x7_2 : Int) := of_decide_eq_true q0_
             have q247 : x7_2 < (l1.length : Int) := of_decide_eq_true q0_
             obtain ⟨ad247, e247, hx247_0⟩ := Kd.at_string HR1.out x7_2 p247 q247
             cases e247
             replace hx247_0 := (HB.out.cell (World.block_lt_of_cell? w _ hx247_0)).trans hx247_0
             replace p247 := eq_true p247
             replace q247 := eq_true q247
             have p254 : 0 ≤ (x6_1 : Int) := of_decide_eq_true q0_
             have q254 : x6_1 < (x5_2.length : Int) := of_decide_eq_true q0_
             obtain ⟨ad254, A254_0, c254_0, e254, hx254_0, hl254_0, hi254_0⟩ := at_L3 (Kd.S_reads' HO_5.out).2.2 x6_1 p254 q254
             obtain rfl : (⟨go14, 0, none⟩ : Addr) = ad254 := (by injection e254)
             obtain ⟨ce254, hce254, hMe254, hcc254⟩ := Kd.S_get HO_5.out [] x6_1 p254 (by first | exact q254 | exact of_decide_eq_true q0_ | (have e_ := (Kd.S_reads' HO_5.out).1; omega))
             obtain ⟨ve254_0, rfl, ge254_0⟩ := hMe254
             have hv254_0 := hcc254 0 _ rfl
             rw [Nat.add_zero, show ((Kd.slice 3 (Kd.int .i64))).sz = 1 from rfl, Nat.mul_one] at hv254_0
             replace hv254_0 := Option.some.inj (hv254_0.symm.trans hx254_0)
             rw [hv254_0] at ge254_0
             have HL254_0 := Aside0.mk (show Kd.R (Kd.int .i64) 3 _ _ _ _ (rd_L3 x5_2 x6_1) from ge254_0)
             clear hv254_0 ge254_0
             have HX254_0 := Aside0.mk hx254_0
             clear hcc254 hce254
             (first | simp only [add_plain] at hx254_0 | simp only [add_at] at hx254_0 | simp only [Addr.add, Nat.zero_add] at hx254_0 | skip)
             have HR254_0 := Aside0.mk hi254_0
             have HC254_0 := Aside0.mk hl254_0
             clear hi254_0 hl254_0
             replace p254 := eq_true p254
             replace q254 := eq_true q254
             have ea_ := Option.some.inj (hx230_0.symm.trans hx254_0)
             injection ea_ with ea_ en_ ec_
             subst ea_
             subst ec_
             clear en_
             have p54 : 0 ≤ (x7_2 : Int) := of_decide_eq_true q0_
             have q54 : (x7_2 : Int) < (((rd_L3 x5_2 x6_1).length : Int) : Int) := of_decide_eq_true q0_
             obtain ⟨go54, co54, eo54, gb54, gl54, cl54, HG54⟩ := Kd.R_form HL254_0.out (by omega)
             (first | cases eo54 | (injection eo54 with ea_ en_ ec_; (first | subst ea_ | (injection ea_ with ea_; subst ea_)); subst ec_; clear en_))
             have GB54 := Aside0.mk gb54
             have GG54 := Aside0.mk HG54
             clear gb54 gl54 HG54
             (first | simp only [add_plain] at hx231_0 | skip)
             obtain ⟨hx54_0, hf54_0⟩ := Kd.R_celln 0 HL254_0.out (x7_2 : Int) p54 q54
             replace p54 := eq_true p54
             replace q54 := eq_true q54
             have hq55 : (x6_1 : Int) < (x5_2.length : Int) := (by have h_ : (x6_1 : Int) < ((x5_2.length : Int) : Int) := of_decide_eq_true q0_; first | exact h_ | (have e_ := (Kd.S_reads' HO_5.out).1; omega) | simpa only [List.length_set, List.length_set] using h_)
             obtain ⟨oki55, ce55, hcl55, hM55, hcc55, hok55, hbk55⟩ := Kd.S_borrow HO_5.out [] (x6_1 : Int) (of_decide_eq_true q0_) hq55
             obtain ⟨ve55_0, rfl, ge55_0⟩ := hM55
             have hv55 := hcc55 0 _ rfl
             rw [Nat.add_zero, show ((Kd.slice 3 (Kd.int .i64))).sz = 1 from rfl, Nat.mul_one] at hv55
             replace hv55 := Option.some.inj (hv55.symm.trans HX254_0.out)
             subst hv55
             clear hcc55 hcl55
             replace ge55_0 := (show Kd.R (Kd.int .i64) 3 _ _ _ _ (rd_L3 x5_2 x6_1) from ge55_0)
             have HP55 := Kd.R_putg ge55_0 (x7_2 : Int) (rd (rd_L3 x5_2 (ji22)) x7_2)
             go_wp2_with (first | ((with_reducible refine gate_store (t := 3) (p := 90) rfl ?_); (try (rw [drewN_self wc]; generalize hq_ : World.drewN wc _ = wc; (try (replace hx228_0 := cell_at hq_ hx228_0)); (try (replace hx229_0 := cell_at hq_ hx229_0)); (try (replace hx230_0 := cell_at hq_ hx230_0)); (try (replace hx231_0 := cell_at hq_ hx231_0)); (try (replace hx246_0 := cell_at hq_ hx246_0)); (try (replace hx247_0 := cell_at hq_ hx247_0)); (try (replace hx250_0 := cell_at hq_ hx250_0)); (try (replace hx254_0 := cell_at hq_ hx254_0)); (try (replace hx50_0 := cell_at hq_ hx50_0)); (try (replace hx54_0 := cell_at hq_ hx54_0)); (try (replace hf50_0 := frozen_at hq_ hf50_0)); (try (replace hf54_0 := frozen_at hq_ hf54_0)); (try (replace HX228_0 := Aside0.mk (cell_at hq_ HX228_0.out))); (try (replace HX230_0 := Aside0.mk (cell_at hq_ HX230_0.out))); (try (replace HX250_0 := Aside0.mk (cell_at hq_ HX250_0.out))); (try (replace HX254_0 := Aside0.mk (cell_at hq_ HX254_0.out))); have n0_ := Aside0.mk (Kd.S_at hq_ HO_5.out); (try have n1_ := Aside0.mk (Kd.R_at hq_ HL261.out)); have n2_ := Aside0.mk (below_at hq_ HB.out); (try clear HL261); clear hq_ HO_5 HB; have HO_5 := n0_; (try have HL261 := n1_); have HB := n2_; (try clear n1_); clear n0_ n2_; (try (have hq55 : (x6_1 : Int) < (x5_2.length : Int) := (by have h_ : (x6_1 : Int) < ((x5_2.length : Int) : Int) := of_decide_eq_true q0_; first | exact h_ | (have e_ := (Kd.S_reads' HO_5.out).1; omega) | simpa only [List.length_set, List.length_set] using h_))); (try (obtain ⟨oki55, ce55, hcl55, hM55, hcc55, hok55, hbk55⟩ := Kd.S_borrow HO_5.out [] (x6_1 : Int) (of_decide_eq_true q0_) hq55)); (try (obtain ⟨ve55_0, rfl, ge55_0⟩ := hM55)); (try (have hv55 := hcc55 0 _ rfl)); (try (rw [Nat.add_zero, show ((Kd.slice 3 (Kd.int .i64))).sz = 1 from rfl, Nat.mul_one] at hv55)); (try (replace hv55 := Option.some.inj (hv55.symm.trans HX254_0.out))); (try (subst hv55)); (try (clear hcc55 hcl55)); (try (replace ge55_0 := (show Kd.R (Kd.int .i64) 3 _ _ _ _ (rd_L3 x5_2 x6_1) from ge55_0))); (try (have HP55 := Kd.R_putg ge55_0 (x7_2 : Int) (rd (rd_L3 x5_2 (ji22)) x7_2))))); refine store_event (t := 3) (p := 90) (v := ?vo_w56) (w1 := (wc.setCell ⟨go54, (x7_2 : Int).toNat, none⟩ (.int .i64 (rd (rd_L3 x5_2 (ji22)) x7_2)))) ?hg ?ho ?hn ?hr ?_; (case ho => rfl); (case hg => rfl); (case hn => rfl); (case hr => first | (go_simp; done) | (go_simp; rfl)); intro w56 hw; have hg : wc.grownBy w56 (some go54) := (by rw [hw]; exact HP55.2); have hz_ : Kd.R (Kd.int .i64) 3 w56 w.heap.size oki55 (.slice (some ⟨go54, 0, none⟩) (rd_L3 x5_2 x6_1).length c230_0) y255 := (by rw [hw, Ny255.out]; exact HP55.1); have hp_ : Kd.S (Kd.slice 3 (Kd.int .i64)) 50 w56 w.heap.size (fun _ => True) (.slice (some ⟨go14, 0, none⟩) x5_2.length co14) y257 := (by rw [Ny257.out]; exact hbk55 hg (fun k_ e_ => by injection e_ with e_; subst e_; exact ge55_0.1 _ rfl) (Kd.M_row hz_)); have hm_ := Kd.R_mono hz_ hok55; clear HP55 hbk55; have n0_ := Aside0.mk (hp_); have n1_ := Aside0.mk ((by rw [hw]; exact below_set (HB.out) GB54.out : Below w.heap.size w w56)); have n2_ := Aside0.mk (hm_); have n3_ := Aside0.mk ((Kd.R_reads' hm_).2.1); clear HO_5; clear HB; clear HL228_0; clear HL230_0; clear HL254_0; have HO_5 := n0_; have HB := n1_; have HL261 := n2_; have HC256 := n3_; clear n0_ n1_ n2_ n3_; clear hg hw hp_ hz_ hm_ hok55))
             repeat (go_quiet (first | ((with_reducible refine gate_store (t := 3) (p := 90) rfl ?_); (try (rw [drewN_self wc]; generalize hq_ : World.drewN wc _ = wc; (try (replace hx228_0 := cell_at hq_ hx228_0)); (try (replace hx229_0 := cell_at hq_ hx229_0)); (try (replace hx230_0 := cell_at hq_ hx230_0)); (try (replace hx231_0 := cell_at hq_ hx231_0)); (try (replace hx246_0 := cell_at hq_ hx246_0)); (try (replace hx247_0 := cell_at hq_ hx247_0)); (try (replace hx254_0 := cell_at hq_ hx254_0)); (try (replace hx54_0 := cell_at hq_ hx54_0)); (try (replace hf54_0 := frozen_at hq_ hf54_0)); (try (replace HX228_0 := Aside0.mk (cell_at hq_ HX228_0.out))); (try (replace HX230_0 := Aside0.mk (cell_at hq_ HX230_0.out))); (try (replace HX250_0 := Aside0.mk (cell_at hq_ HX250_0.out))); (try (replace HX254_0 := Aside0.mk (cell_at hq_ HX254_0.out))); have n0_ := Aside0.mk (Kd.S_at hq_ HO_5.out); (try have n1_ := Aside0.mk (Kd.R_at hq_ HL261.out)); have n2_ := Aside0.mk (below_at hq_ HB.out); (try clear HL261); clear hq_ HO_5 HB; have HO_5 := n0_; (try have HL261 := n1_); have HB := n2_; (try clear n1_); clear n0_ n2_; (try (have hq55 : (x6_1 : Int) < (x5_2.length : Int) := (by have h_ : (x6_1 : Int) < ((x5_2.length : Int) : Int) := of_decide_eq_true q0_; first | exact h_ | (have e_ := (Kd.S_reads' HO_5.out).1; omega) | simpa only [List.length_set, List.length_set] using h_))); (try (obtain ⟨oki55, ce55, hcl55, hM55, hcc55, hok55, hbk55⟩ := Kd.S_borrow HO_5.out [] (x6_1 : Int) (of_decide_eq_true q0_) hq55)); (try (obtain ⟨ve55_0, rfl, ge55_0⟩ := hM55)); (try (have hv55 := hcc55 0 _ rfl)); (try (rw [Nat.add_zero, show ((Kd.slice 3 (Kd.int .i64))).sz = 1 from rfl, Nat.mul_one] at hv55)); (try (replace hv55 := Option.some.inj (hv55.symm.trans HX254_0.out))); (try (subst hv55)); (try (clear hcc55 hcl55)); (try (replace ge55_0 := (show Kd.R (Kd.int .i64) 3 _ _ _ _ (rd_L3 x5_2 x6_1) from ge55_0))); (try (have HP55 := Kd.R_putg ge55_0 (x7_2 : Int) (rd (rd_L3 x5_2 (ji22)) x7_2))))); refine store_event (t := 3) (p := 90) (v := ?vo_w56) (w1 := (wc.setCell ⟨go54, (x7_2 : Int).toNat, none⟩ (.int .i64 (rd (rd_L3 x5_2 (ji22)) x7_2)))) ?hg ?ho ?hn ?hr ?_; (case ho => rfl); (case hg => rfl); (case hn => rfl); (case hr => first | (go_simp; done) | (go_simp; rfl)); intro w56 hw; have hg : wc.grownBy w56 (some go54) := (by rw [hw]; exact HP55.2); have hz_ : Kd.R (Kd.int .i64) 3 w56 w.heap.size oki55 (.slice (some ⟨go54, 0, none⟩) (rd_L3 x5_2 x6_1).length c230_0) y255 := (by rw [hw, Ny255.out]; exact HP55.1); have hp_ : Kd.S (Kd.slice 3 (Kd.int .i64)) 50 w56 w.heap.size (fun _ => True) (.slice (some ⟨go14, 0, none⟩) x5_2.length co14) y257 := (by rw [Ny257.out]; exact hbk55 hg (fun k_ e_ => by injection e_ with e_; subst e_; exact ge55_0.1 _ rfl) (Kd.M_row hz_)); have hm_ := Kd.R_mono hz_ hok55; clear HP55 hbk55; have n0_ := Aside0.mk (hp_); have n1_ := Aside0.mk ((by rw [hw]; exact below_set (HB.out) GB54.out : Below w.heap.size w w56)); have n2_ := Aside0.mk (hm_); have n3_ := Aside0.mk ((Kd.R_reads' hm_).2.1); clear HO_5; clear HB; clear HL228_0; clear HL230_0; clear HL254_0; have HO_5 := n0_; have HB := n1_; have HL261 := n2_; have HC256 := n3_; clear n0_ n1_ n2_ n3_; clear hg hw hp_ hz_ hm_ hok55)); try go_wp2_with (first | ((with_reducible refine gate_store (t := 3) (p := 90) rfl ?_); (try (rw [drewN_self wc]; generalize hq_ : World.drewN wc _ = wc; (try (replace hx228_0 := cell_at hq_ hx228_0)); (try (replace hx229_0 := cell_at hq_ hx229_0)); (try (replace hx230_0 := cell_at hq_ hx230_0)); (try (replace hx231_0 := cell_at hq_ hx231_0)); (try (replace hx246_0 := cell_at hq_ hx246_0)); (try (replace hx247_0 := cell_at hq_ hx247_0)); (try (replace hx254_0 := cell_at hq_ hx254_0)); (try (replace hx54_0 := cell_at hq_ hx54_0)); (try (replace hf54_0 := frozen_at hq_ hf54_0)); (try (replace HX228_0 := Aside0.mk (cell_at hq_ HX228_0.out))); (try (replace HX230_0 := Aside0.mk (cell_at hq_ HX230_0.out))); (try (replace HX250_0 := Aside0.mk (cell_at hq_ HX250_0.out))); (try (replace HX254_0 := Aside0.mk (cell_at hq_ HX254_0.out))); have n0_ := Aside0.mk (Kd.S_at hq_ HO_5.out); (try have n1_ := Aside0.mk (Kd.R_at hq_ HL261.out)); have n2_ := Aside0.mk (below_at hq_ HB.out); (try clear HL261); clear hq_ HO_5 HB; have HO_5 := n0_; (try have HL261 := n1_); have HB := n2_; (try clear n1_); clear n0_ n2_; (try (have hq55 : (x6_1 : Int) < (x5_2.length : Int) := (by have h_ : (x6_1 : Int) < ((x5_2.length : Int) : Int) := of_decide_eq_true q0_; first | exact h_ | (have e_ := (Kd.S_reads' HO_5.out).1; omega) | simpa only [List.length_set, List.length_set] using h_))); (try (obtain ⟨oki55, ce55, hcl55, hM55, hcc55, hok55, hbk55⟩ := Kd.S_borrow HO_5.out [] (x6_1 : Int) (of_decide_eq_true q0_) hq55)); (try (obtain ⟨ve55_0, rfl, ge55_0⟩ := hM55)); (try (have hv55 := hcc55 0 _ rfl)); (try (rw [Nat.add_zero, show ((Kd.slice 3 (Kd.int .i64))).sz = 1 from rfl, Nat.mul_one] at hv55)); (try (replace hv55 := Option.some.inj (hv55.symm.trans HX254_0.out))); (try (subst hv55)); (try (clear hcc55 hcl55)); (try (replace ge55_0 := (show Kd.R (Kd.int .i64) 3 _ _ _ _ (rd_L3 x5_2 x6_1) from ge55_0))); (try (have HP55 := Kd.R_putg ge55_0 (x7_2 : Int) (rd (rd_L3 x5_2 (ji22)) x7_2))))); refine store_event (t := 3) (p := 90) (v := ?vo_w56) (w1 := (wc.setCell ⟨go54, (x7_2 : Int).toNat, none⟩ (.int .i64 (rd (rd_L3 x5_2 (ji22)) x7_2)))) ?hg ?ho ?hn ?hr ?_; (case ho => rfl); (case hg => rfl); (case hn => rfl); (case hr => first | (go_simp; done) | (go_simp; rfl)); intro w56 hw; have hg : wc.grownBy w56 (some go54) := (by rw [hw]; exact HP55.2); have hz_ : Kd.R (Kd.int .i64) 3 w56 w.heap.size oki55 (.slice (some ⟨go54, 0, none⟩) (rd_L3 x5_2 x6_1).length c230_0) y255 := (by rw [hw, Ny255.out]; exact HP55.1); have hp_ : Kd.S (Kd.slice 3 (Kd.int .i64)) 50 w56 w.heap.size (fun _ => True) (.slice (some ⟨go14, 0, none⟩) x5_2.length co14) y257 := (by rw [Ny257.out]; exact hbk55 hg (fun k_ e_ => by injection e_ with e_; subst e_; exact ge55_0.1 _ rfl) (Kd.M_row hz_)); have hm_ := Kd.R_mono hz_ hok55; clear HP55 hbk55; have n0_ := Aside0.mk (hp_); have n1_ := Aside0.mk ((by rw [hw]; exact below_set (HB.out) GB54.out : Below w.heap.size w w56)); have n2_ := Aside0.mk (hm_); have n3_ := Aside0.mk ((Kd.R_reads' hm_).2.1); clear HO_5; clear HB; clear HL228_0; clear HL230_0; clear HL254_0; have HO_5 := n0_; have HB := n1_; have HL261 := n2_; have HC256 := n3_; clear n0_ n1_ n2_ n3_; clear hg hw hp_ hz_ hm_ hok55)))
             (try simp only [← hl5_2])
             go_roundg kj18
             case measure => have := HK1.out; have := HK2.out; have := HJ18.out; omega
             case rel => exact ⟨(y257), (wrap64 (x7_2 - 1)), q7_, H', ⟨by have := HK1.out; have := HK2.out; have := HJ18.out; omega⟩, ⟨by (try simp only [hl5_2]); (with_reducible repeat (first | apply Kd.S_alloc | apply Kd.S_drewN | apply Kd.S_drew)); exact HO_5.out⟩, ⟨by repeat (first | (with_reducible first | exact HB.out | apply below_alloc | apply pw_below_drewN | apply below_drew1) | exact HB.out)⟩⟩
          ·replace c21 := Bool.eq_false_iff.mpr c21
           subst c21
           have H1 : (spec_l04Table.l0 kj18 l0 l1 x5_2 (wrap64 (x6_1 - 1))) = some r := by rw [if_neg (show ¬ (false = true) by decide)] at H; exact H
           clear H
           have H := H1
           clear H1
           have H' := Aside0.mk H
           clear H
           go_wp2
           repeat (go_quiet (fail); try go_wp2)
           (try simp only [← hl5_2])
           go_roundg kj18
           case measure => have := HK1.out; have := HK2.out; have := HJ18.out; omega
           case rel => exact ⟨(x5_2), (wrap64 (x6_1 - 1)), q7_, H', ⟨by have := HK1.out; have := HK2.out; have := HJ18.out; omega⟩, ⟨by (try simp only [hl5_2]); (with_reducible repeat (first | apply Kd.S_alloc | apply Kd.S_drewN | apply Kd.S_drew)); exact HO_5.out⟩, ⟨by repeat (first | (with_reducible first | exact HB.out | apply below_alloc | apply pw_below_drewN | apply below_drew1) | exact HB.out)⟩⟩
     ·rw [if_neg c8] at H
      have c8b0 : decide (0 ≤ x6_1) = false := decide_eq_false c8
      clear c8
      obtain rfl := Option.some.inj H
      go_wp2
      repeat (go_quiet (fail); try go_wp2)
      go_ret
      exact ⟨_, by first | rfl | (simp [errW_none, errW_some] <;> rfl) | (simp only [← hji3]; first | rfl | (simp [errW_none, errW_some] <;> rfl)) | (simp [*, errW_none, errW_some] <;> rfl), by (with_reducible repeat (first | apply Kd.S_alloc | apply Kd.S_drewN | apply Kd.S_drew)); exact HO_5.out, by repeat (first | (with_reducible first | exact HB.out | apply below_alloc | apply pw_below_drewN | apply below_drew1) | exact HB.out)⟩
end Go.Proofs.Ytjdjcbjeklliaaa.PFnLeast
-- (flat)
-- (thin)
