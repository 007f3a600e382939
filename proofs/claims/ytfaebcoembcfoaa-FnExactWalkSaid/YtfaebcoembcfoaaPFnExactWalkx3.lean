-- Made by a program (the kit's print with additions of this session: wip/tools/patch_print.py, ext.py).
-- (turned)
import Derived.Test.YtfaebcoembcfoaaPFnExactWalkx0
namespace Go.Proofs.Ytfaebcoembcfoaa.PFnExactWalk
open Go.RowKit Go.Proofs.YtfaebcoembcfoaaW.PrintWords Go.Proofs.YtfaebcoembcfoaaW.PrintLast Go.Proofs.YtfaebcoembcfoaaW.PrintMore
attribute [local go_sem] max2_int min2_int max_two min_two max_three min_three max_four min_four   -- for this text's walks alone
set_option linter.unusedVariables false
set_option linter.unusedSimpArgs false

/-! ### laws_toIntS: function 21 -/
def laws_toIntS.l0 : Nat → List Int → List Int → Int → Option (List Int)
  | 0, _, _, _ => none
  | k + 1, x0, x3, x4 => if x4 < (x0.length : Int) then (if 0 ≤ x4 then (if x4 < (x3.length : Int) then (laws_toIntS.l0 k x0 (x3.set (x4 : Int).toNat (rd x0 x4)) (wrap64 (x4 + 1))) else (none)) else (none)) else (some x3)
def laws_toIntS.f (k : Nat) (l0 : List Int) : Option (List Int) := if 0 ≤ (l0.length : Int) then (if ((l0.length : Int) : Int).toNat ≤ 35184372088832 then (laws_toIntS.l0 k l0 (List.replicate ((l0.length : Int) : Int).toNat 0) 0) else (none)) else (none)
theorem laws_toIntS.mono_l : ∀ k, (∀ y0 y1 y2, LeO (laws_toIntS.l0 k y0 y1 y2) (laws_toIntS.l0 (k + 1) y0 y1 y2))
  | 0 => fun _ _ _ r h => by simp [laws_toIntS.l0] at h
  | k + 1 => by
    have ih0 := laws_toIntS.mono_l k
    · intro y0 y1 y2
      unfold laws_toIntS.l0
      repeat' first
      | (with_reducible exact ih0 _ _ _)
      | (with_reducible exact LeO.refl _)
      | (with_reducible exact LeO.none _)
      | (with_reducible refine LeO.ite ?_ ?_)
      | (with_reducible refine LeO.bind ?_ (fun _ => ?_))
      | exact ih0 _ _ _
      | exact LeO.none _
      | refine LeO.ite ?_ ?_
      | refine LeO.bind ?_ (fun _ => ?_)
theorem laws_toIntS.mono : ∀ a0 k, LeO (laws_toIntS.f k a0) (laws_toIntS.f (k + 1) a0) := by
  intro a0 k
  have ih0 := laws_toIntS.mono_l k
  unfold laws_toIntS.f
  repeat' first
      | (with_reducible exact ih0 _ _ _)
      | (with_reducible exact LeO.refl _)
      | (with_reducible exact LeO.none _)
      | (with_reducible refine LeO.ite ?_ ?_)
      | (with_reducible refine LeO.bind ?_ (fun _ => ?_))
      | exact ih0 _ _ _
      | exact LeO.none _
      | refine LeO.ite ?_ ?_
      | refine LeO.bind ?_ (fun _ => ?_)
set_option maxHeartbeats 8000000 in
set_option maxRecDepth 100000 in
theorem laws_toIntS.calls (k : Nat) (A0 : Option Addr) (c0 : Nat) (l0 : List Int) (r : List Int) (w : World) (hr0 : Kd.C (Kd.int .i64) w A0 l0.length l0) (hc0 : l0.length ≤ c0) (h : laws_toIntS.f k l0 = some r) :
    Calls Try.prog 21 #[.slice A0 l0.length c0] w fun e w' => ∃ v0_ : Value, e = .returned (v0_) ∧ Kd.R (Kd.int .i64) 3 w' w.heap.size (fun _ => True) v0_ r ∧ Below w.heap.size w w' := by
  have HR0 := Aside0.mk hr0
  have HC0 := Aside0.mk hc0
  clear hr0 hc0
  have HB := Aside0.mk (Below.refl w.heap.size w)
  have H : (if 0 ≤ (l0.length : Int) then (if ((l0.length : Int) : Int).toNat ≤ 35184372088832 then (laws_toIntS.l0 k l0 (List.replicate ((l0.length : Int) : Int).toNat 0) 0) else (none)) else (none)) = some r := h
  clear h
  by_cases c2 : 0 ≤ (l0.length : Int)
  · rw [if_pos c2] at H
    have c2b0 := eq_true c2
    have c2b1 : decide (0 ≤ (l0.length : Int)) = true := decide_eq_true c2
    clear c2
    by_cases c3 : ((l0.length : Int) : Int).toNat ≤ 35184372088832
    · rw [if_pos c3] at H
      have c3b0 := eq_true c3
      have c3b1 : decide (((l0.length : Int) : Int).toNat ≤ 35184372088832) = true := decide_eq_true c3
      clear c3
      obtain ⟨y175, hy175⟩ : ∃ y_ : List Int, y_ = (List.replicate ((l0.length : Int) : Int).toNat 0) := ⟨_, rfl⟩
      replace H : (laws_toIntS.l0 k l0 y175 0) = some r := by first | (rw [hy175]; with_reducible exact H) | (have H2_ := (Option.bind_some _ _).symm.trans H; rw [hy175]; with_reducible exact H2_) | (have H2_ := (Option.bind_some _ _).symm.trans H; with_reducible exact H2_) | with_reducible exact H | (rw [hy175]; exact H) | exact H
      have Ny175 := Aside0.mk hy175
      clear hy175
      have H' := Aside0.mk H
      clear H
      go_enter Try.func21, Try.ntmps21
      go_wp2_with (first | ((with_reducible refine gate_dst (N := 7) rfl ?_); refine Kd.R_make (Kd.int .i64) _ 3 rfl (N := 7) rfl 25 _ _ rfl (l0.length : Int) rfl rfl Try.underlying25 (.int .i64 0) 8 info3 rfl (by decide) (by omega) 0 (ok := fun _ => True) (okp := fun _ => True) rfl (fun _ hk => hk) trivial (of_decide_eq_true (by first | (with_reducible assumption) | assumption)) (Nat.le_trans (Nat.mul_le_mul_right _ (of_decide_eq_true (by first | (with_reducible assumption) | assumption) : (l0.length : Int).toNat ≤ 35184372088832)) (by omega)) (Below.refl _ _) (Nat.le_refl _) ?_; intro v176 w4 ho5 hb hg_ hnew_; clear hg_ hnew_; (first | rw [← Ny175.out] at ho5 | (simp only [Int.reduceToNat] at ho5; rw [← Ny175.out] at ho5)); have n0_ := Aside0.mk (Kd.R_lower ho5 (below_size (by repeat (first | (with_reducible first | exact HB.out | apply below_alloc | apply pw_below_drewN | apply below_drew1) | exact HB.out)))); have n1_ := Aside0.mk (below_step (by repeat (first | (with_reducible first | exact HB.out | apply below_alloc | apply pw_below_drewN | apply below_drew1) | exact HB.out)) hb); clear HB; have HO177 := n0_; have HB := n1_; clear n0_ n1_; clear hb ho5))
      go_loopg [4] k (fun kq v4 w' => ∃ (x3_1 : List Int) (x4_1 : Int), v4 = .int .i64 x4_1 ∧ Aside0 (laws_toIntS.l0 kq l0 x3_1 x4_1 = some r) ∧ Aside0 (kq ≤ k) ∧ Aside0 (Kd.R (Kd.int .i64) 3 w' w.heap.size (fun _ => True) v176 x3_1) ∧ Aside0 (Below w.heap.size w w'))
      case atStart => exact ⟨(y175), (0), (by first | rfl | (simp; done) | (simp [*]; done)), H', ⟨Nat.le_refl _⟩, ⟨by (with_reducible repeat (first | apply Kd.R_alloc | apply Kd.R_drewN | apply Kd.R_drew)); exact HO177.out⟩, ⟨by repeat (first | (with_reducible first | exact HB.out | apply below_alloc | apply pw_below_drewN | apply below_drew1) | exact HB.out)⟩⟩
      case round =>
        clear H'
        try clear c2
        try clear c2b0
        try clear c2b1
        try clear p2
        try clear c3
        try clear c3b0
        try clear c3b1
        obtain ⟨x3_1, x4_1, rfl, HA, HK1, HO_3, HB⟩ := hrel
        cases gk with
        | zero => exact absurd HA.out (by simp [laws_toIntS.l0])
        | succ k1 =>
          have H := HA.out
          clear HA
          simp only [laws_toIntS.l0] at H
          by_cases c6 : x4_1 < (l0.length : Int)
          · rw [if_pos c6] at H
            have c6b0 : decide (x4_1 < (l0.length : Int)) = true := decide_eq_true c6
            clear c6
            by_cases c7 : 0 ≤ x4_1
            · rw [if_pos c7] at H
              have c7b0 : decide (0 ≤ x4_1) = true := decide_eq_true c7
              clear c7
              by_cases c8 : x4_1 < (x3_1.length : Int)
              · rw [if_pos c8] at H
                have c8b0 : decide (x4_1 < (x3_1.length : Int)) = true := decide_eq_true c8
                clear c8
                obtain ⟨y179, hy179⟩ : ∃ y_ : List Int, y_ = (x3_1.set (x4_1 : Int).toNat (rd l0 x4_1)) := ⟨_, rfl⟩
                replace H : (laws_toIntS.l0 k1 l0 y179 (wrap64 (x4_1 + 1))) = some r := by first | (rw [hy179]; with_reducible exact H) | (have H2_ := (Option.bind_some _ _).symm.trans H; rw [hy179]; with_reducible exact H2_) | (have H2_ := (Option.bind_some _ _).symm.trans H; with_reducible exact H2_) | with_reducible exact H | (rw [hy179]; exact H) | exact H
                have Ny179 := Aside0.mk hy179
                clear hy179
                have H' := Aside0.mk H
                clear H
                have p178 : 0 ≤ (x4_1 : Int) := of_decide_eq_true (by first | (with_reducible assumption) | assumption)
                have q178 : x4_1 < (l0.length : Int) := of_decide_eq_true (by first | (with_reducible assumption) | assumption)
                obtain ⟨ad178, e178, hx178_0⟩ := Kd.at_int HR0.out x4_1 p178 q178
                cases e178
                replace hx178_0 := (HB.out.cell (World.block_lt_of_cell? w _ hx178_0)).trans hx178_0
                replace p178 := eq_true p178
                replace q178 := eq_true q178
                have p9 : 0 ≤ (x4_1 : Int) := of_decide_eq_true (by first | (with_reducible assumption) | assumption)
                have q9 : (x4_1 : Int) < ((x3_1.length : Int) : Int) := of_decide_eq_true (by first | (with_reducible assumption) | assumption)
                obtain ⟨go9, co9, eo9, gb9, gl9, cl9, HG9⟩ := Kd.R_form HO_3.out (by omega)
                (first | cases eo9 | (injection eo9 with ea_ en_ ec_; (first | subst ea_ | (injection ea_ with ea_; subst ea_)); subst ec_; clear en_))
                have GB9 := Aside0.mk gb9
                have GG9 := Aside0.mk HG9
                clear gb9 gl9 HG9
                obtain ⟨hx9_0, hf9_0⟩ := Kd.R_celln 0 HO_3.out (x4_1 : Int) p9 q9
                replace p9 := eq_true p9
                replace q9 := eq_true q9
                have HP10 := Kd.R_putg HO_3.out (x4_1 : Int) (rd l0 x4_1)
                go_wp2_with (first | ((with_reducible refine gate_store (t := 3) (p := 20) rfl ?_); refine store_event (t := 3) (p := 20) (v := ?vo_w11) (w1 := (wr.setCell ⟨go9, (x4_1 : Int).toNat, none⟩ (.int .i64 (rd l0 x4_1)))) ?hg ?ho ?hn ?hr ?_; (case ho => rfl); (case hg => rfl); (case hn => rfl); (case hr => first | (go_simp; done) | (go_simp; rfl)); intro w11 hw; have hg : wr.grownBy w11 (some go9) := (by rw [hw]; exact HP10.2); have hp_ : Kd.R (Kd.int .i64) 3 w11 w.heap.size (fun _ => True) (.slice (some ⟨go9, 0, none⟩) x3_1.length co9) y179 := (by rw [hw, Ny179.out]; exact HP10.1); clear HP10; have n0_ := Aside0.mk (hp_); have n1_ := Aside0.mk ((by rw [hw]; exact below_set (HB.out) GB9.out : Below w.heap.size w w11)); clear HO_3; clear HB; have HO_3 := n0_; have HB := n1_; clear n0_ n1_; clear hg hw hp_))
                go_roundg k1
                case measure => have := HK1.out; omega
                case rel => exact ⟨(y179), (wrap64 (x4_1 + 1)), (by first | rfl | (simp; done) | (simp [*]; done)), H', ⟨by have := HK1.out; omega⟩, ⟨by (with_reducible repeat (first | apply Kd.R_alloc | apply Kd.R_drewN | apply Kd.R_drew)); exact HO_3.out⟩, ⟨by repeat (first | (with_reducible first | exact HB.out | apply below_alloc | apply pw_below_drewN | apply below_drew1) | exact HB.out)⟩⟩
              · rw [if_neg c8] at H
                exact absurd H (by simp)
            · rw [if_neg c7] at H
              exact absurd H (by simp)
          · rw [if_neg c6] at H
            have c6b0 : decide (x4_1 < (l0.length : Int)) = false := decide_eq_false c6
            clear c6
            obtain rfl := Option.some.inj H
            go_wp2
            go_ret
            exact ⟨_, by first | rfl | (simp [errW_none, errW_some] <;> rfl) | (simp [*, errW_none, errW_some] <;> rfl), by (with_reducible repeat (first | apply Kd.R_alloc | apply Kd.R_drewN | apply Kd.R_drew)); exact HO_3.out, by repeat (first | (with_reducible first | exact HB.out | apply below_alloc | apply pw_below_drewN | apply below_drew1) | exact HB.out)⟩
    · rw [if_neg c3] at H
      exact absurd H (by simp)
  · rw [if_neg c2] at H
    exact absurd H (by simp)

/-! ### slices_Index_int_int: function 49 -/
def slices_Index_int_int.l0 : Nat → List Int → Int → Int → Int → Option (Int)
  | 0, _, _, _, _ => none
  | k + 1, x0, x1, x7, x8 => if x8 < x7 then (if 0 ≤ x8 then (if x8 < (x0.length : Int) then (if x1 = (rd x0 x8) then (some x8) else (slices_Index_int_int.l0 k x0 x1 x7 (wrap64 (x8 + 1)))) else (none)) else (none)) else (some (-1))
def slices_Index_int_int.f (k : Nat) (l0 : List Int) (a1 : Int) : Option (Int) := slices_Index_int_int.l0 k l0 a1 (l0.length : Int) 0
theorem slices_Index_int_int.mono_l : ∀ k, (∀ y0 y1 y2 y3, LeO (slices_Index_int_int.l0 k y0 y1 y2 y3) (slices_Index_int_int.l0 (k + 1) y0 y1 y2 y3))
  | 0 => fun _ _ _ _ r h => by simp [slices_Index_int_int.l0] at h
  | k + 1 => by
    have ih0 := slices_Index_int_int.mono_l k
    · intro y0 y1 y2 y3
      unfold slices_Index_int_int.l0
      repeat' first
      | (with_reducible exact ih0 _ _ _ _)
      | (with_reducible exact LeO.refl _)
      | (with_reducible exact LeO.none _)
      | (with_reducible refine LeO.ite ?_ ?_)
      | (with_reducible refine LeO.bind ?_ (fun _ => ?_))
      | exact ih0 _ _ _ _
      | exact LeO.none _
      | refine LeO.ite ?_ ?_
      | refine LeO.bind ?_ (fun _ => ?_)
theorem slices_Index_int_int.mono : ∀ a0 a1 k, LeO (slices_Index_int_int.f k a0 a1) (slices_Index_int_int.f (k + 1) a0 a1) := by
  intro a0 a1 k
  have ih0 := slices_Index_int_int.mono_l k
  unfold slices_Index_int_int.f
  repeat' first
      | (with_reducible exact ih0 _ _ _ _)
      | (with_reducible exact LeO.refl _)
      | (with_reducible exact LeO.none _)
      | (with_reducible refine LeO.ite ?_ ?_)
      | (with_reducible refine LeO.bind ?_ (fun _ => ?_))
      | exact ih0 _ _ _ _
      | exact LeO.none _
      | refine LeO.ite ?_ ?_
      | refine LeO.bind ?_ (fun _ => ?_)
set_option maxHeartbeats 8000000 in
set_option maxRecDepth 100000 in
theorem slices_Index_int_int.calls (k : Nat) (A0 : Option Addr) (c0 : Nat) (l0 : List Int) (a1 : Int) (r : Int) (w : World) (hr0 : Kd.C (Kd.int .i64) w A0 l0.length l0) (hc0 : l0.length ≤ c0) (h : slices_Index_int_int.f k l0 a1 = some r) :
    Calls Try.prog 49 #[.slice A0 l0.length c0, .int .i64 a1] w fun e w' => e = .returned (.int .i64 r) ∧ Drawn0 w w' := by
  have HR0 := Aside0.mk hr0
  have HC0 := Aside0.mk hc0
  clear hr0 hc0
  have H : (slices_Index_int_int.l0 k l0 a1 (l0.length : Int) 0) = some r := h
  clear h
  have H' := Aside0.mk H
  clear H
  go_enter Try.func49, Try.ntmps49
  go_wp2
  go_loopg [8] k (fun kq v8 w' => ∃ (x8_1 : Int), v8 = .int .i64 x8_1 ∧ Aside0 (slices_Index_int_int.l0 kq l0 a1 (l0.length : Int) x8_1 = some r) ∧ Aside0 (kq ≤ k) ∧ Drawn0 w w')
  case atStart => exact ⟨(0), (by first | rfl | (simp; done) | (simp [*]; done)), H', ⟨Nat.le_refl _⟩, by repeat (first | exact Drawn0.refl _ | apply Drawn0.step)⟩
  case round =>
    clear H'
    try clear p2
    obtain ⟨x8_1, rfl, HA, HK1, ⟨m1, rfl⟩⟩ := hrel
    cases gk with
    | zero => exact absurd HA.out (by simp [slices_Index_int_int.l0])
    | succ k1 =>
      have H := HA.out
      clear HA
      simp only [slices_Index_int_int.l0] at H
      by_cases c3 : x8_1 < (l0.length : Int)
      · rw [if_pos c3] at H
        have c3b0 : decide (x8_1 < (l0.length : Int)) = true := decide_eq_true c3
        clear c3
        by_cases c4 : 0 ≤ x8_1
        · rw [if_pos c4] at H
          have c4b0 : decide (0 ≤ x8_1) = true := decide_eq_true c4
          clear c4
          by_cases c5 : x8_1 < (l0.length : Int)
          · rw [if_pos c5] at H
            have c5b0 : decide (x8_1 < (l0.length : Int)) = true := decide_eq_true c5
            clear c5
            by_cases c6 : a1 = (rd l0 x8_1)
            · rw [if_pos c6] at H
              have c6b0 : (a1 == (rd l0 x8_1)) = true := beq_iff_eq.mpr c6
              have c6b1 : (a1 != (rd l0 x8_1)) = false := bne_eq_false_iff_eq.mpr c6
              clear c6
              obtain rfl := Option.some.inj H
              have p180 : 0 ≤ (x8_1 : Int) := of_decide_eq_true (by first | (with_reducible assumption) | assumption)
              have q180 : x8_1 < (l0.length : Int) := of_decide_eq_true (by first | (with_reducible assumption) | assumption)
              obtain ⟨ad180, e180, hx180_0⟩ := Kd.at_int HR0.out x8_1 p180 q180
              cases e180
              replace p180 := eq_true p180
              replace q180 := eq_true q180
              go_wp2
              go_ret
              exact ⟨by first | rfl | (simp; done) | (simp [*]; done), by repeat (first | exact Drawn0.refl _ | apply Drawn0.step)⟩
            · rw [if_neg c6] at H
              have c6b0 : (a1 == (rd l0 x8_1)) = false := beq_eq_false_iff_ne.mpr c6
              have c6b1 : (a1 != (rd l0 x8_1)) = true := bne_iff_ne.mpr c6
              have H' := Aside0.mk H
              clear H
              have p180 : 0 ≤ (x8_1 : Int) := of_decide_eq_true (by first | (with_reducible assumption) | assumption)
              have q180 : x8_1 < (l0.length : Int) := of_decide_eq_true (by first | (with_reducible assumption) | assumption)
              obtain ⟨ad180, e180, hx180_0⟩ := Kd.at_int HR0.out x8_1 p180 q180
              cases e180
              replace p180 := eq_true p180
              replace q180 := eq_true q180
              go_wp2
              go_roundg k1
              case measure => have := HK1.out; omega
              case rel => exact ⟨(wrap64 (x8_1 + 1)), (by first | rfl | (simp; done) | (simp [*]; done)), H', ⟨by have := HK1.out; omega⟩, by repeat (first | exact Drawn0.refl _ | apply Drawn0.step)⟩
          · rw [if_neg c5] at H
            exact absurd H (by simp)
        · rw [if_neg c4] at H
          exact absurd H (by simp)
      · rw [if_neg c3] at H
        have c3b0 : decide (x8_1 < (l0.length : Int)) = false := decide_eq_false c3
        clear c3
        obtain rfl := Option.some.inj H
        go_wp2
        go_ret
        exact ⟨by first | rfl | (simp; done) | (simp [*]; done), by repeat (first | exact Drawn0.refl _ | apply Drawn0.step)⟩

/-! ### impl_walker_mark: function 41 -/
def St (w0 W : World) (g : Nat) (o : Bool) (i : Int) (v : Value) (d : List Int) : Prop := W.heap[g]? = some (.cells #[.bool o, .int .i64 i, v] 66 (0, 0)) ∧ w0.heap.size ≤ g ∧ Kd.R (Kd.int .i64) 3 W w0.heap.size (fun _ => True) v d ∧ Below w0.heap.size w0 W
theorem St.below {w0 W W1 : World} {g : Nat} {o : Bool} {i : Int} {v : Value} {d : List Int} (h : St w0 W g o i v d) (hb : Below W.heap.size W W1) : St w0 W1 g o i v d :=
  ⟨(hb.block g (blk_lt h.1)).trans h.1, h.2.1, Kd.R_below h.2.2.1 hb, below_step h.2.2.2 hb⟩
theorem St.drewN {w0 W : World} {g : Nat} {o : Bool} {i : Int} {v : Value} {d : List Int} (h : St w0 W g o i v d) (n : Nat) : St w0 (W.drewN n) g o i v d := h.below (pw_below_drewN (Below.refl _ _) n)
theorem St.drew {w0 W : World} {g : Nat} {o : Bool} {i : Int} {v : Value} {d : List Int} (h : St w0 W g o i v d) : St w0 W.drew g o i v d := h.below (below_drew1 (Below.refl _ _))
theorem St.alloc {w0 W : World} {g : Nat} {o : Bool} {i : Int} {v : Value} {d : List Int} (h : St w0 W g o i v d) (x : Obj) : St w0 (W.alloc x) g o i v d := h.below (below_alloc (Below.refl _ _) x)
theorem St.off {w0 W : World} {g : Nat} {o : Bool} {i : Int} {v : Value} {d : List Int} (h : St w0 W g o i v d) : Kd.R (Kd.int .i64) 3 W w0.heap.size (fun k => True ∧ k ≠ g) v d := Kd.R_types h.2.2.1 h.1 (by decide)
theorem St.set0 {w0 W : World} {g : Nat} {o : Bool} {i : Int} {v : Value} {d : List Int} (h : St w0 W g o i v d) (x : Bool) : St w0 (W.setCell ⟨g, 0, none⟩ (.bool x)) g x i v d :=
  ⟨by simpa using blk_set h.1 0 (.bool x), h.2.1, Kd.R_mono (Kd.R_far (p := ⟨g, 0, none⟩) h.off (fun _ hk => hk.2) _) (fun _ _ => trivial), below_set h.2.2.2 h.2.1⟩
theorem St.set1 {w0 W : World} {g : Nat} {o : Bool} {i : Int} {v : Value} {d : List Int} (h : St w0 W g o i v d) (x : Int) : St w0 (W.setCell ⟨g, 1, none⟩ (.int .i64 x)) g o x v d :=
  ⟨by simpa using blk_set h.1 1 (.int .i64 x), h.2.1, Kd.R_mono (Kd.R_far (p := ⟨g, 1, none⟩) h.off (fun _ hk => hk.2) _) (fun _ _ => trivial), below_set h.2.2.2 h.2.1⟩
/-- A new row for the walker's dels: made apart from its own block, then stored. -/
theorem St.set2 {w0 W : World} {g : Nat} {o : Bool} {i : Int} {v : Value} (h0 : W.heap[g]? = some (.cells #[.bool o, .int .i64 i, v] 66 (0, 0))) (hg : w0.heap.size ≤ g) (hb : Below w0.heap.size w0 W) {v' : Value} {d' : List Int} (h : Kd.R (Kd.int .i64) 3 W w0.heap.size (fun _ => True) v' d') : St w0 (W.setCell ⟨g, 2, none⟩ v') g o i v' d' :=
  ⟨by simpa using blk_set h0 2 v', hg, Kd.R_mono (Kd.R_far (p := ⟨g, 2, none⟩) (Kd.R_types h h0 (by decide)) (fun _ hk => hk.2) _) (fun _ _ => trivial), below_set hb hg⟩
/-- slices.Delete of one element of a row of the call's own. -/
theorem del_row {W : World} {base g c q j : Nat} {d : List Int} (h : Kd.R (Kd.int .i64) 3 W base (fun _ => True) (.slice (some ⟨g, 0, none⟩) d.length c) d) (hj : j < d.length) :
    Kd.R (Kd.int .i64) 3 ((W.drewN q).setCells g 0 (((d.take d.length).take j ++ (d.take d.length).drop (j + 1) ++ List.replicate (j + 1 - j) 0).map (Value.int .i64))) base (fun _ => True) (.slice (some ⟨g, 0, none⟩) (d.eraseIdx j).length c) (d.eraseIdx j) ∧
    W.grownBy ((W.drewN q).setCells g 0 (((d.take d.length).take j ++ (d.take d.length).drop (j + 1) ++ List.replicate (j + 1 - j) 0).map (Value.int .i64))) (some g) := by
  rw [List.take_length]
  have hl : (d.eraseIdx j).length = d.length - 1 := List.length_eraseIdx_of_lt hj
  obtain ⟨vs, hvs⟩ : ∃ vs, (d.take j ++ d.drop (j + 1) ++ List.replicate (j + 1 - j) 0).map (Value.int .i64) = vs := ⟨_, rfl⟩
  have hvl : vs.length = d.length := by
    rw [← hvs]
    simp only [List.length_map, List.length_append, List.length_take, List.length_drop, List.length_replicate]
    omega
  have hvt : vs.take (d.length - 1) = (d.eraseIdx j).map (Value.int .i64) := by
    rw [← hvs, ← List.map_take, List.take_append_of_le_length (by simp only [List.length_append, List.length_take, List.length_drop]; omega), List.take_of_length_le (by simp only [List.length_append, List.length_take, List.length_drop]; omega), List.eraseIdx_eq_take_drop_succ]
  rw [hvs]
  obtain ⟨h1, h2⟩ := Kd.own_of_R h
  rcases h2 with ⟨h2, _⟩ | ⟨g', cap, cur, he, hb, hh, hnc, hcm, hcs, ht⟩
  · cases h2
  · cases he
    rw [Nat.mul_one] at hcs ht
    obtain ⟨cur', h3, h4, h5⟩ := setCells_row vs 0 (W.drewN q) cur hh (by omega)
    have hs := setCells_same g vs 0 (W.drewN q)
    refine ⟨Kd.R_of_own ⟨by simp [encs], .inr ⟨g, c, cur', rfl, hb, h3, by omega, hcm, by omega, ?_⟩⟩ (fun _ _ => trivial), ⟨hs.1, hs.2.1, hs.2.2.1, by rw [hs.2.2.2]; exact Nat.le_refl _, fun k _ hk => setCells_far vs 0 k (fun e => hk (by rw [e]))⟩⟩
    rw [h5, List.take_zero, List.nil_append, Nat.mul_one, hl, List.take_append_of_le_length (by omega), hvt]
    rfl
theorem row_cap {W : World} {base c : Nat} {a : Addr} {d : List Int} (h : Kd.R (Kd.int .i64) 3 W base (fun _ => True) (.slice (some a) d.length c) d) : c ≤ 9223372036854775807 := by
  obtain ⟨_, h2⟩ := Kd.own_of_R h
  rcases h2 with ⟨h2, _⟩ | ⟨g', cap, cur, he, hb, hh, hnc, hcm, _⟩
  · cases h2
  · cases he
    exact hcm
def impl_walker_mark.f (k : Nat) (o : Bool) (i : Int) (d : List Int) (kind ver : Int) : Option (Bool × Bool × Int × List Int) :=
  (slices_Index_int_int.f k d ver).bind fun at_ =>
  if kind = 2 then (if o = true then some (false, o, i, d) else some (true, true, ver, d)) else
  if kind = 3 then (if o = true then (if i = ver then some (true, false, i, d) else some (false, o, i, d)) else some (false, o, i, d)) else
  if kind = 4 then (if 0 ≤ at_ then some (false, o, i, d) else some (true, o, i, d ++ [ver])) else
  if kind = 5 then (if at_ < 0 then some (false, o, i, d) else if at_.toNat < d.length then some (true, o, i, d.eraseIdx at_.toNat) else none) else
  if kind = 1 then some (o, o, i, d) else some (false, o, i, d)
theorem impl_walker_mark.mono : ∀ o i d kind ver k, LeO (impl_walker_mark.f k o i d kind ver) (impl_walker_mark.f (k + 1) o i d kind ver) := by
  intro o i d kind ver k
  unfold impl_walker_mark.f
  exact LeO.bind (slices_Index_int_int.mono d ver k) (fun _ => LeO.refl _)
theorem impl_walker_mark.info : (Try.prog.info? 3).map (fun i => (i.zero, i.size, i.bytes)) = some (some (.int .i64 0), 1, 8) := by kernel_rfl
set_option maxHeartbeats 8000000 in
set_option maxRecDepth 100000 in
theorem impl_walker_mark.calls (k : Nat) (g : Nat) (o : Bool) (i : Int) (v : Value) (d : List Int) (kind ver : Int) (line : ByteArray) (r o' : Bool) (i' : Int) (d' : List Int) (w0 w : World) (hS : St w0 w g o i v d) (hl : d.length < 4000000) (h : impl_walker_mark.f k o i d kind ver = some (r, o', i', d')) :
    Calls Try.prog 41 #[.pointer (some ⟨g, 0, none⟩), .agg #[.int .i64 kind, .int .i64 ver, .string line]] w fun e w' => ∃ v', e = .returned (.bool r) ∧ St w0 w' g o' i' v' d' ∧ KeepBut w w' g v.ownBlock := by
  unfold impl_walker_mark.f at h
  replace h := Option.bind_eq_some_iff.mp h
  obtain ⟨at_, ha, h⟩ := h
  obtain ⟨A, c, rfl, hdc, hD⟩ := Kd.R_reads hS.2.2.1
  have HA := Aside0.mk ha
  have HD := Aside0.mk hD
  have HC := Aside0.mk hdc
  have HS := Aside0.mk hS
  clear ha hD hdc hS
  go_enter Try.func41, Try.ntmps41
  go_upto_region 1 with (fail)
  have hbk : (w.alloc (.cells #[.int .i64 kind, .int .i64 ver, .string line] 61)).heap[w.heap.size]? = some (.cells #[.int .i64 kind, .int .i64 ver, .string line] 61 (0, 0)) := heap_alloc_new w _
  have hbw : Below w.heap.size w (w.alloc (.cells #[.int .i64 kind, .int .i64 ver, .string line] 61)) := below_alloc (Below.refl _ _) _
  generalize w.alloc (.cells #[.int .i64 kind, .int .i64 ver, .string line] 61) = w5 at hbk hbw ⊢
  have HS5 := Aside0.mk (HS.out.below hbw)
  have HD5 := Aside0.mk (Kd.C_below HD.out hbw)
  have HK5 := Aside0.mk (KeepBut.of_below hbw g (Value.slice A d.length c).ownBlock)
  generalize w.heap.size = gb at hbk ⊢
  have k0 : w5.cell? ⟨gb, 0, none⟩ = some (.int .i64 kind) := (blk_cell hbk 0).trans rfl
  have k1 : w5.cell? ⟨gb, 1, none⟩ = some (.int .i64 ver) := (blk_cell hbk 1).trans rfl
  have g0 : w5.cell? ⟨g, 0, none⟩ = some (.bool o) := (blk_cell HS5.out.1 0).trans rfl
  have g1 : w5.cell? ⟨g, 1, none⟩ = some (.int .i64 i) := (blk_cell HS5.out.1 1).trans rfl
  have g2 : w5.cell? ⟨g, 2, none⟩ = some (.slice A d.length c) := (blk_cell HS5.out.1 2).trans rfl
  have f0 : w5.frozen? ⟨g, 0, none⟩ = false := blk_frozen HS5.out.1 0
  have f1 : w5.frozen? ⟨g, 1, none⟩ = false := blk_frozen HS5.out.1 1
  have f2 : w5.frozen? ⟨g, 2, none⟩ = false := blk_frozen HS5.out.1 2
  clear hbw HS HD
  go_quiet (first | (go_at_call 49; (try simp only [i64_w]); (with_reducible refine (slices_Index_int_int.calls k _ _ d ver at_ _ ?side1 ?side2 HA.out).mono ?_); (case side1 => exact HD5.out); (case side2 => exact HC.out); rintro e w' ⟨rfl, ⟨nd, rfl⟩⟩; (try first | exact ⟨rfl, _, World.drewN_drewN _ _ _⟩)))
  have HS6 := Aside0.mk (HS5.out.below (pw_below_drewN (Below.refl _ _) nq))
  have HD6 : Aside0 (Kd.C (Kd.int .i64) (w5.drewN nq) A d.length d) := ⟨HD5.out⟩
  have HK6 := Aside0.mk (HK5.out.trans (KeepBut.of_below (pw_below_drewN (Below.refl w5.heap.size w5) nq) g (Value.slice A d.length c).ownBlock) (.inl rfl))
  replace hbk : (w5.drewN nq).heap[gb]? = some (.cells #[.int .i64 kind, .int .i64 ver, .string line] 61 (0, 0)) := hbk
  clear k0 k1 g0 g1 g2 f0 f1 f2 HS5 HD5 HK5
  generalize w5.drewN nq = w6 at HS6 HD6 HK6 hbk ⊢
  have k0 : w6.cell? ⟨gb, 0, none⟩ = some (.int .i64 kind) := (blk_cell hbk 0).trans rfl
  have k1 : w6.cell? ⟨gb, 1, none⟩ = some (.int .i64 ver) := (blk_cell hbk 1).trans rfl
  have g0 : w6.cell? ⟨g, 0, none⟩ = some (.bool o) := (blk_cell HS6.out.1 0).trans rfl
  have g1 : w6.cell? ⟨g, 1, none⟩ = some (.int .i64 i) := (blk_cell HS6.out.1 1).trans rfl
  have g2 : w6.cell? ⟨g, 2, none⟩ = some (.slice A d.length c) := (blk_cell HS6.out.1 2).trans rfl
  have f0 : w6.frozen? ⟨g, 0, none⟩ = false := blk_frozen HS6.out.1 0
  have f1 : w6.frozen? ⟨g, 1, none⟩ = false := blk_frozen HS6.out.1 1
  have f2 : w6.frozen? ⟨g, 2, none⟩ = false := blk_frozen HS6.out.1 2
  by_cases h2 : kind = 2
  · subst h2
    rw [if_pos rfl] at h
    cases o with
    | true =>
      rw [if_pos rfl] at h
      simp only [Option.some.injEq, Prod.mk.injEq] at h
      obtain ⟨rfl, rfl, rfl, rfl⟩ := h
      go_wp2
      go_ret
      exact ⟨_, rfl, by (with_reducible repeat (first | exact HS6.out | apply St.drewN | apply St.drew | apply St.set0 | apply St.set1)), by (with_reducible repeat (first | exact HK6.out | apply KeepBut.set_ | apply keep_drewN | apply keep_drew | apply keep_alloc))⟩
    | false =>
      rw [if_neg (by decide)] at h
      simp only [Option.some.injEq, Prod.mk.injEq] at h
      obtain ⟨rfl, rfl, rfl, rfl⟩ := h
      go_upto_region 7 with (fail)
      go_region
      go_wp2
      go_ret
      exact ⟨_, rfl, by (with_reducible repeat (first | exact HS6.out | apply St.drewN | apply St.drew | apply St.set0 | apply St.set1)), by (with_reducible repeat (first | exact HK6.out | apply KeepBut.set_ | apply keep_drewN | apply keep_drew | apply keep_alloc))⟩
  rw [if_neg h2] at h
  have e2 : (kind == 2) = false := by simpa using h2
  by_cases h3 : kind = 3
  · subst h3
    rw [if_pos rfl] at h
    cases o with
    | true =>
      rw [if_pos rfl] at h
      by_cases hi : i = ver
      · rw [if_pos hi] at h
        subst hi
        simp only [Option.some.injEq, Prod.mk.injEq] at h
        obtain ⟨rfl, rfl, rfl, rfl⟩ := h
        go_upto_region 9 with (fail)
        go_quiet (fail)
        go_wp2
        go_ret
        exact ⟨_, rfl, by (with_reducible repeat (first | exact HS6.out | apply St.drewN | apply St.drew | apply St.set0 | apply St.set1)), by (with_reducible repeat (first | exact HK6.out | apply KeepBut.set_ | apply keep_drewN | apply keep_drew | apply keep_alloc))⟩
      · rw [if_neg hi] at h
        have ei : (i != ver) = true := by simpa using hi
        simp only [Option.some.injEq, Prod.mk.injEq] at h
        obtain ⟨rfl, rfl, rfl, rfl⟩ := h
        go_upto_region 9 with (fail)
        go_quiet (fail)
        go_wp2
        go_ret
        exact ⟨_, rfl, by (with_reducible repeat (first | exact HS6.out | apply St.drewN | apply St.drew | apply St.set0 | apply St.set1)), by (with_reducible repeat (first | exact HK6.out | apply KeepBut.set_ | apply keep_drewN | apply keep_drew | apply keep_alloc))⟩
    | false =>
      rw [if_neg (by decide)] at h
      simp only [Option.some.injEq, Prod.mk.injEq] at h
      obtain ⟨rfl, rfl, rfl, rfl⟩ := h
      go_upto_region 9 with (fail)
      go_quiet (fail)
      go_wp2
      go_ret
      exact ⟨_, rfl, by (with_reducible repeat (first | exact HS6.out | apply St.drewN | apply St.drew | apply St.set0 | apply St.set1)), by (with_reducible repeat (first | exact HK6.out | apply KeepBut.set_ | apply keep_drewN | apply keep_drew | apply keep_alloc))⟩
  rw [if_neg h3] at h
  have e3 : (kind == 3) = false := by simpa using h3
  by_cases h4 : kind = 4
  · subst h4
    rw [if_pos rfl] at h
    by_cases h0 : 0 ≤ at_
    · rw [if_pos h0] at h
      have e0 : decide (at_ ≥ 0) = true := by simpa using h0
      simp only [Option.some.injEq, Prod.mk.injEq] at h
      obtain ⟨rfl, rfl, rfl, rfl⟩ := h
      go_wp2
      go_ret
      exact ⟨_, rfl, by (with_reducible repeat (first | exact HS6.out | apply St.drewN | apply St.drew | apply St.set0 | apply St.set1)), by (with_reducible repeat (first | exact HK6.out | apply KeepBut.set_ | apply keep_drewN | apply keep_drew | apply keep_alloc))⟩
    · rw [if_neg h0] at h
      have e0 : decide (at_ ≥ 0) = false := by simpa using h0
      simp only [Option.some.injEq, Prod.mk.injEq] at h
      obtain ⟨rfl, rfl, rfl, rfl⟩ := h
      go_upto_region 15 with (fail)
      have a2 : (w6.alloc (.cells #[.int .i64 ver] 3)).cell? ⟨g, 2, none⟩ = some (.slice A d.length c) := ((below_alloc (Below.refl w6.heap.size w6) _).cell (World.block_lt_of_cell? w6 _ g2)).trans g2
      go_region_law (refine Kd.R_append_step (W := w6.drew) (Kd.int .i64) (w0 := w0) w0.heap.size rfl (.tmp 56) (.tmp 59) 25 3 (.int .i64 0) 8 rfl Try.underlying25 impl_walker_mark.info rfl (by decide) (by omega) (.slice A d.length c) d ver [.int .i64 ver] (fun _ => True) (fun _ => False) rfl rfl ?aP (fun _ hk => hk.elim) ?aF ?aO ?aB ?aS ?aL ?_; (case aP => exact rfl); (case aB => exact (by repeat (first | (with_reducible first | exact HS6.out.2.2.2 | apply below_alloc | apply pw_below_drewN | apply below_drew1) | exact HS6.out.2.2.2))); (case aF => exact (fun _ _ => trivial)); (case aO => exact (by (with_reducible repeat (first | apply Kd.R_alloc | apply Kd.R_drewN | apply Kd.R_drew)); exact HS6.out.2.2.1)); (case aS => exact (below_size (by repeat (first | (with_reducible first | exact HS6.out.2.2.2 | apply below_alloc | apply pw_below_drewN | apply below_drew1) | exact HS6.out.2.2.2)))); (case aL => omega); intro v7 w7 ho hb hg hat; obtain ⟨A7, cp7, rfl⟩ := Kd.R_slice ho; have b7 := blk_grown (o := .cells #[.bool o, .int .i64 i, .slice A d.length c] 66 (0, 0)) (by exact HS6.out.1) hg (Kd.R_ne HS6.out.2.2.1 HS6.out.1 (by decide)); have hk7 := Aside0.mk (KeepBut.of_grown hg g); have c7 := (blk_cell b7 2); have f7 := blk_frozen b7 2; have B7 := Aside0.mk b7; have O7 := Aside0.mk ho; have HB7 := Aside0.mk hb; clear b7 ho hb hg hat)
      all_goals
        go_wp2
        go_ret
        have hs7 := St.set2 B7.out HS6.out.2.1 HB7.out O7.out
        have hk8 := KeepBut.set_ (HK6.out.trans hk7.out (.inl rfl)) 2 (.slice A7 (d ++ [ver]).length cp7)
        simp only [List.length_append, List.length_cons, List.length_nil, Nat.zero_add] at hs7 hk8
        first | exact ⟨_, rfl, hs7, hk8⟩ | exact ⟨rfl, ⟨_, hs7⟩, hk8⟩ | exact ⟨_, hs7, hk8⟩ | exact ⟨⟨_, hs7⟩, hk8⟩
  rw [if_neg h4] at h
  have e4 : (kind == 4) = false := by simpa using h4
  by_cases h5 : kind = 5
  · subst h5
    rw [if_pos rfl] at h
    by_cases h0 : at_ < 0
    · rw [if_pos h0] at h
      have e0 : decide (at_ < 0) = true := by simpa using h0
      simp only [Option.some.injEq, Prod.mk.injEq] at h
      obtain ⟨rfl, rfl, rfl, rfl⟩ := h
      go_wp2
      go_ret
      exact ⟨_, rfl, by (with_reducible repeat (first | exact HS6.out | apply St.drewN | apply St.drew | apply St.set0 | apply St.set1)), by (with_reducible repeat (first | exact HK6.out | apply KeepBut.set_ | apply keep_drewN | apply keep_drew | apply keep_alloc))⟩
    · rw [if_neg h0] at h
      have e0 : decide (at_ < 0) = false := by simpa using h0
      by_cases h6 : at_.toNat < d.length
      case neg => rw [if_neg h6] at h; exact absurd h (by simp)
      rw [if_pos h6] at h
      simp only [Option.some.injEq, Prod.mk.injEq] at h
      obtain ⟨rfl, rfl, rfl, rfl⟩ := h
      obtain ⟨j, rfl⟩ := Int.eq_ofNat_of_zero_le (show 0 ≤ at_ by omega)
      rw [Int.toNat_natCast] at h6
      obtain ⟨gd, cq, ed, hgd, _, _⟩ := Kd.R_form HS6.out.2.2.1 (by omega)
      cases ed
      have hw0 : wrap64 ((j : Int) + 1) = (j : Int) + 1 := by unfold wrap64; omega
      have HW1 : Aside0 ((j : Int) + 1 = ((j + 1 : Nat) : Int)) := ⟨by omega⟩
      have hcc := fun i (hi : i < d.length) => Kd.R_cell (0 : Int) HS6.out.2.2.1 (i : Int) (by omega) (by omega)
      have HCC := Aside0.mk hcc
      clear hcc
      have hle : d.length - (j + 1 - j) = (d.eraseIdx j).length := by rw [List.length_eraseIdx_of_lt h6]; omega
      go_wp2_with (first | (go_at_call 50; rw [HW1.out]; (with_reducible refine (Try.slices_Delete_int_cells gd 0 d.length c j (j + 1) d _ ?side1 ?side2 ?side3 ?side4 ?side5 ?side6 ?side7).mono ?_); (case side1 => exact Nat.le_refl _); (case side2 => exact HC.out); (case side3 => exact row_cap HS6.out.2.2.1); (case side4 => omega); (case side5 => exact h6); (case side6 => intro i hi; have := (HCC.out i hi).1; simpa [rdOf] using this); (case side7 => intro i hi; have := (HCC.out i hi).2; simpa using this); rintro e w7 ⟨rfl, q, rfl⟩; rw [hle]; obtain ⟨ho, hg⟩ := del_row (q := q) HS6.out.2.2.1 h6; have b7 := blk_grown HS6.out.1 hg (Kd.R_ne HS6.out.2.2.1 HS6.out.1 (by decide)); have hk7 := Aside0.mk (KeepBut.of_grown hg g); have hb7 := pw_below_grown HS6.out.2.2.2 (some gd) (below_size HS6.out.2.2.2) hg (by intro k e; cases e; exact hgd); generalize ((w6.drewN q).setCells gd 0 (((d.take d.length).take j ++ (d.take d.length).drop (j + 1) ++ List.replicate (j + 1 - j) 0).map (Value.int .i64))) = w7 at ho hg b7 hk7 hb7 ⊢; have c7 := (blk_cell b7 2); have f7 := blk_frozen b7 2; have B7 := Aside0.mk b7; have O7 := Aside0.mk ho; have HB7 := Aside0.mk hb7; clear b7 ho hb7 hg))
      go_ret
      exact ⟨_, rfl, St.set2 B7.out HS6.out.2.1 HB7.out O7.out, KeepBut.set_ (HK6.out.trans hk7.out (.inl rfl)) 2 _⟩
  rw [if_neg h5] at h
  have e5 : (kind == 5) = false := by simpa using h5
  by_cases h1 : kind = 1
  · subst h1
    rw [if_pos rfl] at h
    simp only [Option.some.injEq, Prod.mk.injEq] at h
    obtain ⟨rfl, rfl, rfl, rfl⟩ := h
    go_wp2
    go_ret
    exact ⟨_, rfl, by (with_reducible repeat (first | exact HS6.out | apply St.drewN | apply St.drew | apply St.set0 | apply St.set1)), by (with_reducible repeat (first | exact HK6.out | apply KeepBut.set_ | apply keep_drewN | apply keep_drew | apply keep_alloc))⟩
  · rw [if_neg h1] at h
    have e1 : (kind == 1) = false := by simpa using h1
    simp only [Option.some.injEq, Prod.mk.injEq] at h
    obtain ⟨rfl, rfl, rfl, rfl⟩ := h
    go_wp2
    go_ret
    exact ⟨_, rfl, by (with_reducible repeat (first | exact HS6.out | apply St.drewN | apply St.drew | apply St.set0 | apply St.set1)), by (with_reducible repeat (first | exact HK6.out | apply KeepBut.set_ | apply keep_drewN | apply keep_drew | apply keep_alloc))⟩

/-! ### slices_Contains_int_int: function 51 -/
def slices_Contains_int_int.f (k : Nat) (l0 : List Int) (a1 : Int) : Option (Bool) := (slices_Index_int_int.f k l0 a1).bind fun t181 => (some (decide (t181 ≥ 0)))
theorem slices_Contains_int_int.mono : ∀ a0 a1 k, LeO (slices_Contains_int_int.f k a0 a1) (slices_Contains_int_int.f (k + 1) a0 a1) := by
  intro a0 a1 k
  unfold slices_Contains_int_int.f
  repeat' first
      | (with_reducible exact slices_Index_int_int.mono _ _ _)
      | (with_reducible exact LeO.refl _)
      | (with_reducible exact LeO.none _)
      | (with_reducible refine LeO.ite ?_ ?_)
      | (with_reducible refine LeO.bind ?_ (fun _ => ?_))
      | exact slices_Index_int_int.mono _ _ _
      | exact LeO.none _
      | refine LeO.ite ?_ ?_
      | refine LeO.bind ?_ (fun _ => ?_)
set_option maxHeartbeats 8000000 in
set_option maxRecDepth 100000 in
theorem slices_Contains_int_int.calls (k : Nat) (A0 : Option Addr) (c0 : Nat) (l0 : List Int) (a1 : Int) (r : Bool) (w : World) (hr0 : Kd.C (Kd.int .i64) w A0 l0.length l0) (hc0 : l0.length ≤ c0) (h : slices_Contains_int_int.f k l0 a1 = some r) :
    Calls Try.prog 51 #[.slice A0 l0.length c0, .int .i64 a1] w fun e w' => e = .returned (.bool r) ∧ Drawn0 w w' := by
  have HR0 := Aside0.mk hr0
  have HC0 := Aside0.mk hc0
  clear hr0 hc0
  have H : ((slices_Index_int_int.f k l0 a1).bind fun t181 => (some (decide (t181 ≥ 0)))) = some r := h
  clear h
  replace H := Option.bind_eq_some_iff.mp H
  obtain ⟨t181, A30, H⟩ := H
  replace H : (some (decide (t181 ≥ 0))) = some r := H
  have A3 := Aside0.mk A30
  clear A30
  obtain rfl := Option.some.inj H
  go_enter Try.func51, Try.ntmps51
  go_wp2_with (first | ((with_reducible refine gate_callee (f := 49) rfl ?_); refine goesL_ (some 7) rfl rfl Try.func49 (by kernel_rfl) rfl #[.slice A0 l0.length c0, .int .i64 a1] rfl (by (try simp only [List.map_toArray, List.map_cons, List.map_nil]); first | done | rfl | (simp only [List.length_drop, List.length_take]; rfl)) ?_; (with_reducible refine (slices_Index_int_int.calls k _ _ l0 a1 t181 _ ?side1 ?side2 A3.out).mono ?_); (case side1 => repeat (first | exact HR0.out | (with_reducible refine Kd.C_alloc ?_ _) | (with_reducible refine Kd.C_drewN ?_ _) | (with_reducible refine Kd.C_drew ?_))); (case side2 => exact HC0.out); rintro e w' ⟨rfl, ⟨nd, rfl⟩⟩; refine ⟨_, rfl, ?_⟩))
  go_ret
  exact ⟨by first | rfl | (simp; done) | (simp [*]; done), by repeat (first | exact Drawn0.refl _ | apply Drawn0.step)⟩

/-! ### impl_walker_sees: function 42 -/
def impl_walker_sees.l0 : Nat → List Int → List Int → Int → Option Bool
  | 0, _, _, _ => none
  | k + 1, l1, d, x => if x < (d.length : Int) then (if 0 ≤ x then ((slices_Contains_int_int.f k l1 (rd d x)).bind fun t => (if t = true then some false else impl_walker_sees.l0 k l1 d (wrap64 (x + 1)))) else none) else some true
def impl_walker_sees.f (k : Nat) (i : Int) (d l1 : List Int) : Option Bool := (slices_Contains_int_int.f k l1 i).bind fun t => if t = true then impl_walker_sees.l0 k l1 d 0 else some false
theorem impl_walker_sees.mono_l : ∀ k, ∀ l1 d x, LeO (impl_walker_sees.l0 k l1 d x) (impl_walker_sees.l0 (k + 1) l1 d x)
  | 0 => fun _ _ _ r h => by simp [impl_walker_sees.l0] at h
  | k + 1 => by
    have ih0 := impl_walker_sees.mono_l k
    intro l1 d x
    unfold impl_walker_sees.l0
    repeat' first
      | (with_reducible exact ih0 _ _ _)
      | (with_reducible exact slices_Contains_int_int.mono _ _ _)
      | (with_reducible exact LeO.refl _)
      | (with_reducible exact LeO.none _)
      | (with_reducible refine LeO.ite ?_ ?_)
      | (with_reducible refine LeO.bind ?_ (fun _ => ?_))
theorem impl_walker_sees.mono : ∀ i d l1 k, LeO (impl_walker_sees.f k i d l1) (impl_walker_sees.f (k + 1) i d l1) := by
  intro i d l1 k
  unfold impl_walker_sees.f
  repeat' first
      | (with_reducible exact impl_walker_sees.mono_l k _ _ _)
      | (with_reducible exact slices_Contains_int_int.mono _ _ _)
      | (with_reducible exact LeO.refl _)
      | (with_reducible refine LeO.ite ?_ ?_)
      | (with_reducible refine LeO.bind ?_ (fun _ => ?_))
set_option maxHeartbeats 8000000 in
set_option maxRecDepth 100000 in
theorem impl_walker_sees.calls (k : Nat) (g : Nat) (o : Bool) (i : Int) (A : Option Addr) (c : Nat) (d : List Int) (A1 : Option Addr) (c1 : Nat) (l1 : List Int) (r : Bool) (w : World) (hg : w.heap[g]? = some (.cells #[.bool o, .int .i64 i, .slice A d.length c] 66 (0, 0))) (hd : Kd.C (Kd.int .i64) w A d.length d) (hr1 : Kd.C (Kd.int .i64) w A1 l1.length l1) (hc1 : l1.length ≤ c1) (h : impl_walker_sees.f k i d l1 = some r) :
    Calls Try.prog 42 #[.pointer (some ⟨g, 0, none⟩), .slice A1 l1.length c1] w fun e w' => e = .returned (.bool r) ∧ Drawn0 w w' := by
  unfold impl_walker_sees.f at h
  replace h := Option.bind_eq_some_iff.mp h
  obtain ⟨t, ht, h⟩ := h
  have HT := Aside0.mk ht
  have HG := Aside0.mk hg
  have HD := Aside0.mk hd
  have HR := Aside0.mk hr1
  have HC := Aside0.mk hc1
  have g0 : w.cell? ⟨g, 0, none⟩ = some (.bool o) := (blk_cell hg 0).trans rfl
  have g1 : w.cell? ⟨g, 1, none⟩ = some (.int .i64 i) := (blk_cell hg 1).trans rfl
  have g2 : w.cell? ⟨g, 2, none⟩ = some (.slice A d.length c) := (blk_cell hg 2).trans rfl
  clear ht hg hd hr1 hc1
  cases t with
  | false =>
    rw [if_neg (by decide)] at h
    obtain rfl := Option.some.inj h
    go_enter Try.func42, Try.ntmps42
    go_wp2_with (first | (go_at_call 51; (try simp only [i64_w]); (with_reducible refine (slices_Contains_int_int.calls k _ _ l1 i false _ ?side1 ?side2 HT.out).mono ?_); (case side1 => exact HR.out); (case side2 => exact HC.out); rintro e w' ⟨rfl, ⟨nd, rfl⟩⟩))
    go_ret
    exact ⟨rfl, by repeat (first | exact Drawn0.refl _ | apply Drawn0.step)⟩
  | true =>
    rw [if_pos rfl] at h
    have HH := Aside0.mk h
    clear h
    go_enter Try.func42, Try.ntmps42
    go_wp2_with (first | (go_at_call 51; (try simp only [i64_w]); (with_reducible refine (slices_Contains_int_int.calls k _ _ l1 i true _ ?side1 ?side2 HT.out).mono ?_); (case side1 => exact HR.out); (case side2 => exact HC.out); rintro e w' ⟨rfl, ⟨nd, rfl⟩⟩))
    generalize hw1 : w.drewN nd = w1
    have HB := Aside0.mk (show Drawn0 w w1 from ⟨⟨nd, hw1.symm⟩⟩)
    clear hw1 g0 g1 g2 HT
    go_loopg [19] k (fun kq v19 w' => ∃ (x : Int), v19 = .int .i64 x ∧ Aside0 (impl_walker_sees.l0 kq l1 d x = some r) ∧ Aside0 (kq ≤ k) ∧ Aside0 (Drawn0 w w'))
    case atStart => exact ⟨0, rfl, HH, ⟨Nat.le_refl _⟩, HB⟩
    case round =>
      clear HH HB
      obtain ⟨x, rfl, HA, HK1, HB⟩ := hrel
      cases gk with
      | zero => exact absurd HA.out (by simp [impl_walker_sees.l0])
      | succ k1 =>
        have H := HA.out
        clear HA
        simp only [impl_walker_sees.l0] at H
        have HDW := Aside0.mk (Kd.C_below HD.out HB.out.below)
        have HRW := Aside0.mk (Kd.C_below HR.out HB.out.below)
        by_cases c6 : x < (d.length : Int)
        · rw [if_pos c6] at H
          have c6b : decide (x < (d.length : Int)) = true := decide_eq_true c6
          by_cases c7 : 0 ≤ x
          case neg => rw [if_neg c7] at H; exact absurd H (by simp)
          rw [if_pos c7] at H
          replace H := Option.bind_eq_some_iff.mp H
          obtain ⟨t, ht, H⟩ := H
          have HT := Aside0.mk ht
          obtain ⟨ad, ea, hx⟩ := Kd.at_int HDW.out x c7 c6
          cases ea
          replace c7 := eq_true c7
          replace c6 := eq_true c6
          clear ht
          cases t with
          | true =>
            rw [if_pos rfl] at H
            obtain rfl := Option.some.inj H
            go_wp2_with (first | (go_at_call 51; (try simp only [i64_w]); (with_reducible refine (slices_Contains_int_int.calls k1 _ _ l1 (rd d x) true _ ?side1 ?side2 HT.out).mono ?_); (case side1 => exact HRW.out); (case side2 => exact HC.out); rintro e w' ⟨rfl, ⟨nd, rfl⟩⟩))
            go_ret
            exact ⟨rfl, by repeat (first | exact HB.out | apply Drawn0.step)⟩
          | false =>
            rw [if_neg (by decide)] at H
            have H' := Aside0.mk H
            clear H
            go_wp2_with (first | (go_at_call 51; (try simp only [i64_w]); (with_reducible refine (slices_Contains_int_int.calls k1 _ _ l1 (rd d x) false _ ?side1 ?side2 HT.out).mono ?_); (case side1 => exact HRW.out); (case side2 => exact HC.out); rintro e w' ⟨rfl, ⟨nd, rfl⟩⟩))
            go_roundg k1
            case measure => have := HK1.out; omega
            case rel => exact ⟨(wrap64 (x + 1)), (by first | rfl | (simp; done) | (simp [*]; done)), H', ⟨by have := HK1.out; omega⟩, ⟨by repeat (first | exact HB.out | apply Drawn0.step)⟩⟩
        · rw [if_neg c6] at H
          have c6b : decide (x < (d.length : Int)) = false := decide_eq_false c6
          obtain rfl := Option.some.inj H
          clear c6 H
          go_wp2
          go_ret
          exact ⟨rfl, by repeat (first | exact HB.out | apply Drawn0.step)⟩

/-! ### impl_Walk: function 22 -/
theorem impl_Walk.info : (Try.prog.info? 9).map (fun i => (i.zero, i.size, i.bytes)) = some (some (.string ⟨#[]⟩), 1, 16) := by kernel_rfl
def impl_Walk.l0 : Nat → List S61 → List Int → List ByteArray → Bool → Int → List Int → Int → Option (List ByteArray × Bool)
  | 0, _, _, _, _, _, _, _ => none
  | k + 1, l0, l1, out, o, i, d, x => if x < (l0.length : Int) then (if 0 ≤ x then (if d.length < 4000000 then
      ((impl_walker_mark.f k o i d (rd_T61 l0 x).f0 (rd_T61 l0 x).f1).bind fun m => if m.1 = true then
        (if (rd_T61 l0 x).f0 = 1 then ((impl_walker_sees.f k m.2.2.1 m.2.2.2 l1).bind fun s => if s = true then (if out.length < 8796093022208 then impl_Walk.l0 k l0 l1 (out ++ [(rd_T61 l0 x).f2]) m.2.1 m.2.2.1 m.2.2.2 (wrap64 (x + 1)) else none) else impl_Walk.l0 k l0 l1 out m.2.1 m.2.2.1 m.2.2.2 (wrap64 (x + 1)))
         else impl_Walk.l0 k l0 l1 out m.2.1 m.2.2.1 m.2.2.2 (wrap64 (x + 1)))
      else some ([], false)) else none) else none)
      else (if o = true then some ([], false) else if 0 < d.length then some ([], false) else some (out, true))
def impl_Walk.f (k : Nat) (l0 : List S61) (l1 : List Int) : Option (List ByteArray × Bool) := if (l0.length : Int) > 4000 then some ([], false) else impl_Walk.l0 k l0 l1 [] false 0 [] 0
theorem impl_Walk.mono_l : ∀ k, ∀ l0 l1 out o i d x, LeO (impl_Walk.l0 k l0 l1 out o i d x) (impl_Walk.l0 (k + 1) l0 l1 out o i d x)
  | 0 => fun _ _ _ _ _ _ _ r h => by simp [impl_Walk.l0] at h
  | k + 1 => by
    have ih0 := impl_Walk.mono_l k
    intro l0 l1 out o i d x
    unfold impl_Walk.l0
    repeat' first
      | (with_reducible exact ih0 _ _ _ _ _ _ _)
      | (with_reducible exact impl_walker_mark.mono _ _ _ _ _ _)
      | (with_reducible exact impl_walker_sees.mono _ _ _ _)
      | (with_reducible exact LeO.refl _)
      | (with_reducible exact LeO.none _)
      | (with_reducible refine LeO.ite ?_ ?_)
      | (with_reducible refine LeO.bind ?_ (fun _ => ?_))
theorem impl_Walk.mono : ∀ l0 l1 k, LeO (impl_Walk.f k l0 l1) (impl_Walk.f (k + 1) l0 l1) := by
  intro l0 l1 k
  unfold impl_Walk.f
  repeat' first
      | (with_reducible exact impl_Walk.mono_l k _ _ _ _ _ _ _)
      | (with_reducible exact LeO.refl _)
      | (with_reducible refine LeO.ite ?_ ?_)
/-- A row of texts lives on where the walker and its dels are written. -/
theorem St.other {w0 W W1 : World} {g : Nat} {o : Bool} {i : Int} {v : Value} {d : List Int} {vo : Value} {out : List ByteArray} {base : Nat} (h : St w0 W g o i v d) (hk : KeepBut W W1 g v.ownBlock) (ho : Kd.R Kd.string 9 W base (fun _ => True) vo out) : Kd.R Kd.string 9 W1 base (fun _ => True) vo out := by
  have h1 := Kd.R_bound (Kd.R_types ho h.1 (by decide))
  refine Kd.R_mono (Kd.R_step h1 (fun k hk1 hl => hk.2 k hl hk1.1.2 (fun e => ?_))) (fun _ _ => trivial)
  obtain ⟨_, _, _, q, hq, cells, hc⟩ := hk1
  obtain ⟨inner, hi⟩ := Kd.R_own h.2.2.1
  obtain ⟨cells', hc'⟩ := own_typed hi k e.symm
  rw [hc] at hc'
  injection hc' with hc'
  injection hc' with _ hc'
  subst hc'
  exact absurd hq (by decide)
/-- The walker lives on where a row of texts is written. -/
theorem St.grown {w0 W W1 : World} {g : Nat} {o : Bool} {i : Int} {v : Value} {d : List Int} {vo : Value} {out : List ByteArray} {base : Nat} (h : St w0 W g o i v d) (ho : Kd.R Kd.string 9 W base (fun _ => True) vo out) (hb : w0.heap.size ≤ base) (hg : W.grownBy W1 vo.ownBlock) : St w0 W1 g o i v d := by
  refine ⟨blk_grown h.1 hg (Kd.R_ne ho h.1 (by decide)), h.2.1, Kd.R_over' h.2.2.1 (Kd.R_typed ho) (by decide) hg, pw_below_grown h.2.2.2 _ (below_size h.2.2.2) hg (fun k e => ?_)⟩
  obtain ⟨inner, hi⟩ := Kd.R_own ho
  have := own_base hi k e
  omega
set_option maxHeartbeats 8000000 in
set_option maxRecDepth 100000 in
theorem impl_Walk.calls (k : Nat) (A0 : Option Addr) (c0 : Nat) (l0 : List S61) (A1 : Option Addr) (c1 : Nat) (l1 : List Int) (r1 : List ByteArray) (r2 : Bool) (w : World) (hr0 : Kd.C k61 w A0 l0.length l0) (hc0 : l0.length ≤ c0) (hr1 : Kd.C (Kd.int .i64) w A1 l1.length l1) (hc1 : l1.length ≤ c1) (h : impl_Walk.f k l0 l1 = some (r1, r2)) :
    Calls Try.prog 22 #[.slice A0 l0.length c0, .slice A1 l1.length c1] w fun e w' => ∃ v0_ : Value, e = .returned (.tuple #[v0_, .bool r2]) ∧ Kd.R Kd.string 9 w' w.heap.size (fun _ => True) v0_ r1 ∧ Below w.heap.size w w' := by
  unfold impl_Walk.f at h
  have HR0 := Aside0.mk hr0
  have HC0 := Aside0.mk hc0
  have HR1 := Aside0.mk hr1
  have HC1 := Aside0.mk hc1
  clear hr0 hc0 hr1 hc1
  by_cases c : (l0.length : Int) > 4000
  · rw [if_pos c] at h
    have cb : decide ((l0.length : Int) > 4000) = true := decide_eq_true c
    simp only [Option.some.injEq, Prod.mk.injEq] at h
    obtain ⟨rfl, rfl⟩ := h
    clear c
    go_enter Try.func22, Try.ntmps22
    go_wp2
    go_ret2
    exact ⟨_, rfl, Kd.R_nil _ _ _ _ _, Below.refl _ _⟩
  · rw [if_neg c] at h
    have cb : decide ((l0.length : Int) > 4000) = false := decide_eq_false c
    have HH := Aside0.mk h
    have HL := Aside0.mk c
    clear c h
    go_enter Try.func22, Try.ntmps22
    go_upto_region 5 with (fail)
    have hS : St w (w.alloc (.cells #[.bool false, .int .i64 0, .slice none 0 0] 66)) w.heap.size false 0 (.slice none 0 0) [] := ⟨heap_alloc_new w _, Nat.le_refl _, Kd.R_nil _ _ _ _ _, below_alloc (Below.refl _ _) _⟩
    generalize (w.alloc (.cells #[.bool false, .int .i64 0, .slice none 0 0] 66)) = w5 at hS ⊢
    generalize w.heap.size = g at hS ⊢
    have HS := Aside0.mk hS
    clear hS
    go_wp2
    go_loopg [6, 16] k (fun kq v6 v16 w' => ∃ (out : List ByteArray) (o : Bool) (i : Int) (v : Value) (d : List Int) (x : Int), v16 = .int .i64 x ∧ Aside0 (impl_Walk.l0 kq l0 l1 out o i d x = some (r1, r2)) ∧ Aside0 (kq ≤ k) ∧ Aside0 (Kd.R Kd.string 9 w' w.heap.size (fun _ => True) v6 out) ∧ Aside0 (St w w' g o i v d))
    case atStart => exact ⟨[], false, 0, _, [], 0, rfl, HH, ⟨Nat.le_refl _⟩, ⟨Kd.R_nil _ _ _ _ _⟩, HS⟩
    case round =>
      clear HH HS
      obtain ⟨out, o, i, v, d, x, rfl, HA, HK1, HO, HS⟩ := hrel
      cases gk with
      | zero => exact absurd HA.out (by simp [impl_Walk.l0])
      | succ k1 =>
        have H := HA.out
        clear HA
        simp only [impl_Walk.l0] at H
        by_cases c6 : x < (l0.length : Int)
        · rw [if_pos c6] at H
          have c6b : decide (x < (l0.length : Int)) = true := decide_eq_true c6
          by_cases c7 : 0 ≤ x
          case neg => rw [if_neg c7] at H; exact absurd H (by simp)
          rw [if_pos c7] at H
          by_cases c8 : d.length < 4000000
          case neg => rw [if_neg c8] at H; exact absurd H (by simp)
          rw [if_pos c8] at H
          have HD := Aside0.mk c8
          replace H := Option.bind_eq_some_iff.mp H
          obtain ⟨⟨m, o', i', d'⟩, hm, H⟩ := H
          have HM := Aside0.mk hm
          have HH := Aside0.mk H
          obtain ⟨ad, ea, hx0, hx1, hx2⟩ := at_T61 (Kd.C_below HR0.out HS.out.2.2.2) x c7 c6
          cases ea
          replace c7 := eq_true c7
          replace c6 := eq_true c6
          clear hm H c8
          go_upto_region 8 with (fail)
          have hb6 : (wr.alloc (.cells #[.int .i64 (rd_T61 l0 x).f0, .int .i64 (rd_T61 l0 x).f1, .string (rd_T61 l0 x).f2] 61)).heap[wr.heap.size]? = some (.cells #[.int .i64 (rd_T61 l0 x).f0, .int .i64 (rd_T61 l0 x).f1, .string (rd_T61 l0 x).f2] 61 (0, 0)) := heap_alloc_new wr _
          have HS6 := Aside0.mk (HS.out.alloc (.cells #[.int .i64 (rd_T61 l0 x).f0, .int .i64 (rd_T61 l0 x).f1, .string (rd_T61 l0 x).f2] 61))
          have HO6 := Aside0.mk (Kd.R_alloc HO.out (.cells #[.int .i64 (rd_T61 l0 x).f0, .int .i64 (rd_T61 l0 x).f1, .string (rd_T61 l0 x).f2] 61))
          clear hx0 hx1 hx2 HS HO
          generalize wr.alloc (.cells #[.int .i64 (rd_T61 l0 x).f0, .int .i64 (rd_T61 l0 x).f1, .string (rd_T61 l0 x).f2] 61) = w6 at hb6 HS6 HO6 ⊢
          generalize wr.heap.size = gr at hb6 ⊢
          have k0 : w6.cell? ⟨gr, 0, none⟩ = some (.int .i64 (rd_T61 l0 x).f0) := (blk_cell hb6 0).trans rfl
          have k1' : w6.cell? ⟨gr, 1, none⟩ = some (.int .i64 (rd_T61 l0 x).f1) := (blk_cell hb6 1).trans rfl
          have k2 : w6.cell? ⟨gr, 2, none⟩ = some (.string (rd_T61 l0 x).f2) := (blk_cell hb6 2).trans rfl
          have HB6 := Aside0.mk hb6
          clear hb6
          cases m with
          | false =>
            have H := HH.out
            clear HH
            rw [if_neg (by simp)] at H
            simp only [Option.some.injEq, Prod.mk.injEq] at H
            obtain ⟨rfl, rfl⟩ := H
            go_wp2_with (first | (go_at_call 41; (try simp only [i64_w]); (with_reducible refine (impl_walker_mark.calls k1 g o i v d (rd_T61 l0 x).f0 (rd_T61 l0 x).f1 (rd_T61 l0 x).f2 false o' i' d' w _ ?side1 ?side2 HM.out).mono ?_); (case side1 => exact HS6.out); (case side2 => exact HD.out); rintro e w7 ⟨v', rfl, hs, hk⟩; have HS7 := Aside0.mk hs; clear hs hk))
            go_ret2
            exact ⟨_, rfl, Kd.R_nil _ _ _ _ _, HS7.out.2.2.2⟩
          | true =>
            have H := HH.out
            clear HH
            rw [if_pos rfl] at H
            dsimp only at H
            have HH := Aside0.mk H
            clear H
            go_upto_region 10 with (first | (go_at_call 41; (try simp only [i64_w]); (with_reducible refine (impl_walker_mark.calls k1 g o i v d (rd_T61 l0 x).f0 (rd_T61 l0 x).f1 (rd_T61 l0 x).f2 true o' i' d' w _ ?side1 ?side2 HM.out).mono ?_); (case side1 => exact HS6.out); (case side2 => exact HD.out); rintro e w7 ⟨v', rfl, hs, hk⟩; have HO7 := Aside0.mk (HS6.out.other hk HO6.out); have HB7 := Aside0.mk (hk.blk HB6.out (blk_ne HB6.out HS6.out.1 (by decide)) (Kd.R_ne HS6.out.2.2.1 HB6.out (by decide))); obtain ⟨A', c', rfl, hdc, hD⟩ := Kd.R_reads hs.2.2.1; have HS7 := Aside0.mk hs; have HDC := Aside0.mk hdc; have HD7 := Aside0.mk hD; clear hs hk hdc hD))
            have k0 : w7.cell? ⟨gr, 0, none⟩ = some (.int .i64 (rd_T61 l0 x).f0) := (blk_cell HB7.out 0).trans rfl
            have k2 : w7.cell? ⟨gr, 2, none⟩ = some (.string (rd_T61 l0 x).f2) := (blk_cell HB7.out 2).trans rfl
            by_cases c1k : (rd_T61 l0 x).f0 = 1
            · have H := HH.out
              clear HH
              rw [if_pos c1k] at H
              have ek : ((rd_T61 l0 x).f0 == 1) = true := by simpa using c1k
              replace H := Option.bind_eq_some_iff.mp H
              obtain ⟨s, hs, H⟩ := H
              have HSE := Aside0.mk hs
              have HH := Aside0.mk H
              clear hs H
              have HR17 := Aside0.mk (Kd.C_below HR1.out HS7.out.2.2.2)
              cases s with
              | false =>
                have H := HH.out
                clear HH
                rw [if_neg (by decide)] at H
                have HH := Aside0.mk H
                clear H
                go_wp2_with (first | (go_at_call 42; (try simp only [i64_w]); (with_reducible refine (impl_walker_sees.calls k1 g o' i' A' c' d' A1 c1 l1 false _ ?side1 ?side2 ?side3 ?side4 HSE.out).mono ?_); (case side1 => exact HS7.out.1); (case side2 => exact HD7.out); (case side3 => exact HR17.out); (case side4 => exact HC1.out); rintro e w8 ⟨rfl, ⟨nd, rfl⟩⟩))
                go_roundg k1
                case measure => have := HK1.out; omega
                case rel => exact ⟨out, o', i', _, d', wrap64 (x + 1), (by first | rfl | (simp; done) | (simp [*]; done)), HH, ⟨by have := HK1.out; omega⟩, ⟨by (with_reducible repeat (first | apply Kd.R_alloc | apply Kd.R_drewN | apply Kd.R_drew)); exact HO7.out⟩, ⟨by (with_reducible repeat (first | exact HS7.out | apply St.drewN | apply St.drew | apply St.alloc))⟩⟩
              | true =>
                have H := HH.out
                clear HH
                rw [if_pos rfl] at H
                by_cases c9 : out.length < 8796093022208
                case neg => rw [if_neg c9] at H; exact absurd H (by simp)
                rw [if_pos c9] at H
                have HH := Aside0.mk H
                have HL9 := Aside0.mk c9
                clear H c9
                go_upto_region 11 with (first | (go_at_call 42; (try simp only [i64_w]); (with_reducible refine (impl_walker_sees.calls k1 g o' i' A' c' d' A1 c1 l1 true _ ?side1 ?side2 ?side3 ?side4 HSE.out).mono ?_); (case side1 => exact HS7.out.1); (case side2 => exact HD7.out); (case side3 => exact HR17.out); (case side4 => exact HC1.out); rintro e w8 ⟨rfl, ⟨nd, rfl⟩⟩))
                have HS8 := Aside0.mk (HS7.out.drewN nd)
                have HO8 := Aside0.mk (Kd.R_drewN HO7.out nd)
                replace k2 : (w7.drewN nd).cell? ⟨gr, 2, none⟩ = some (.string (rd_T61 l0 x).f2) := k2
                clear HS7 HO7 HB7 HD7 HR17 k0
                generalize w7.drewN nd = w8 at HS8 HO8 k2 ⊢
                go_wp2_with (first | ((with_reducible refine gate_builtin (b := .append) (xs := #[.tmp 30, .tmp 33]) rfl ?_); at_builtin; refine Kd.R_append Kd.string (w0 := w) w.heap.size rfl (.tmp 30) (.tmp 33) 32 9 (.string ⟨#[]⟩) 16 rfl Try.underlying32 impl_Walk.info rfl (by decide) (by omega) u6 out ((rd_T61 l0 x).f2) [.string ((rd_T61 l0 x).f2)] (fun _ => True) (fun _ => False) rfl rfl ?aP (fun _ hk => hk.elim) ?aF ?aO ?aB ?aS ?aL ?_; (case aP => exact rfl); (case aB => exact (by repeat (first | (with_reducible first | exact HS8.out.2.2.2 | apply below_alloc | apply pw_below_drewN | apply below_drew1) | exact HS8.out.2.2.2))); (case aF => exact (fun _ _ => trivial)); (case aO => exact (by (with_reducible repeat (first | apply Kd.R_alloc | apply Kd.R_drewN | apply Kd.R_drew)); exact HO8.out)); (case aS => exact (below_size (by repeat (first | (with_reducible first | exact HS8.out.2.2.2 | apply below_alloc | apply pw_below_drewN | apply below_drew1) | exact HS8.out.2.2.2)))); (case aL => have := HL9.out; omega); intro v9 w9 ho hb hg hat; obtain ⟨y, hy⟩ : ∃ y, out ++ [(rd_T61 l0 x).f2] = y := ⟨_, rfl⟩; have HY := Aside0.mk hy; have HO9 := Aside0.mk ho; have HS9 := Aside0.mk (HS8.out.grown HO8.out (Nat.le_refl _) hg); clear ho hb hg hat hy))
                go_roundg k1
                case measure => have := HK1.out; omega
                case rel => exact ⟨_, o', i', _, d', wrap64 (x + 1), (by first | rfl | (simp; done) | (simp [*]; done)), HH, ⟨by have := HK1.out; omega⟩, ⟨by (with_reducible repeat (first | apply Kd.R_alloc | apply Kd.R_drewN | apply Kd.R_drew)); exact HO9.out⟩, ⟨by (with_reducible repeat (first | exact HS9.out | apply St.drewN | apply St.drew | apply St.alloc))⟩⟩
            · have H := HH.out
              clear HH
              rw [if_neg c1k] at H
              have ek : ((rd_T61 l0 x).f0 == 1) = false := by simpa using c1k
              have HH := Aside0.mk H
              clear H
              go_wp2
              go_roundg k1
              case measure => have := HK1.out; omega
              case rel => exact ⟨out, o', i', _, d', wrap64 (x + 1), (by first | rfl | (simp; done) | (simp [*]; done)), HH, ⟨by have := HK1.out; omega⟩, ⟨by (with_reducible repeat (first | apply Kd.R_alloc | apply Kd.R_drewN | apply Kd.R_drew)); exact HO7.out⟩, ⟨by (with_reducible repeat (first | exact HS7.out | apply St.drewN | apply St.drew | apply St.alloc))⟩⟩
        · rw [if_neg c6] at H
          have c6b : decide (x < (l0.length : Int)) = false := decide_eq_false c6
          clear c6
          obtain ⟨A', c', rfl, hdc, hD⟩ := Kd.R_reads HS.out.2.2.1
          have g0 : wr.cell? ⟨g, 0, none⟩ = some (.bool o) := (blk_cell HS.out.1 0).trans rfl
          have g2 : wr.cell? ⟨g, 2, none⟩ = some (.slice A' d.length c') := (blk_cell HS.out.1 2).trans rfl
          clear hdc hD
          cases o with
          | true =>
            rw [if_pos rfl] at H
            simp only [Option.some.injEq, Prod.mk.injEq] at H
            obtain ⟨rfl, rfl⟩ := H
            go_wp2
            go_ret2
            exact ⟨_, rfl, Kd.R_nil _ _ _ _ _, HS.out.2.2.2⟩
          | false =>
            rw [if_neg (by decide)] at H
            by_cases c10 : 0 < d.length
            · rw [if_pos c10] at H
              have e10 : decide ((d.length : Int) > 0) = true := decide_eq_true (by omega)
              simp only [Option.some.injEq, Prod.mk.injEq] at H
              obtain ⟨rfl, rfl⟩ := H
              go_wp2
              go_ret2
              exact ⟨_, rfl, Kd.R_nil _ _ _ _ _, HS.out.2.2.2⟩
            · rw [if_neg c10] at H
              have e10 : decide ((d.length : Int) > 0) = false := decide_eq_false (by omega)
              simp only [Option.some.injEq, Prod.mk.injEq] at H
              obtain ⟨rfl, rfl⟩ := H
              go_wp2
              go_ret2
              exact ⟨_, rfl, HO.out, HS.out.2.2.2⟩

end Go.Proofs.Ytfaebcoembcfoaa.PFnExactWalk
