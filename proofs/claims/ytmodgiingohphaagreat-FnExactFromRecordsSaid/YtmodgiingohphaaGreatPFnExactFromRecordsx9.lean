-- Made by a program (the kit's print with additions of this session: wip/tools/patch_print.py, ext.py).
-- (turned)
import Derived.Test.YtmodgiingohphaaGreatPFnExactFromRecordsx0
import Derived.Test.YtmodgiingohphaaGreatPFnExactFromRecordsx8
namespace Go.Proofs.YtmodgiingohphaaGreat.PFnExactFromRecords
open Go.RowKit Go.Proofs.YtmodgiingohphaaGreatW.PrintWords Go.Proofs.YtmodgiingohphaaGreatW.PrintLast Go.Proofs.YtmodgiingohphaaGreatW.PrintMore
attribute [local go_sem] max2_int min2_int max_two min_two max_three min_three max_four min_four   -- for this text's walks alone
set_option linter.unusedVariables false
set_option linter.unusedSimpArgs false

/-! ### spec_GraphOk: function 24 -/
def spec_GraphOk.l0 : Nat → List (List Int) → Int → Option (Bool)
  | 0, _, _ => none
  | k + 1, x0, x3 => if x3 < (x0.length : Int) then (if 0 ≤ x3 then (if ((rd_L1 x0 x3).length : Int) > 4 then (some false) else ((spec_l05Rise.f k (rd_L1 x0 x3) x3).bind fun t212 => (if t212 = true then (spec_GraphOk.l0 k x0 (wrap64 (x3 + 1))) else (some false)))) else (none)) else (some true)
def spec_GraphOk.f (k : Nat) (l0 : List (List Int)) : Option (Bool) := if (l0.length : Int) > 40 then (some false) else (spec_GraphOk.l0 k l0 0)
theorem spec_GraphOk.mono_l : ∀ k, (∀ y0 y1, LeO (spec_GraphOk.l0 k y0 y1) (spec_GraphOk.l0 (k + 1) y0 y1))
  | 0 => by intros; exact LeO.none _
  | k + 1 => by
    have ih0 := spec_GraphOk.mono_l k; intros ; unfold spec_GraphOk.l0 ; repeat' with_reducible first | exact LeO.refl _ | exact LeO.none _ | refine LeO.ite ?_ ?_ | refine LeO.bind ?_ (fun _ => ?_) | exact ih0 _ _ | exact spec_l05Rise.mono _ _ _
theorem spec_GraphOk.mono : ∀ a0 k, LeO (spec_GraphOk.f k a0) (spec_GraphOk.f (k + 1) a0) := by
  intro a0 k; have ih0 := spec_GraphOk.mono_l k; unfold spec_GraphOk.f
  repeat' with_reducible first | exact LeO.refl _ | exact LeO.none _ | refine LeO.ite ?_ ?_ | refine LeO.bind ?_ (fun _ => ?_) | exact ih0 _ _ | exact spec_l05Rise.mono _ _ _
set_option maxHeartbeats 8000000 in
set_option maxRecDepth 100000 in
theorem spec_GraphOk.calls (k : Nat) (A0 : Option Addr) (c0 : Nat) (l0 : List (List Int)) (r : Bool) (w : World) (hr0 : Kd.C (Kd.slice 3 (Kd.int .i64)) w A0 l0.length l0) (hc0 : l0.length ≤ c0) (h : spec_GraphOk.f k l0 = some r) :
    Calls Tryz.prog 24 #[.slice A0 l0.length c0] w fun e w' => e = .returned (.bool r) ∧ Drawn0 w w' := by
  have HR0 := Aside0.mk hr0; have HC0 := Aside0.mk hc0; clear hr0 hc0; have H : (if (l0.length : Int) > 40 then (some false) else (spec_GraphOk.l0 k l0 0)) = some r := h; clear h; by_cases c2 : (l0.length : Int) > 40
  · rw [if_pos c2] at H; have c2b0 : decide (40 < (l0.length : Int)) = true := decide_eq_true c2; have c2b1 : decide (40 < l0.length) = true := decide_eq_true (by omega); clear c2; obtain rfl := Option.some.inj H; go_enter Tryz.func24, Tryz.ntmps24; go_wp2; go_ret; exact ⟨by first | rfl | (simp; done) | (simp [*]; done), by repeat (first | exact Drawn0.refl _ | apply Drawn0.step)⟩
  · rw [if_neg c2] at H; have c2b0 : decide (40 < (l0.length : Int)) = false := decide_eq_false c2; have c2b1 : decide (40 < l0.length) = false := decide_eq_false (by omega); clear c2; have H' := Aside0.mk H; clear H; go_enter Tryz.func24, Tryz.ntmps24; go_wp2; go_loopg [3] k (fun kq v3 w' => ∃ (x3_1 : Int), v3 = .int .i64 x3_1 ∧ Aside0 (spec_GraphOk.l0 kq l0 x3_1 = some r) ∧ Aside0 (kq ≤ k) ∧ Drawn0 w w')
    case atStart => exact ⟨(0), q4_, H', ⟨Nat.le_refl _⟩, by repeat (first | exact Drawn0.refl _ | apply Drawn0.step)⟩
    case round =>
      clear H'; (try clear c2); (try clear c2b0); (try clear c2b1); (try clear p2); obtain ⟨x3_1, rfl, HA, HK1, ⟨m1, rfl⟩⟩ := hrel
      cases gk with
      | zero => exact absurd HA.out (by simp [spec_GraphOk.l0])
      | succ k1 =>
        have H := HA.out; clear HA; simp only [spec_GraphOk.l0] at H; by_cases c3 : x3_1 < (l0.length : Int)
        · rw [if_pos c3] at H; have c3b0 : decide (x3_1 < (l0.length : Int)) = true := decide_eq_true c3; clear c3; obtain ⟨c4b0, H⟩ := ifd_ H; by_cases c5 : ((rd_L1 l0 x3_1).length : Int) > 4
          · rw [if_pos c5] at H; have c5b0 : decide (4 < ((rd_L1 l0 x3_1).length : Int)) = true := decide_eq_true c5; have c5b1 : decide (4 < (rd_L1 l0 x3_1).length) = true := decide_eq_true (by omega); clear c5; obtain rfl := Option.some.inj H; have p210 : 0 ≤ (x3_1 : Int) := of_decide_eq_true q1_; have q210 : x3_1 < (l0.length : Int) := of_decide_eq_true q1_; obtain ⟨ad210, A210_0, c210_0, e210, hx210_0, hl210_0, hi210_0⟩ := at_L1 HR0.out x3_1 p210 q210; cases e210; have HR210_0 := Aside0.mk hi210_0; have HC210_0 := Aside0.mk hl210_0; clear hi210_0 hl210_0; replace p210 := eq_true p210; replace q210 := eq_true q210; go_wp2; go_ret; exact ⟨by first | rfl | (simp; done) | (simp [*]; done), by repeat (first | exact Drawn0.refl _ | apply Drawn0.step)⟩
          · rw [if_neg c5] at H; have c5b0 : decide (4 < ((rd_L1 l0 x3_1).length : Int)) = false := decide_eq_false c5; have c5b1 : decide (4 < (rd_L1 l0 x3_1).length) = false := decide_eq_false (by omega); clear c5; replace H := Option.bind_eq_some_iff.mp H; obtain ⟨t212, A60, H⟩ := H; (try dsimp only at H); have A6 := Aside0.mk A60; clear A60; by_cases c7 : t212 = true
            · subst c7; rw [if_pos rfl] at H; have H' := Aside0.mk H; clear H; have p210 : 0 ≤ (x3_1 : Int) := of_decide_eq_true q1_; have q210 : x3_1 < (l0.length : Int) := of_decide_eq_true q1_; obtain ⟨ad210, A210_0, c210_0, e210, hx210_0, hl210_0, hi210_0⟩ := at_L1 HR0.out x3_1 p210 q210; cases e210; have HR210_0 := Aside0.mk hi210_0; have HC210_0 := Aside0.mk hl210_0; clear hi210_0 hl210_0; replace p210 := eq_true p210; replace q210 := eq_true q210; have p211 : 0 ≤ (x3_1 : Int) := of_decide_eq_true q1_; have q211 : x3_1 < (l0.length : Int) := of_decide_eq_true q1_; obtain ⟨ad211, A211_0, c211_0, e211, hx211_0, hl211_0, hi211_0⟩ := at_L1 HR0.out x3_1 p211 q211; obtain rfl : ad210 = ad211 := (by injection e211); have HR211_0 := Aside0.mk hi211_0; have HC211_0 := Aside0.mk hl211_0; clear hi211_0 hl211_0; replace p211 := eq_true p211; replace q211 := eq_true q211; have ea_ := Option.some.inj (hx210_0.symm.trans hx211_0); injection ea_ with ea_ en_ ec_
              subst ea_; subst ec_; clear en_; go_wp2_with (first | (go_at_call 56; (try simp only [i64_w]); (with_reducible refine (spec_l05Rise.calls k1 _ _ (rd_L1 l0 x3_1) x3_1 true _ ?side1 ?side2 A6.out).mono ?_); (case side1 => exact (by repeat (first | exact HR211_0.out | (with_reducible refine Kd.C_alloc ?_ _) | (with_reducible refine Kd.C_drewN ?_ _) | (with_reducible refine Kd.C_drew ?_)))); (case side2 => exact HC211_0.out); rintro e w' ⟨rfl, ⟨nd, rfl⟩⟩)); go_roundg k1
              case measure => have := HK1.out; omega
              case rel => exact ⟨(wrap64 (x3_1 + 1)), q4_, H', ⟨by have := HK1.out; omega⟩, by repeat (first | exact Drawn0.refl _ | apply Drawn0.step)⟩
            · replace c7 := Bool.eq_false_iff.mpr c7; subst c7; rw [if_neg nf_] at H; obtain rfl := Option.some.inj H; have p210 : 0 ≤ (x3_1 : Int) := of_decide_eq_true q1_; have q210 : x3_1 < (l0.length : Int) := of_decide_eq_true q1_; obtain ⟨ad210, A210_0, c210_0, e210, hx210_0, hl210_0, hi210_0⟩ := at_L1 HR0.out x3_1 p210 q210; cases e210; have HR210_0 := Aside0.mk hi210_0; have HC210_0 := Aside0.mk hl210_0; clear hi210_0 hl210_0; replace p210 := eq_true p210; replace q210 := eq_true q210; have p211 : 0 ≤ (x3_1 : Int) := of_decide_eq_true q1_; have q211 : x3_1 < (l0.length : Int) := of_decide_eq_true q1_; obtain ⟨ad211, A211_0, c211_0, e211, hx211_0, hl211_0, hi211_0⟩ := at_L1 HR0.out x3_1 p211 q211; obtain rfl : ad210 = ad211 := (by injection e211); have HR211_0 := Aside0.mk hi211_0; have HC211_0 := Aside0.mk hl211_0; clear hi211_0 hl211_0; replace p211 := eq_true p211; replace q211 := eq_true q211; have ea_ := Option.some.inj (hx210_0.symm.trans hx211_0); injection ea_ with ea_ en_ ec_
              subst ea_; subst ec_; clear en_; go_wp2_with (first | (go_at_call 56; (try simp only [i64_w]); (with_reducible refine (spec_l05Rise.calls k1 _ _ (rd_L1 l0 x3_1) x3_1 false _ ?side1 ?side2 A6.out).mono ?_); (case side1 => exact (by repeat (first | exact HR211_0.out | (with_reducible refine Kd.C_alloc ?_ _) | (with_reducible refine Kd.C_drewN ?_ _) | (with_reducible refine Kd.C_drew ?_)))); (case side2 => exact HC211_0.out); rintro e w' ⟨rfl, ⟨nd, rfl⟩⟩)); go_ret; exact ⟨by first | rfl | (simp; done) | (simp [*]; done), by repeat (first | exact Drawn0.refl _ | apply Drawn0.step)⟩
        · rw [if_neg c3] at H; have c3b0 : decide (x3_1 < (l0.length : Int)) = false := decide_eq_false c3; clear c3; obtain rfl := Option.some.inj H; go_wp2; go_ret; exact ⟨by first | rfl | (simp; done) | (simp [*]; done), by repeat (first | exact Drawn0.refl _ | apply Drawn0.step)⟩

/-! ### spec_l07With: function 25 -/
mutual
def spec_l07With.l0 : Nat → List Int → Int → List Int → Int → Option (List Int)
  | 0, _, _, _, _ => none
  | k + 1, x0, x1, x5, x6 => if x6 < (x0.length : Int) then (if 0 ≤ x6 then (if (rd x0 x6) < x1 then (if x5.length < 17592186044416 then (spec_l07With.l0 k x0 x1 (x5 ++ [rd x0 x6]) (wrap64 (x6 + 1))) else (none)) else (spec_l07With.l0 k x0 x1 x5 (wrap64 (x6 + 1)))) else (none)) else (if x5.length < 17592186044416 then (spec_l07With.l1 k x0 x1 (x5 ++ [x1]) 0) else (none))
def spec_l07With.l1 : Nat → List Int → Int → List Int → Int → Option (List Int)
  | 0, _, _, _, _ => none
  | k + 1, x0, x1, x5, x7 => if x7 < (x0.length : Int) then (if 0 ≤ x7 then (if (rd x0 x7) > x1 then (if x5.length < 17592186044416 then (spec_l07With.l1 k x0 x1 (x5 ++ [rd x0 x7]) (wrap64 (x7 + 1))) else (none)) else (spec_l07With.l1 k x0 x1 x5 (wrap64 (x7 + 1)))) else (none)) else (some x5)
end
def spec_l07With.f (k : Nat) (l0 : List Int) (a1 : Int) : Option (List Int) := spec_l07With.l0 k l0 a1 (([] : List Int)) 0
theorem spec_l07With.mono_l : ∀ k, (∀ y0 y1 y2 y3, LeO (spec_l07With.l0 k y0 y1 y2 y3) (spec_l07With.l0 (k + 1) y0 y1 y2 y3)) ∧ (∀ y0 y1 y2 y3, LeO (spec_l07With.l1 k y0 y1 y2 y3) (spec_l07With.l1 (k + 1) y0 y1 y2 y3))
  | 0 => by refine ⟨?_, ?_⟩ <;> intros <;> exact LeO.none _
  | k + 1 => by
    obtain ⟨ih0, ih1⟩ := spec_l07With.mono_l k; refine ⟨?_, ?_⟩ <;> intros <;> (first | unfold spec_l07With.l0 | unfold spec_l07With.l1) <;> repeat' with_reducible first | exact LeO.refl _ | exact LeO.none _ | refine LeO.ite ?_ ?_ | refine LeO.bind ?_ (fun _ => ?_) | exact ih0 _ _ _ _ | exact ih1 _ _ _ _
theorem spec_l07With.mono : ∀ a0 a1 k, LeO (spec_l07With.f k a0 a1) (spec_l07With.f (k + 1) a0 a1) := by
  intro a0 a1 k; obtain ⟨ih0, ih1⟩ := spec_l07With.mono_l k; unfold spec_l07With.f
  repeat' with_reducible first | exact LeO.refl _ | exact LeO.none _ | refine LeO.ite ?_ ?_ | refine LeO.bind ?_ (fun _ => ?_) | exact ih0 _ _ _ _ | exact ih1 _ _ _ _
set_option maxHeartbeats 8000000 in
set_option maxRecDepth 100000 in
theorem spec_l07With.calls (k : Nat) (A0 : Option Addr) (c0 : Nat) (l0 : List Int) (a1 : Int) (r : List Int) (w : World) (hr0 : Kd.C (Kd.int .i64) w A0 l0.length l0) (hc0 : l0.length ≤ c0) (h : spec_l07With.f k l0 a1 = some r) :
    Calls Tryz.prog 25 #[.slice A0 l0.length c0, .int .i64 a1] w fun e w' => ∃ v0_ : Value, e = .returned (v0_) ∧ Kd.R (Kd.int .i64) 3 w' w.heap.size (fun _ => True) v0_ r ∧ Below w.heap.size w w' := by
  have HR0 := Aside0.mk hr0; have HC0 := Aside0.mk hc0; clear hr0 hc0; have HB := Aside0.mk (Below.refl w.heap.size w); have H : (spec_l07With.l0 k l0 a1 (([] : List Int)) 0) = some r := h; clear h; obtain ⟨y213, hy_⟩ : ∃ y_ : List Int, y_ = (([] : List Int)) := ⟨_, rfl⟩; replace H : (spec_l07With.l0 k l0 a1 y213 0) = some r := yh_; have Ny213 := Aside0.mk hy_; clear hy_; have H' := Aside0.mk H; clear H; go_enter Tryz.func25, Tryz.ntmps25; go_wp2_with (first | ((with_reducible refine gate_dst (N := 8) rfl ?_); refine Kd.R_lit (Kd.int .i64) _ 3 ?hg (N := 8) ?hd (xs := ([] : List Int)) (inner := []) (ok := fun _ => True) (okp := fun _ => True) ?hr ?hp (fun _ hk => hk) trivial (Below.refl _ _) (Nat.le_refl _) (by simp) ?_; (case hd => rfl); (case hg => rfl); (case hr => first | (go_simp; done) | (go_simp; rfl)); (case hp => exact (Reps.none _ _)); intro v214 w3 ho4 hb hg_ hnew_; clear hg_ hnew_; (first | rw [← Ny213.out] at ho4 | (simp only [Int.reduceToNat] at ho4; rw [← Ny213.out] at ho4)); refine ai2_ (Kd.R_lower ho4 (below_size q0_)) (below_step q0_ hb) ?_; clear HB; intro HO215 HB; clear hb ho4)); go_loopg [5, 6] k (fun kq v5 v6 w' => ∃ (x5_1 : List Int) (x6_1 : Int), v6 = .int .i64 x6_1 ∧ Aside0 (spec_l07With.l0 kq l0 a1 x5_1 x6_1 = some r) ∧ Aside0 (kq ≤ k) ∧ Aside0 (Kd.R (Kd.int .i64) 3 w' w.heap.size (fun _ => True) v5 x5_1) ∧ Aside0 (Below w.heap.size w w'))
  case atStart => exact ⟨(y213), (0), q4_, H', ⟨Nat.le_refl _⟩, z_ HO215, ⟨zb_⟩⟩
  case round =>
    clear H'; (try clear c2); (try clear p2); obtain ⟨x5_1, x6_1, rfl, HA, HK1, HO_5, HB⟩ := hrel
    cases gk with
    | zero => exact absurd HA.out (by simp [spec_l07With.l0])
    | succ k1 =>
      have H := HA.out; clear HA; simp only [spec_l07With.l0] at H; by_cases c5 : x6_1 < (l0.length : Int)
      · rw [if_pos c5] at H; have c5b0 : decide (x6_1 < (l0.length : Int)) = true := decide_eq_true c5; clear c5; obtain ⟨c6b0, H⟩ := ifd_ H; by_cases c7 : (rd l0 x6_1) < a1
        · rw [if_pos c7] at H; have c7b0 : decide ((rd l0 x6_1) < a1) = true := decide_eq_true c7; clear c7; obtain ⟨c8, H⟩ := ifs_ H; have LMc8 := Aside0.mk c8; clear c8; obtain ⟨y218, hy_⟩ : ∃ y_ : List Int, y_ = (x5_1 ++ [rd l0 x6_1]) := ⟨_, rfl⟩; replace H : (spec_l07With.l0 k1 l0 a1 y218 (wrap64 (x6_1 + 1))) = some r := yh_; have Ny218 := Aside0.mk hy_; clear hy_; have H' := Aside0.mk H; clear H; have p216 : 0 ≤ (x6_1 : Int) := of_decide_eq_true q1_; have q216 : x6_1 < (l0.length : Int) := of_decide_eq_true q1_; obtain ⟨ad216, e216, hx216_0⟩ := Kd.at_int HR0.out x6_1 p216 q216; cases e216; replace hx216_0 := bx_ HB hx216_0; replace p216 := eq_true p216; replace q216 := eq_true q216; have p217 : 0 ≤ (x6_1 : Int) := of_decide_eq_true q1_; have q217 : x6_1 < (l0.length : Int) := of_decide_eq_true q1_; obtain ⟨ad217, e217, hx217_0⟩ := Kd.at_int HR0.out x6_1 p217 q217; obtain rfl : ad216 = ad217 := (by injection e217); replace hx217_0 := bx_ HB hx217_0; replace p217 := eq_true p217; replace q217 := eq_true q217; go_wp2_with (first | ((with_reducible refine gate_builtin (b := .append) (xs := #[.tmp 21, .tmp 26]) rfl ?_); at_builtin; refine Kd.R_append (Kd.int .i64) (w0 := w) w.heap.size rfl (.tmp 21) (.tmp 26) 50 3 (.int .i64 0) 8 rfl Tryz.underlying50 info3 rfl (by decide) (by omega) u5 x5_1 (rd l0 x6_1) [.int .i64 (rd l0 x6_1)] (fun _ => True) (fun _ => False) rfl rfl ?aP (fun _ hk => hk.elim) ?aF ?aO ?aB ?aS ?aL ?_; (case aP => exact rfl); (case aB => exact q0_); (case aF => exact (fun _ _ => trivial)); (case aO => exact q10_); (case aS => exact (below_size q0_)); (case aL => have := LMc8.out; omega); intro v219 w9 ho hb hg hat; rw [← Ny218.out] at ho; refine ai2_ (hb) (ho) ?_; clear HB HO_5; intro HB HO220; clear ho hb hg hat)); go_roundg k1
          case measure => have := HK1.out; omega
          case rel => exact ⟨(y218), (wrap64 (x6_1 + 1)), q4_, H', ⟨by have := HK1.out; omega⟩, z_ HO220, ⟨zb_⟩⟩
        · rw [if_neg c7] at H; have c7b0 : decide ((rd l0 x6_1) < a1) = false := decide_eq_false c7; clear c7; have H' := Aside0.mk H; clear H; have p216 : 0 ≤ (x6_1 : Int) := of_decide_eq_true q1_; have q216 : x6_1 < (l0.length : Int) := of_decide_eq_true q1_; obtain ⟨ad216, e216, hx216_0⟩ := Kd.at_int HR0.out x6_1 p216 q216; cases e216; replace hx216_0 := bx_ HB hx216_0; replace p216 := eq_true p216; replace q216 := eq_true q216; go_wp2; go_roundg k1
          case measure => have := HK1.out; omega
          case rel => exact ⟨(x5_1), (wrap64 (x6_1 + 1)), q4_, H', ⟨by have := HK1.out; omega⟩, z_ HO_5, ⟨zb_⟩⟩
      · rw [if_neg c5] at H; have c5b0 : decide (x6_1 < (l0.length : Int)) = false := decide_eq_false c5; clear c5; obtain ⟨c10, H⟩ := ifs_ H; have LMc10 := Aside0.mk c10; clear c10; obtain ⟨y221, hy_⟩ : ∃ y_ : List Int, y_ = (x5_1 ++ [a1]) := ⟨_, rfl⟩; replace H : (spec_l07With.l1 k1 l0 a1 y221 0) = some r := yh_; have Ny221 := Aside0.mk hy_; clear hy_; have H' := Aside0.mk H; clear H; go_wp2_with (first | ((with_reducible refine gate_builtin (b := .append) (xs := #[.tmp 28, .tmp 30]) rfl ?_); at_builtin; refine Kd.R_append (Kd.int .i64) (w0 := w) w.heap.size rfl (.tmp 28) (.tmp 30) 50 3 (.int .i64 0) 8 rfl Tryz.underlying50 info3 rfl (by decide) (by omega) u5 x5_1 a1 [.int .i64 a1] (fun _ => True) (fun _ => False) rfl rfl ?aP (fun _ hk => hk.elim) ?aF ?aO ?aB ?aS ?aL ?_; (case aP => exact rfl); (case aB => exact q0_); (case aF => exact (fun _ _ => trivial)); (case aO => exact q10_); (case aS => exact (below_size q0_)); (case aL => have := LMc10.out; omega); intro v222 w11 ho hb hg hat; rw [← Ny221.out] at ho; refine ai2_ (hb) (ho) ?_; clear HB HO_5; intro HB HO223; clear ho hb hg hat)); go_loopg [5, 7] k1 (fun kq v5 v7 w' => ∃ (x5_2 : List Int) (x7_2 : Int), v7 = .int .i64 x7_2 ∧ Aside0 (spec_l07With.l1 kq l0 a1 x5_2 x7_2 = some r) ∧ Aside0 (kq ≤ k1) ∧ Aside0 (Kd.R (Kd.int .i64) 3 w' w.heap.size (fun _ => True) v5 x5_2) ∧ Aside0 (Below w.heap.size w w'))
        case atStart => exact ⟨(y221), (0), q4_, H', ⟨Nat.le_refl _⟩, z_ HO223, ⟨zb_⟩⟩
        case round =>
          clear H'; (try clear c1); (try clear c2); (try clear p2); (try clear q2); (try clear hx2); (try clear c5); (try clear c5b0); (try clear c6); (try clear c6b0); (try clear p6); (try clear c7); (try clear c7b0); (try clear c8); (try clear c10); (try clear hx216_0); (try clear hx217_0); (try clear p2); (try clear p216); (try clear p217); (try clear q216); (try clear q217); obtain ⟨x5_2, x7_2, rfl, HA, HK2, HO_5, HB⟩ := hrel
          cases gk with
          | zero => exact absurd HA.out (by simp [spec_l07With.l1])
          | succ k2 =>
            have H := HA.out; clear HA; simp only [spec_l07With.l1] at H; by_cases c12 : x7_2 < (l0.length : Int)
            · rw [if_pos c12] at H; have c12b0 : decide (x7_2 < (l0.length : Int)) = true := decide_eq_true c12; clear c12; obtain ⟨c13b0, H⟩ := ifd_ H; by_cases c14 : (rd l0 x7_2) > a1
              · rw [if_pos c14] at H; have c14b0 : decide (a1 < (rd l0 x7_2)) = true := decide_eq_true c14; clear c14; obtain ⟨c15, H⟩ := ifs_ H; have LMc15 := Aside0.mk c15; clear c15; obtain ⟨y226, hy_⟩ : ∃ y_ : List Int, y_ = (x5_2 ++ [rd l0 x7_2]) := ⟨_, rfl⟩; replace H : (spec_l07With.l1 k2 l0 a1 y226 (wrap64 (x7_2 + 1))) = some r := yh_; have Ny226 := Aside0.mk hy_; clear hy_; have H' := Aside0.mk H; clear H; have p224 : 0 ≤ (x7_2 : Int) := of_decide_eq_true q1_; have q224 : x7_2 < (l0.length : Int) := of_decide_eq_true q1_; obtain ⟨ad224, e224, hx224_0⟩ := Kd.at_int HR0.out x7_2 p224 q224; cases e224; replace hx224_0 := bx_ HB hx224_0; replace p224 := eq_true p224; replace q224 := eq_true q224; have p225 : 0 ≤ (x7_2 : Int) := of_decide_eq_true q1_; have q225 : x7_2 < (l0.length : Int) := of_decide_eq_true q1_; obtain ⟨ad225, e225, hx225_0⟩ := Kd.at_int HR0.out x7_2 p225 q225; obtain rfl : ad224 = ad225 := (by injection e225); replace hx225_0 := bx_ HB hx225_0; replace p225 := eq_true p225; replace q225 := eq_true q225; go_wp2_with (first | ((with_reducible refine gate_builtin (b := .append) (xs := #[.tmp 44, .tmp 49]) rfl ?_); at_builtin; refine Kd.R_append (Kd.int .i64) (w0 := w) w.heap.size rfl (.tmp 44) (.tmp 49) 50 3 (.int .i64 0) 8 rfl Tryz.underlying50 info3 rfl (by decide) (by omega) u5 x5_2 (rd l0 x7_2) [.int .i64 (rd l0 x7_2)] (fun _ => True) (fun _ => False) rfl rfl ?aP (fun _ hk => hk.elim) ?aF ?aO ?aB ?aS ?aL ?_; (case aP => exact rfl); (case aB => exact q0_); (case aF => exact (fun _ _ => trivial)); (case aO => exact q10_); (case aS => exact (below_size q0_)); (case aL => have := LMc15.out; omega); intro v227 w16 ho hb hg hat; rw [← Ny226.out] at ho; refine ai2_ (hb) (ho) ?_; clear HB HO_5; intro HB HO228; clear ho hb hg hat)); go_roundg k2
                case measure => have := HK1.out; have := HK2.out; omega
                case rel => exact ⟨(y226), (wrap64 (x7_2 + 1)), q4_, H', ⟨by have := HK1.out; have := HK2.out; omega⟩, z_ HO228, ⟨zb_⟩⟩
              · rw [if_neg c14] at H; have c14b0 : decide (a1 < (rd l0 x7_2)) = false := decide_eq_false c14; clear c14; have H' := Aside0.mk H; clear H; have p224 : 0 ≤ (x7_2 : Int) := of_decide_eq_true q1_; have q224 : x7_2 < (l0.length : Int) := of_decide_eq_true q1_; obtain ⟨ad224, e224, hx224_0⟩ := Kd.at_int HR0.out x7_2 p224 q224; cases e224; replace hx224_0 := bx_ HB hx224_0; replace p224 := eq_true p224; replace q224 := eq_true q224; go_wp2; go_roundg k2
                case measure => have := HK1.out; have := HK2.out; omega
                case rel => exact ⟨(x5_2), (wrap64 (x7_2 + 1)), q4_, H', ⟨by have := HK1.out; have := HK2.out; omega⟩, z_ HO_5, ⟨zb_⟩⟩
            · rw [if_neg c12] at H; have c12b0 : decide (x7_2 < (l0.length : Int)) = false := decide_eq_false c12; clear c12; obtain rfl := Option.some.inj H; go_wp2; go_ret; exact ⟨_, er_, zp_ HO_5, zb_⟩
/-! ### spec_l07Without: function 26 -/
def spec_l07Without.l0 : Nat → List Int → Int → List Int → Int → Option (List Int)
  | 0, _, _, _, _ => none
  | k + 1, x0, x1, x5, x6 => if x6 < (x0.length : Int) then (if 0 ≤ x6 then (if (rd x0 x6) = x1 then (spec_l07Without.l0 k x0 x1 x5 (wrap64 (x6 + 1))) else (if x5.length < 17592186044416 then (spec_l07Without.l0 k x0 x1 (x5 ++ [rd x0 x6]) (wrap64 (x6 + 1))) else (none))) else (none)) else (some x5)
def spec_l07Without.f (k : Nat) (l0 : List Int) (a1 : Int) : Option (List Int) := spec_l07Without.l0 k l0 a1 (([] : List Int)) 0
theorem spec_l07Without.mono_l : ∀ k, (∀ y0 y1 y2 y3, LeO (spec_l07Without.l0 k y0 y1 y2 y3) (spec_l07Without.l0 (k + 1) y0 y1 y2 y3))
  | 0 => by intros; exact LeO.none _
  | k + 1 => by
    have ih0 := spec_l07Without.mono_l k; intros ; unfold spec_l07Without.l0 ; repeat' with_reducible first | exact LeO.refl _ | exact LeO.none _ | refine LeO.ite ?_ ?_ | refine LeO.bind ?_ (fun _ => ?_) | exact ih0 _ _ _ _
theorem spec_l07Without.mono : ∀ a0 a1 k, LeO (spec_l07Without.f k a0 a1) (spec_l07Without.f (k + 1) a0 a1) := by
  intro a0 a1 k; have ih0 := spec_l07Without.mono_l k; unfold spec_l07Without.f
  repeat' with_reducible first | exact LeO.refl _ | exact LeO.none _ | refine LeO.ite ?_ ?_ | refine LeO.bind ?_ (fun _ => ?_) | exact ih0 _ _ _ _
set_option maxHeartbeats 8000000 in
set_option maxRecDepth 100000 in
theorem spec_l07Without.calls (k : Nat) (A0 : Option Addr) (c0 : Nat) (l0 : List Int) (a1 : Int) (r : List Int) (w : World) (hr0 : Kd.C (Kd.int .i64) w A0 l0.length l0) (hc0 : l0.length ≤ c0) (h : spec_l07Without.f k l0 a1 = some r) :
    Calls Tryz.prog 26 #[.slice A0 l0.length c0, .int .i64 a1] w fun e w' => ∃ v0_ : Value, e = .returned (v0_) ∧ Kd.R (Kd.int .i64) 3 w' w.heap.size (fun _ => True) v0_ r ∧ Below w.heap.size w w' := by
  have HR0 := Aside0.mk hr0; have HC0 := Aside0.mk hc0; clear hr0 hc0; have HB := Aside0.mk (Below.refl w.heap.size w); have H : (spec_l07Without.l0 k l0 a1 (([] : List Int)) 0) = some r := h; clear h; obtain ⟨y229, hy_⟩ : ∃ y_ : List Int, y_ = (([] : List Int)) := ⟨_, rfl⟩; replace H : (spec_l07Without.l0 k l0 a1 y229 0) = some r := yh_; have Ny229 := Aside0.mk hy_; clear hy_; have H' := Aside0.mk H; clear H; go_enter Tryz.func26, Tryz.ntmps26; go_wp2_with (first | ((with_reducible refine gate_dst (N := 7) rfl ?_); refine Kd.R_lit (Kd.int .i64) _ 3 ?hg (N := 7) ?hd (xs := ([] : List Int)) (inner := []) (ok := fun _ => True) (okp := fun _ => True) ?hr ?hp (fun _ hk => hk) trivial (Below.refl _ _) (Nat.le_refl _) (by simp) ?_; (case hd => rfl); (case hg => rfl); (case hr => first | (go_simp; done) | (go_simp; rfl)); (case hp => exact (Reps.none _ _)); intro v230 w3 ho4 hb hg_ hnew_; clear hg_ hnew_; (first | rw [← Ny229.out] at ho4 | (simp only [Int.reduceToNat] at ho4; rw [← Ny229.out] at ho4)); refine ai2_ (Kd.R_lower ho4 (below_size q0_)) (below_step q0_ hb) ?_; clear HB; intro HO231 HB; clear hb ho4)); go_loopg [5, 6] k (fun kq v5 v6 w' => ∃ (x5_1 : List Int) (x6_1 : Int), v6 = .int .i64 x6_1 ∧ Aside0 (spec_l07Without.l0 kq l0 a1 x5_1 x6_1 = some r) ∧ Aside0 (kq ≤ k) ∧ Aside0 (Kd.R (Kd.int .i64) 3 w' w.heap.size (fun _ => True) v5 x5_1) ∧ Aside0 (Below w.heap.size w w'))
  case atStart => exact ⟨(y229), (0), q4_, H', ⟨Nat.le_refl _⟩, z_ HO231, ⟨zb_⟩⟩
  case round =>
    clear H'; (try clear c2); (try clear p2); obtain ⟨x5_1, x6_1, rfl, HA, HK1, HO_5, HB⟩ := hrel
    cases gk with
    | zero => exact absurd HA.out (by simp [spec_l07Without.l0])
    | succ k1 =>
      have H := HA.out; clear HA; simp only [spec_l07Without.l0] at H; by_cases c5 : x6_1 < (l0.length : Int)
      · rw [if_pos c5] at H; have c5b0 : decide (x6_1 < (l0.length : Int)) = true := decide_eq_true c5; clear c5; obtain ⟨c6b0, H⟩ := ifd_ H; by_cases c7 : (rd l0 x6_1) = a1
        · rw [if_pos c7] at H; have c7b0 : ((rd l0 x6_1) == a1) = true := beq_iff_eq.mpr c7; have c7b1 : ((rd l0 x6_1) != a1) = false := bne_eq_false_iff_eq.mpr c7; clear c7; have H' := Aside0.mk H; clear H; have p232 : 0 ≤ (x6_1 : Int) := of_decide_eq_true q1_; have q232 : x6_1 < (l0.length : Int) := of_decide_eq_true q1_; obtain ⟨ad232, e232, hx232_0⟩ := Kd.at_int HR0.out x6_1 p232 q232; cases e232; replace hx232_0 := bx_ HB hx232_0; replace p232 := eq_true p232; replace q232 := eq_true q232; go_wp2; go_roundg k1
          case measure => have := HK1.out; omega
          case rel => exact ⟨(x5_1), (wrap64 (x6_1 + 1)), q4_, H', ⟨by have := HK1.out; omega⟩, z_ HO_5, ⟨zb_⟩⟩
        · rw [if_neg c7] at H; have c7b0 : ((rd l0 x6_1) == a1) = false := beq_eq_false_iff_ne.mpr c7; have c7b1 : ((rd l0 x6_1) != a1) = true := bne_iff_ne.mpr c7; obtain ⟨c8, H⟩ := ifs_ H; have LMc8 := Aside0.mk c8; clear c8; obtain ⟨y234, hy_⟩ : ∃ y_ : List Int, y_ = (x5_1 ++ [rd l0 x6_1]) := ⟨_, rfl⟩; replace H : (spec_l07Without.l0 k1 l0 a1 y234 (wrap64 (x6_1 + 1))) = some r := yh_; have Ny234 := Aside0.mk hy_; clear hy_; have H' := Aside0.mk H; clear H; have p232 : 0 ≤ (x6_1 : Int) := of_decide_eq_true q1_; have q232 : x6_1 < (l0.length : Int) := of_decide_eq_true q1_; obtain ⟨ad232, e232, hx232_0⟩ := Kd.at_int HR0.out x6_1 p232 q232; cases e232; replace hx232_0 := bx_ HB hx232_0; replace p232 := eq_true p232; replace q232 := eq_true q232; have p233 : 0 ≤ (x6_1 : Int) := of_decide_eq_true q1_; have q233 : x6_1 < (l0.length : Int) := of_decide_eq_true q1_; obtain ⟨ad233, e233, hx233_0⟩ := Kd.at_int HR0.out x6_1 p233 q233; obtain rfl : ad232 = ad233 := (by injection e233); replace hx233_0 := bx_ HB hx233_0; replace p233 := eq_true p233; replace q233 := eq_true q233; go_wp2_with (first | ((with_reducible refine gate_builtin (b := .append) (xs := #[.tmp 20, .tmp 25]) rfl ?_); at_builtin; refine Kd.R_append (Kd.int .i64) (w0 := w) w.heap.size rfl (.tmp 20) (.tmp 25) 50 3 (.int .i64 0) 8 rfl Tryz.underlying50 info3 rfl (by decide) (by omega) u5 x5_1 (rd l0 x6_1) [.int .i64 (rd l0 x6_1)] (fun _ => True) (fun _ => False) rfl rfl ?aP (fun _ hk => hk.elim) ?aF ?aO ?aB ?aS ?aL ?_; (case aP => exact rfl); (case aB => exact q0_); (case aF => exact (fun _ _ => trivial)); (case aO => exact q10_); (case aS => exact (below_size q0_)); (case aL => have := LMc8.out; omega); intro v235 w9 ho hb hg hat; rw [← Ny234.out] at ho; refine ai2_ (hb) (ho) ?_; clear HB HO_5; intro HB HO236; clear ho hb hg hat)); go_roundg k1
          case measure => have := HK1.out; omega
          case rel => exact ⟨(y234), (wrap64 (x6_1 + 1)), q4_, H', ⟨by have := HK1.out; omega⟩, z_ HO236, ⟨zb_⟩⟩
      · rw [if_neg c5] at H; have c5b0 : decide (x6_1 < (l0.length : Int)) = false := decide_eq_false c5; clear c5; obtain rfl := Option.some.inj H; go_wp2; go_ret; exact ⟨_, er_, zp_ HO_5, zb_⟩

/-! ### spec_l07In: function 95 -/
def spec_l07In.l0 : Nat → List Int → Int → Int → Option (Bool)
  | 0, _, _, _ => none
  | k + 1, x0, x1, x5 => if x5 < (x0.length : Int) then (if 0 ≤ x5 then (if (rd x0 x5) = x1 then (some true) else (spec_l07In.l0 k x0 x1 (wrap64 (x5 + 1)))) else (none)) else (some false)
def spec_l07In.f (k : Nat) (l0 : List Int) (a1 : Int) : Option (Bool) := spec_l07In.l0 k l0 a1 0
theorem spec_l07In.mono_l : ∀ k, (∀ y0 y1 y2, LeO (spec_l07In.l0 k y0 y1 y2) (spec_l07In.l0 (k + 1) y0 y1 y2))
  | 0 => by intros; exact LeO.none _
  | k + 1 => by
    have ih0 := spec_l07In.mono_l k; intros ; unfold spec_l07In.l0 ; repeat' with_reducible first | exact LeO.refl _ | exact LeO.none _ | refine LeO.ite ?_ ?_ | refine LeO.bind ?_ (fun _ => ?_) | exact ih0 _ _ _
theorem spec_l07In.mono : ∀ a0 a1 k, LeO (spec_l07In.f k a0 a1) (spec_l07In.f (k + 1) a0 a1) := by
  intro a0 a1 k; have ih0 := spec_l07In.mono_l k; unfold spec_l07In.f
  repeat' with_reducible first | exact LeO.refl _ | exact LeO.none _ | refine LeO.ite ?_ ?_ | refine LeO.bind ?_ (fun _ => ?_) | exact ih0 _ _ _
set_option maxHeartbeats 8000000 in
set_option maxRecDepth 100000 in
theorem spec_l07In.calls (k : Nat) (A0 : Option Addr) (c0 : Nat) (l0 : List Int) (a1 : Int) (r : Bool) (w : World) (hr0 : Kd.C (Kd.int .i64) w A0 l0.length l0) (hc0 : l0.length ≤ c0) (h : spec_l07In.f k l0 a1 = some r) :
    Calls Tryz.prog 95 #[.slice A0 l0.length c0, .int .i64 a1] w fun e w' => e = .returned (.bool r) ∧ Drawn0 w w' := by
  have HR0 := Aside0.mk hr0; have HC0 := Aside0.mk hc0; clear hr0 hc0; have H : (spec_l07In.l0 k l0 a1 0) = some r := h; clear h; have H' := Aside0.mk H; clear H; go_enter Tryz.func95, Tryz.ntmps95; go_wp2; go_loopg [5] k (fun kq v5 w' => ∃ (x5_1 : Int), v5 = .int .i64 x5_1 ∧ Aside0 (spec_l07In.l0 kq l0 a1 x5_1 = some r) ∧ Aside0 (kq ≤ k) ∧ Drawn0 w w')
  case atStart => exact ⟨(0), q4_, H', ⟨Nat.le_refl _⟩, by repeat (first | exact Drawn0.refl _ | apply Drawn0.step)⟩
  case round =>
    clear H'; (try clear p2); obtain ⟨x5_1, rfl, HA, HK1, ⟨m1, rfl⟩⟩ := hrel
    cases gk with
    | zero => exact absurd HA.out (by simp [spec_l07In.l0])
    | succ k1 =>
      have H := HA.out; clear HA; simp only [spec_l07In.l0] at H; by_cases c3 : x5_1 < (l0.length : Int)
      · rw [if_pos c3] at H; have c3b0 : decide (x5_1 < (l0.length : Int)) = true := decide_eq_true c3; clear c3; obtain ⟨c4b0, H⟩ := ifd_ H; by_cases c5 : (rd l0 x5_1) = a1
        · rw [if_pos c5] at H; have c5b0 : ((rd l0 x5_1) == a1) = true := beq_iff_eq.mpr c5; have c5b1 : ((rd l0 x5_1) != a1) = false := bne_eq_false_iff_eq.mpr c5; clear c5; obtain rfl := Option.some.inj H; have p237 : 0 ≤ (x5_1 : Int) := of_decide_eq_true q1_; have q237 : x5_1 < (l0.length : Int) := of_decide_eq_true q1_; obtain ⟨ad237, e237, hx237_0⟩ := Kd.at_int HR0.out x5_1 p237 q237; cases e237; replace p237 := eq_true p237; replace q237 := eq_true q237; go_wp2; go_ret; exact ⟨by first | rfl | (simp; done) | (simp [*]; done), by repeat (first | exact Drawn0.refl _ | apply Drawn0.step)⟩
        · rw [if_neg c5] at H; have c5b0 : ((rd l0 x5_1) == a1) = false := beq_eq_false_iff_ne.mpr c5; have c5b1 : ((rd l0 x5_1) != a1) = true := bne_iff_ne.mpr c5; have H' := Aside0.mk H; clear H; have p237 : 0 ≤ (x5_1 : Int) := of_decide_eq_true q1_; have q237 : x5_1 < (l0.length : Int) := of_decide_eq_true q1_; obtain ⟨ad237, e237, hx237_0⟩ := Kd.at_int HR0.out x5_1 p237 q237; cases e237; replace p237 := eq_true p237; replace q237 := eq_true q237; go_wp2; go_roundg k1
          case measure => have := HK1.out; omega
          case rel => exact ⟨(wrap64 (x5_1 + 1)), q4_, H', ⟨by have := HK1.out; omega⟩, by repeat (first | exact Drawn0.refl _ | apply Drawn0.step)⟩
      · rw [if_neg c3] at H; have c3b0 : decide (x5_1 < (l0.length : Int)) = false := decide_eq_false c3; clear c3; obtain rfl := Option.some.inj H; go_wp2; go_ret; exact ⟨by first | rfl | (simp; done) | (simp [*]; done), by repeat (first | exact Drawn0.refl _ | apply Drawn0.step)⟩

end Go.Proofs.YtmodgiingohphaaGreat.PFnExactFromRecords
-- (flat)
