-- Made by a program (the kit's print with additions of this session: wip/tools/patch_print.py, ext.py).
-- (turned)
import Derived.Test.YtmodgiingohphaaGreatPFnExactFromRecordsx0
import Derived.Test.YtmodgiingohphaaGreatPFnExactFromRecordsx1
import Derived.Test.YtmodgiingohphaaGreatPFnExactFromRecordsx8
import Derived.Test.YtmodgiingohphaaGreatPFnExactFromRecordsx9
import Derived.Test.YtmodgiingohphaaGreatPFnExactFromRecordsx11
import Derived.Test.YtmodgiingohphaaGreatPFnExactFromRecordsx14
namespace Go.Proofs.YtmodgiingohphaaGreat.PFnExactFromRecords
open Go.RowKit Go.Proofs.YtmodgiingohphaaGreatW.PrintWords Go.Proofs.YtmodgiingohphaaGreatW.PrintLast Go.Proofs.YtmodgiingohphaaGreatW.PrintMore
attribute [local go_sem] max2_int min2_int max_two min_two max_three min_three max_four min_four   -- for this text's walks alone
set_option linter.unusedVariables false
set_option linter.unusedSimpArgs false

attribute [local go_sem high] eqA48
/-! ### spec_Records: function 28 -/
def spec_Records.f (k : Nat) (l0_0 : List (List Int)) (l0_1 : List (S55)) : Option ((List (S48)) × Bool) := (spec_WeaveOk.f k l0_0 l0_1).bind fun t355 => (if t355 = true then ((spec_l07Records.f k l0_0 l0_1).bind fun t356 => (if (t356.length : Int) > 4000 then (some ((([] : List (S48))), false)) else (some (t356, true)))) else (some ((([] : List (S48))), false)))
theorem spec_Records.mono : ∀ a0 a1 k, LeO (spec_Records.f k a0 a1) (spec_Records.f (k + 1) a0 a1) := by
  intro a0 a1 k; unfold spec_Records.f
  repeat' with_reducible first | exact LeO.refl _ | exact LeO.none _ | refine LeO.ite ?_ ?_ | refine LeO.bind ?_ (fun _ => ?_) | exact spec_WeaveOk.mono _ _ _ | exact spec_l07Records.mono _ _ _
set_option maxHeartbeats 8000000 in
set_option maxRecDepth 100000 in
theorem spec_Records.calls (k : Nat) (A0_0 : Option Addr) (c0_0 : Nat) (l0_0 : List (List Int)) (A0_1 : Option Addr) (c0_1 : Nat) (l0_1 : List (S55)) (r1 : List (S48)) (r2 : Bool) (w : World) (hr0_0 : Kd.C (Kd.slice 3 (Kd.int .i64)) w A0_0 l0_0.length l0_0) (hc0_0 : l0_0.length ≤ c0_0) (hr0_1 : Kd.C k55 w A0_1 l0_1.length l0_1) (hc0_1 : l0_1.length ≤ c0_1) (h : spec_Records.f k l0_0 l0_1 = some (r1, r2)) :
    Calls Tryz.prog 28 #[.agg #[.slice A0_0 l0_0.length c0_0, .slice A0_1 l0_1.length c0_1]] w fun e w' => ∃ v0_ : Value, e = .returned (.tuple #[v0_, .bool r2]) ∧ Kd.R k48 48 w' w.heap.size (fun _ => True) v0_ r1 ∧ Below w.heap.size w w' := by
  have hu28 := Tryz.underlying28; have HR0_0 := Aside0.mk hr0_0; have HC0_0 := Aside0.mk hc0_0; clear hr0_0 hc0_0; have HR0_1 := Aside0.mk hr0_1; have HC0_1 := Aside0.mk hc0_1; clear hr0_1 hc0_1; have HB := Aside0.mk (Below.refl w.heap.size w); have H : ((spec_WeaveOk.f k l0_0 l0_1).bind fun t355 => (if t355 = true then ((spec_l07Records.f k l0_0 l0_1).bind fun t356 => (if (t356.length : Int) > 4000 then (some ((([] : List (S48))), false)) else (some (t356, true)))) else (some ((([] : List (S48))), false)))) = some (r1, r2) := h; clear h; replace H := Option.bind_eq_some_iff.mp H; obtain ⟨t355, A20, H⟩ := H; replace H : (if t355 = true then ((spec_l07Records.f k l0_0 l0_1).bind fun t356 => (if (t356.length : Int) > 4000 then (some ((([] : List (S48))), false)) else (some (t356, true)))) else (some ((([] : List (S48))), false))) = some (r1, r2) := H; have A2 := Aside0.mk A20; clear A20; by_cases c3 : t355 = true
  · subst c3; have H1 : ((spec_l07Records.f k l0_0 l0_1).bind fun t356 => (if (t356.length : Int) > 4000 then (some ((([] : List (S48))), false)) else (some (t356, true)))) = some (r1, r2) := (by rw [if_pos rfl] at H; exact H); clear H; have H := H1; clear H1; replace H := Option.bind_eq_some_iff.mp H; obtain ⟨t356, A40, H⟩ := H; replace H : (if (t356.length : Int) > 4000 then (some ((([] : List (S48))), false)) else (some (t356, true))) = some (r1, r2) := H; have A4 := Aside0.mk A40; clear A40; by_cases c5 : (t356.length : Int) > 4000
    ·rw [if_pos c5] at H; have c5b0 : decide (4000 < (t356.length : Int)) = true := decide_eq_true c5; have c5b1 : decide (4000 < t356.length) = true := decide_eq_true (by omega); clear c5; obtain ⟨y359, hy359⟩ : ∃ y_ : List (S48), y_ = (([] : List (S48))) := ⟨_, rfl⟩; replace H : (some (y359, false)) = some (r1, r2) := (by first | (rw [hy359]; with_reducible exact H) | (have H2_ := (Option.bind_some _ _).symm.trans H; rw [hy359]; with_reducible exact H2_) | (have H2_ := (Option.bind_some _ _).symm.trans H; with_reducible exact H2_) | with_reducible exact H | (rw [hy359]; exact H) | exact H); have Ny359 := Aside0.mk hy359; clear hy359; simp only [Option.some.injEq, Prod.mk.injEq] at H; obtain ⟨rfl, rfl⟩ := H; go_enter Tryz.func28, Tryz.ntmps28; go_wp2_with (first | ((with_reducible refine gate_dst (N := 1) rfl ?_); refine be_ 1 #[.slice A0_0 l0_0.length c0_0, .slice A0_1 l0_1.length c0_1] 28 ?_; intro gb354 hg w6 hbox hb; refine ai4_ (below_step q0_ hb) (hbox) (gw_ hg q0_) (gw_ hg q0_) ?_; clear HB; intro HB BK354 GW354 GE354; clear hb hbox hg; obtain ⟨hcz7_0, hcz7_1, hfz7_0, hfz7_1⟩ := bk2_ BK354.out) | ((with_reducible refine gate_callee (f := 57) rfl ?_); refine goesL_ (some 6) rfl rfl Tryz.func57 (by kernel_rfl) rfl #[.agg #[.slice A0_0 l0_0.length c0_0, .slice A0_1 l0_1.length c0_1]] rfl q2_ ?_; (with_reducible refine (spec_WeaveOk.calls k _ _ l0_0 _ _ l0_1 true _ ?side1 ?side2 ?side3 ?side4 A2.out).mono ?_); (case side1 => exact q8_); (case side2 => exact HC0_0.out); (case side3 => exact q23_); (case side4 => exact HC0_1.out); rintro e w8 ⟨rfl, hb⟩; refine ⟨_, rfl, ?_⟩; refine ai2_ (bb_ BK354 hb) (below_step q19_ hb) ?_; clear BK354 HB; intro BK354 HB; (try clear hb); (try clear hb2); (try clear hk); (try clear hi); obtain ⟨hcz9_0, hcz9_1, hfz9_0, hfz9_1⟩ := bk2_ BK354.out) | ((with_reducible refine gate_callee (f := 51) rfl ?_); refine goesL_ (some 10) rfl rfl Tryz.func51 (by kernel_rfl) rfl #[.agg #[.slice A0_0 l0_0.length c0_0, .slice A0_1 l0_1.length c0_1]] rfl q2_ ?_; (with_reducible refine (spec_l07Records.calls k _ _ l0_0 (fun k_ => k_ < w.heap.size) _ _ l0_1 t356 _ ?side1 ?side2 ?side3 A4.out).mono ?_); (case side1 => exact q8_); (case side2 => exact HC0_0.out); (case side3 => exact Kd.V_mk HC0_1.out (Kd.F_below (Kd.C_F k55_heap HR0_1.out) q19_)); rintro e w10 ⟨v357, rfl, ho0, hb⟩; refine ⟨_, rfl, ?_⟩; refine ai3_ (Kd.R_lower (Kd.R_mono (ok' := fun k_ => True) ho0 (fun _ hk_ => trivial)) (below_size q19_)) (bb_ BK354 hb) (below_step q19_ hb) ?_; clear BK354 HB; intro HO358 BK354 HB; (try clear hb); (try clear hb2); (try clear hk); (try clear hi); (try clear ho0); obtain ⟨Ao11, co11, eo11⟩ := Kd.R_slice HO358.out; subst eo11) | ((with_reducible refine gate_dst (N := 14) rfl ?_); refine Kd.R_lit k48 _ 48 ?hg (N := 14) ?hd (xs := ([] : List (S48))) (inner := []) (ok := fun _ => True) (okp := fun _ => True) ?hr ?hp (fun _ hk => hk) trivial (Below.refl _ _) (Nat.le_refl _) (by simp) ?_; (case hd => rfl); (case hg => rfl); (case hr => first | (go_simp; done) | (go_simp; rfl)); (case hp => exact (Reps.none _ _)); intro v360 w12 ho13 hb hg_ hnew_; clear hg_ hnew_; (first | rw [← Ny359.out] at ho13 | (simp only [Int.reduceToNat] at ho13; rw [← Ny359.out] at ho13)); refine ai4_ (Kd.R_elder' (zp_ HO358) (Kd.R_base ho13) hb) (Kd.R_lower (Kd.R_new' ho13 (Kd.R_lt (zp_ HO358))) (below_size q19_)) (bb_ BK354 hb) (below_step q19_ hb) ?_; clear HO358 BK354 HB; intro HO358 HO361 BK354 HB; clear hb ho13)); go_ret2; exact ⟨_, er_, by (with_reducible repeat (first | apply Kd.R_alloc | apply Kd.R_drewN | apply Kd.R_drew)); exact Kd.R_mono HO361.out (fun _ hk => trivial), zb_⟩
    ·rw [if_neg c5] at H; have c5b0 : decide (4000 < (t356.length : Int)) = false := decide_eq_false c5; have c5b1 : decide (4000 < t356.length) = false := decide_eq_false (by omega); clear c5; simp only [Option.some.injEq, Prod.mk.injEq] at H; obtain ⟨rfl, rfl⟩ := H; go_enter Tryz.func28, Tryz.ntmps28; go_wp2_with (first | ((with_reducible refine gate_dst (N := 1) rfl ?_); refine be_ 1 #[.slice A0_0 l0_0.length c0_0, .slice A0_1 l0_1.length c0_1] 28 ?_; intro gb354 hg w14 hbox hb; refine ai4_ (below_step q0_ hb) (hbox) (gw_ hg q0_) (gw_ hg q0_) ?_; clear HB; intro HB BK354 GW354 GE354; clear hb hbox hg; obtain ⟨hcz15_0, hcz15_1, hfz15_0, hfz15_1⟩ := bk2_ BK354.out) | ((with_reducible refine gate_callee (f := 57) rfl ?_); refine goesL_ (some 6) rfl rfl Tryz.func57 (by kernel_rfl) rfl #[.agg #[.slice A0_0 l0_0.length c0_0, .slice A0_1 l0_1.length c0_1]] rfl q2_ ?_; (with_reducible refine (spec_WeaveOk.calls k _ _ l0_0 _ _ l0_1 true _ ?side1 ?side2 ?side3 ?side4 A2.out).mono ?_); (case side1 => exact q8_); (case side2 => exact HC0_0.out); (case side3 => exact q23_); (case side4 => exact HC0_1.out); rintro e w16 ⟨rfl, hb⟩; refine ⟨_, rfl, ?_⟩; refine ai2_ (bb_ BK354 hb) (below_step q19_ hb) ?_; clear BK354 HB; intro BK354 HB; (try clear hb); (try clear hb2); (try clear hk); (try clear hi); obtain ⟨hcz17_0, hcz17_1, hfz17_0, hfz17_1⟩ := bk2_ BK354.out) | ((with_reducible refine gate_callee (f := 51) rfl ?_); refine goesL_ (some 10) rfl rfl Tryz.func51 (by kernel_rfl) rfl #[.agg #[.slice A0_0 l0_0.length c0_0, .slice A0_1 l0_1.length c0_1]] rfl q2_ ?_; (with_reducible refine (spec_l07Records.calls k _ _ l0_0 (fun k_ => k_ < w.heap.size) _ _ l0_1 t356 _ ?side1 ?side2 ?side3 A4.out).mono ?_); (case side1 => exact q8_); (case side2 => exact HC0_0.out); (case side3 => exact Kd.V_mk HC0_1.out (Kd.F_below (Kd.C_F k55_heap HR0_1.out) q19_)); rintro e w18 ⟨v357, rfl, ho0, hb⟩; refine ⟨_, rfl, ?_⟩; refine ai3_ (Kd.R_lower (Kd.R_mono (ok' := fun k_ => True) ho0 (fun _ hk_ => trivial)) (below_size q19_)) (bb_ BK354 hb) (below_step q19_ hb) ?_; clear BK354 HB; intro HO358 BK354 HB; (try clear hb); (try clear hb2); (try clear hk); (try clear hi); (try clear ho0); obtain ⟨Ao19, co19, eo19⟩ := Kd.R_slice HO358.out; subst eo19)); go_ret2; exact ⟨_, er_, zp_ HO358, zb_⟩
  · replace c3 := Bool.eq_false_iff.mpr c3; subst c3; have H1 : (some ((([] : List (S48))), false)) = some (r1, r2) := (by rw [if_neg (show ¬ (false = true) by decide)] at H; exact H); clear H; have H := H1; clear H1; obtain ⟨y362, hy362⟩ : ∃ y_ : List (S48), y_ = (([] : List (S48))) := ⟨_, rfl⟩; replace H : (some (y362, false)) = some (r1, r2) := (by first | (rw [hy362]; with_reducible exact H) | (have H2_ := (Option.bind_some _ _).symm.trans H; rw [hy362]; with_reducible exact H2_) | (have H2_ := (Option.bind_some _ _).symm.trans H; with_reducible exact H2_) | with_reducible exact H | (rw [hy362]; exact H) | exact H); have Ny362 := Aside0.mk hy362; clear hy362; simp only [Option.some.injEq, Prod.mk.injEq] at H; obtain ⟨rfl, rfl⟩ := H; go_enter Tryz.func28, Tryz.ntmps28; go_wp2_with (first | ((with_reducible refine gate_dst (N := 1) rfl ?_); refine be_ 1 #[.slice A0_0 l0_0.length c0_0, .slice A0_1 l0_1.length c0_1] 28 ?_; intro gb354 hg w20 hbox hb; refine ai4_ (below_step q0_ hb) (hbox) (gw_ hg q0_) (gw_ hg q0_) ?_; clear HB; intro HB BK354 GW354 GE354; clear hb hbox hg; obtain ⟨hcz21_0, hcz21_1, hfz21_0, hfz21_1⟩ := bk2_ BK354.out) | ((with_reducible refine gate_callee (f := 57) rfl ?_); refine goesL_ (some 6) rfl rfl Tryz.func57 (by kernel_rfl) rfl #[.agg #[.slice A0_0 l0_0.length c0_0, .slice A0_1 l0_1.length c0_1]] rfl q2_ ?_; (with_reducible refine (spec_WeaveOk.calls k _ _ l0_0 _ _ l0_1 false _ ?side1 ?side2 ?side3 ?side4 A2.out).mono ?_); (case side1 => exact q8_); (case side2 => exact HC0_0.out); (case side3 => exact q23_); (case side4 => exact HC0_1.out); rintro e w22 ⟨rfl, hb⟩; refine ⟨_, rfl, ?_⟩; refine ai2_ (bb_ BK354 hb) (below_step q19_ hb) ?_; clear BK354 HB; intro BK354 HB; (try clear hb); (try clear hb2); (try clear hk); (try clear hi)) | ((with_reducible refine gate_dst (N := 8) rfl ?_); refine Kd.R_lit k48 _ 48 ?hg (N := 8) ?hd (xs := ([] : List (S48))) (inner := []) (ok := fun _ => True) (okp := fun _ => True) ?hr ?hp (fun _ hk => hk) trivial (Below.refl _ _) (Nat.le_refl _) (by simp) ?_; (case hd => rfl); (case hg => rfl); (case hr => first | (go_simp; done) | (go_simp; rfl)); (case hp => exact (Reps.none _ _)); intro v363 w23 ho24 hb hg_ hnew_; clear hg_ hnew_; (first | rw [← Ny362.out] at ho24 | (simp only [Int.reduceToNat] at ho24; rw [← Ny362.out] at ho24)); refine ai3_ (Kd.R_lower ho24 (below_size q19_)) (bb_ BK354 hb) (below_step q19_ hb) ?_; clear BK354 HB; intro HO364 BK354 HB; clear hb ho24)); go_ret2; exact ⟨_, er_, zp_ HO364, zb_⟩

/-! ### spec_l07Same: function 29 -/
def spec_l07Same.l0 : Nat → List (S48) → List (S48) → Int → Option (Bool)
  | 0, _, _, _ => none
  | k + 1, x0, x1, x5 => if x5 < (x0.length : Int) then (if 0 ≤ x5 then (if x5 < (x1.length : Int) then (if (!(((rd_T48 x0 x5).f0) == ((rd_T48 x1 x5).f0)) || (!(((rd_T48 x0 x5).f1) == ((rd_T48 x1 x5).f1)) || (!((((rd_T48 x0 x5).f2).toList) == (((rd_T48 x1 x5).f2).toList))))) = true then (some false) else (spec_l07Same.l0 k x0 x1 (wrap64 (x5 + 1)))) else (none)) else (none)) else (some true)
def spec_l07Same.f (k : Nat) (l0 : List (S48)) (l1 : List (S48)) : Option (Bool) := if (l0.length : Int) = (l1.length : Int) then (spec_l07Same.l0 k l0 l1 0) else (some false)
theorem spec_l07Same.mono_l : ∀ k, (∀ y0 y1 y2, LeO (spec_l07Same.l0 k y0 y1 y2) (spec_l07Same.l0 (k + 1) y0 y1 y2))
  | 0 => by intros; exact LeO.none _
  | k + 1 => by
    have ih0 := spec_l07Same.mono_l k; intros ; unfold spec_l07Same.l0 ; repeat' with_reducible first | exact LeO.refl _ | exact LeO.none _ | refine LeO.ite ?_ ?_ | refine LeO.bind ?_ (fun _ => ?_) | exact ih0 _ _ _
theorem spec_l07Same.mono : ∀ a0 a1 k, LeO (spec_l07Same.f k a0 a1) (spec_l07Same.f (k + 1) a0 a1) := by
  intro a0 a1 k; have ih0 := spec_l07Same.mono_l k; unfold spec_l07Same.f
  repeat' with_reducible first | exact LeO.refl _ | exact LeO.none _ | refine LeO.ite ?_ ?_ | refine LeO.bind ?_ (fun _ => ?_) | exact ih0 _ _ _
set_option maxHeartbeats 8000000 in
set_option maxRecDepth 100000 in
theorem spec_l07Same.calls (k : Nat) (A0 : Option Addr) (c0 : Nat) (l0 : List (S48)) (A1 : Option Addr) (c1 : Nat) (l1 : List (S48)) (r : Bool) (w : World) (hr0 : Kd.C k48 w A0 l0.length l0) (hc0 : l0.length ≤ c0) (hr1 : Kd.C k48 w A1 l1.length l1) (hc1 : l1.length ≤ c1) (h : spec_l07Same.f k l0 l1 = some r) :
    Calls Tryz.prog 29 #[.slice A0 l0.length c0, .slice A1 l1.length c1] w fun e w' => e = .returned (.bool r) ∧ Drawn0 w w' := by
  have hu48 := Tryz.underlying48; have HR0 := Aside0.mk hr0; have HC0 := Aside0.mk hc0; clear hr0 hc0; have HR1 := Aside0.mk hr1; have HC1 := Aside0.mk hc1; clear hr1 hc1; have H : (if (l0.length : Int) = (l1.length : Int) then (spec_l07Same.l0 k l0 l1 0) else (some false)) = some r := h; clear h; by_cases c3 : (l0.length : Int) = (l1.length : Int)
  · rw [if_pos c3] at H; have c3b0 : ((l0.length : Int) == (l1.length : Int)) = true := beq_iff_eq.mpr c3; have c3b1 : ((l0.length : Int) != (l1.length : Int)) = false := bne_eq_false_iff_eq.mpr c3; have c3b2 : (l0.length == l1.length) = true := (by first | simpa using c3 | (simp at c3 ⊢; omega)); clear c3; have H' := Aside0.mk H; clear H; go_enter Tryz.func29, Tryz.ntmps29; go_wp2
    repeat (go_quiet (fail); try go_wp2)
    go_loopg [5] k (fun kq v5 w' => ∃ (x5_1 : Int), v5 = .int .i64 x5_1 ∧ Aside0 (spec_l07Same.l0 kq l0 l1 x5_1 = some r) ∧ Aside0 (kq ≤ k) ∧ Drawn0 w w')
    case atStart => exact ⟨(0), q4_, H', ⟨Nat.le_refl _⟩, by repeat (first | exact Drawn0.refl _ | apply Drawn0.step)⟩
    case round =>
     clear H'; (try clear c1); (try clear c2); (try clear p2); (try clear c3); (try clear c3b0); (try clear c3b1); (try clear c3b2); obtain ⟨x5_1, rfl, HA, HK1, ⟨m1, rfl⟩⟩ := hrel
     cases gk with
     | zero => exact absurd HA.out (by simp [spec_l07Same.l0])
     | succ k1 =>
      have H := HA.out; clear HA; simp only [spec_l07Same.l0] at H; by_cases c4 : x5_1 < (l0.length : Int)
      ·rw [if_pos c4] at H; have c4b0 : decide (x5_1 < (l0.length : Int)) = true := decide_eq_true c4; clear c4; obtain ⟨c5b0, H⟩ := ifd_ H; obtain ⟨c6b0, H⟩ := ifd_ H; by_cases c7 : (!(((rd_T48 l0 x5_1).f0) == ((rd_T48 l1 x5_1).f0)) || (!(((rd_T48 l0 x5_1).f1) == ((rd_T48 l1 x5_1).f1)) || (!((((rd_T48 l0 x5_1).f2).toList) == (((rd_T48 l1 x5_1).f2).toList))))) = true
       ·rw [if_pos c7] at H; have c7b0 : (!(((rd_T48 l0 x5_1).f0) == ((rd_T48 l1 x5_1).f0)) || (!(((rd_T48 l0 x5_1).f1) == ((rd_T48 l1 x5_1).f1)) || (!((((rd_T48 l0 x5_1).f2).toList) == (((rd_T48 l1 x5_1).f2).toList))))) = true := c7; clear c7; obtain rfl := Option.some.inj H; have p365 : 0 ≤ (x5_1 : Int) := of_decide_eq_true q1_; have q365 : x5_1 < (l0.length : Int) := of_decide_eq_true q1_; obtain ⟨ad365, e365, hx365_0, hx365_1, hx365_2⟩ := at_T48 HR0.out x5_1 p365 q365; cases e365; replace p365 := eq_true p365; replace q365 := eq_true q365; have p366 : 0 ≤ (x5_1 : Int) := of_decide_eq_true q1_; have q366 : x5_1 < (l1.length : Int) := of_decide_eq_true q1_; obtain ⟨ad366, e366, hx366_0, hx366_1, hx366_2⟩ := at_T48 HR1.out x5_1 p366 q366; cases e366; replace p366 := eq_true p366; replace q366 := eq_true q366; go_wp2
        repeat (go_quiet (fail); try go_wp2)
        go_ret; exact ⟨by first | rfl | (simp; done) | (simp [*]; done), by repeat (first | exact Drawn0.refl _ | apply Drawn0.step)⟩
       ·rw [if_neg c7] at H; have c7b0 : (!(((rd_T48 l0 x5_1).f0) == ((rd_T48 l1 x5_1).f0)) || (!(((rd_T48 l0 x5_1).f1) == ((rd_T48 l1 x5_1).f1)) || (!((((rd_T48 l0 x5_1).f2).toList) == (((rd_T48 l1 x5_1).f2).toList))))) = false := (by simpa using c7); clear c7; have H' := Aside0.mk H; clear H; have p365 : 0 ≤ (x5_1 : Int) := of_decide_eq_true q1_; have q365 : x5_1 < (l0.length : Int) := of_decide_eq_true q1_; obtain ⟨ad365, e365, hx365_0, hx365_1, hx365_2⟩ := at_T48 HR0.out x5_1 p365 q365; cases e365; replace p365 := eq_true p365; replace q365 := eq_true q365; have p366 : 0 ≤ (x5_1 : Int) := of_decide_eq_true q1_; have q366 : x5_1 < (l1.length : Int) := of_decide_eq_true q1_; obtain ⟨ad366, e366, hx366_0, hx366_1, hx366_2⟩ := at_T48 HR1.out x5_1 p366 q366; cases e366; replace p366 := eq_true p366; replace q366 := eq_true q366; go_wp2
        repeat (go_quiet (fail); try go_wp2)
        go_roundg k1
        case measure => have := HK1.out; omega
        case rel => exact ⟨(wrap64 (x5_1 + 1)), q4_, H', ⟨by have := HK1.out; omega⟩, by repeat (first | exact Drawn0.refl _ | apply Drawn0.step)⟩
      ·rw [if_neg c4] at H; have c4b0 : decide (x5_1 < (l0.length : Int)) = false := decide_eq_false c4; clear c4; obtain rfl := Option.some.inj H; go_wp2
       repeat (go_quiet (fail); try go_wp2)
       go_ret; exact ⟨by first | rfl | (simp; done) | (simp [*]; done), by repeat (first | exact Drawn0.refl _ | apply Drawn0.step)⟩
  · rw [if_neg c3] at H; have c3b0 : ((l0.length : Int) == (l1.length : Int)) = false := beq_eq_false_iff_ne.mpr c3; have c3b1 : ((l0.length : Int) != (l1.length : Int)) = true := bne_iff_ne.mpr c3; have c3b2 : (l0.length == l1.length) = false := (by first | simpa using c3 | (simp at c3 ⊢; omega)); obtain rfl := Option.some.inj H; go_enter Tryz.func29, Tryz.ntmps29; go_wp2
    repeat (go_quiet (fail); try go_wp2)
    go_ret; exact ⟨by first | rfl | (simp; done) | (simp [*]; done), by repeat (first | exact Drawn0.refl _ | apply Drawn0.step)⟩

/-! ### spec_FromRecords: function 7 -/
/-- What one record does to the counts, the bodies, the body that is told: none: no; some none: refused. -/
def spec_FromRecords.step (k : Nat) (n : Int) (born : List Int) (bs : List S55) (i : Int) (d : List Int) (r : S48) : Option (Option (List Int × List S55 × Int × List Int)) :=
  if r.f0 = 2 then some (some (born, bs, r.f1, d)) else
  if r.f0 = 3 then some (some (born, bs, -1, d)) else
  if r.f0 = 4 then (spec_l07With.f k d r.f1).bind fun t => some (some (born, bs, i, t)) else
  if r.f0 = 5 then (spec_l07Without.f k d r.f1).bind fun t => some (some (born, bs, i, t)) else
  if r.f0 = 1 then (spec_l01In.f i 0 (wrap64 (n - 1))).bind fun t => if t = true then (if 0 ≤ i then (if i < (born.length : Int) then (if d.length < 17592186044416 then (if bs.length < 2513169434916 then some (some (born.set i.toNat (wrap64 (rd born i + 1)), bs ++ [(⟨r.f2, i, rd born i, d⟩ : S55)], i, d)) else none) else none) else none) else none) else some none
  else some (some (born, bs, i, d))
def spec_FromRecords.l1 : Nat → List (List Int) → List S48 → Int → List Int → List S55 → Int → List Int → Int → Option (List (List Int) × List S55 × Bool)
  | 0, _, _, _, _, _, _, _, _ => none
  | k + 1, ps, l1, n, born, bs, i, d, x => if x < (l1.length : Int) then (if 0 ≤ x then ((spec_FromRecords.step k n born bs i d (rd_T48 l1 x)).bind fun s =>
        (match s with | none => some ([], [], false) | some st => if (st.2.2.2.length : Int) > 40 then some ([], [], false) else if (st.2.1.length : Int) > 300 then some ([], [], false) else spec_FromRecords.l1 k ps l1 n st.1 st.2.1 st.2.2.1 st.2.2.2 (wrap64 (x + 1)))) else none)
      else (spec_Records.f k ps bs).bind fun b => if b.2 = true then ((spec_l07Same.f k b.1 l1).bind fun e => if e = true then some (ps, bs, true) else some ([], [], false)) else some ([], [], false)
def spec_FromRecords.l0 : Nat → List (List Int) → List S48 → Int → List (List Int) → Option (List (List Int) × List S55 × Bool)
  | 0, _, _, _, _ => none
  | k + 1, l0, l1, x, acc => if x < (l0.length : Int) then (if 0 ≤ x then (if (rd_L1 l0 x).length < 17592186044416 then (if acc.length < 5864062014805 then spec_FromRecords.l0 k l0 l1 (wrap64 (x + 1)) (acc ++ [rd_L1 l0 x]) else none) else none) else none)
      else (if l0.length ≤ 35184372088832 then spec_FromRecords.l1 k acc l1 (l0.length : Int) (List.replicate l0.length 0) [] (-1) [] 0 else none)
def spec_FromRecords.f (k : Nat) (l0 : List (List Int)) (l1 : List S48) : Option (List (List Int) × List S55 × Bool) := (spec_GraphOk.f k l0).bind fun t => if t = true then (if (l1.length : Int) > 4000 then some ([], [], false) else spec_FromRecords.l0 k l0 l1 0 []) else some ([], [], false)
theorem spec_FromRecords.mono_s (k : Nat) (n : Int) (born : List Int) (bs : List S55) (i : Int) (d : List Int) (r : S48) : LeO (spec_FromRecords.step k n born bs i d r) (spec_FromRecords.step (k + 1) n born bs i d r) := by
  unfold spec_FromRecords.step
  repeat' first
      | (with_reducible exact spec_l07With.mono _ _ _)
      | (with_reducible exact spec_l07Without.mono _ _ _)
      | (with_reducible exact LeO.refl _)
      | (with_reducible refine LeO.ite ?_ ?_)
      | (with_reducible refine LeO.bind ?_ (fun _ => ?_))
theorem spec_FromRecords.mono_1 : ∀ k, ∀ ps l1 n born bs i d x, LeO (spec_FromRecords.l1 k ps l1 n born bs i d x) (spec_FromRecords.l1 (k + 1) ps l1 n born bs i d x)
  | 0 => fun _ _ _ _ _ _ _ _ r h => by simp [spec_FromRecords.l1] at h
  | k + 1 => by
    have ih0 := spec_FromRecords.mono_1 k
    intro ps l1 n born bs i d x
    unfold spec_FromRecords.l1
    refine LeO.ite (LeO.ite (LeO.bind (spec_FromRecords.mono_s k _ _ _ _ _ _) (fun s => ?_)) (LeO.refl _)) (LeO.bind (spec_Records.mono _ _ _) (fun _ => LeO.ite (LeO.bind (spec_l07Same.mono _ _ _) (fun _ => LeO.refl _)) (LeO.refl _)))
    cases s with
    | none => exact LeO.refl _
    | some st => exact LeO.ite (LeO.refl _) (LeO.ite (LeO.refl _) (ih0 _ _ _ _ _ _ _ _))
theorem spec_FromRecords.mono_0 : ∀ k, ∀ l0 l1 x acc, LeO (spec_FromRecords.l0 k l0 l1 x acc) (spec_FromRecords.l0 (k + 1) l0 l1 x acc)
  | 0 => fun _ _ _ _ r h => by simp [spec_FromRecords.l0] at h
  | k + 1 => by
    have ih0 := spec_FromRecords.mono_0 k
    intro l0 l1 x acc
    unfold spec_FromRecords.l0
    exact LeO.ite (LeO.ite (LeO.ite (LeO.ite (ih0 _ _ _ _) (LeO.refl _)) (LeO.refl _)) (LeO.refl _)) (LeO.ite (spec_FromRecords.mono_1 k _ _ _ _ _ _ _ _) (LeO.refl _))
theorem spec_FromRecords.mono : ∀ l0 l1 k, LeO (spec_FromRecords.f k l0 l1) (spec_FromRecords.f (k + 1) l0 l1) := by
  intro l0 l1 k
  unfold spec_FromRecords.f
  exact LeO.bind (spec_GraphOk.mono _ _) (fun _ => LeO.ite (LeO.ite (LeO.refl _) (spec_FromRecords.mono_0 k _ _ _ _)) (LeO.refl _))
theorem empty_row (W : World) : Kd.R (Kd.int .i64) 3 (W.alloc (.cells #[] 3)) W.heap.size (fun _ => True) (.slice (some ⟨W.heap.size, 0, none⟩) 0 0) [] :=
  Kd.R_of_own ⟨rfl, .inr ⟨W.heap.size, 0, #[], rfl, Nat.le_refl _, heap_alloc_new W _, Nat.le_refl _, by decide, rfl, rfl⟩⟩ (fun _ _ => trivial)
/-- Ahead of the records' loop: the answer's block, the weave's, the parents so far. -/
structure Pre (w0 W : World) (g4 g6 : Nat) (vp : Value) (ps : List (List Int)) : Prop where
  b : Below w0.heap.size w0 W
  n4 : w0.heap.size ≤ g4
  n6 : w0.heap.size ≤ g6
  e46 : g4 ≠ g6
  h4 : W.heap[g4]? = some (.cells #[.slice none 0 0, .slice none 0 0] 28 (0, 0))
  h6 : W.heap[g6]? = some (.cells #[vp, .slice none 0 0] 28 (0, 0))
  sp : Kd.S (Kd.slice 3 (Kd.int .i64)) 50 W w0.heap.size (fun k => k ≠ g4 ∧ k ≠ g6) vp ps
section
variable {w0 W W1 : World} {g4 g6 : Nat} {vp vp1 : Value} {ps : List (List Int)} {p : List Int}
theorem Pre.below (h : Pre w0 W g4 g6 vp ps) (hb : Below W.heap.size W W1) : Pre w0 W1 g4 g6 vp ps :=
  { h with b := below_step h.b hb, h4 := (hb.block g4 (blk_lt h.h4)).trans h.h4, h6 := (hb.block g6 (blk_lt h.h6)).trans h.h6, sp := Kd.S_below h.sp hb }
theorem Pre.fresh (h : Pre w0 W g4 g6 vp ps) (k : Nat) (hk : W.heap.size ≤ k) : (k ≠ g4 ∧ k ≠ g6) ∧ some k ≠ vp.ownBlock := by
  have := blk_lt h.h4
  have := blk_lt h.h6
  have l := Kd.S_lt h.sp
  exact ⟨⟨by omega, by omega⟩, fun e => by have := l _ e.symm; omega⟩
theorem Pre.off (h : Pre w0 W g4 g6 vp ps) : some g6 ≠ vp.ownBlock := fun e => ((Kd.S_R h.sp).1 _ e.symm).2 rfl
theorem Pre.row (h : Pre w0 W g4 g6 vp ps) (ho : Kd.S (Kd.slice 3 (Kd.int .i64)) 50 W1 w0.heap.size (fun k => k ≠ g4 ∧ k ≠ g6) vp1 (ps ++ [p])) (hB : Below w0.heap.size w0 W1) (hg : W.grownBy W1 vp.ownBlock) : Pre w0 (W1.setCell ⟨g6, 0, none⟩ vp1) g4 g6 vp1 (ps ++ [p]) := by
  have hbk := (Kd.S_R h.sp).1
  have h41 := blk_grown h.h4 hg (fun e => (hbk _ e.symm).1 rfl)
  have h61 := blk_grown h.h6 hg (fun e => (hbk _ e.symm).2 rfl)
  exact { h with b := below_set hB h.n6, h4 := blk_far h41 h.e46 _, h6 := by simpa using blk_set h61 0 vp1, sp := Kd.S_far (p := ⟨g6, 0, none⟩) ho (fun k hk => hk.2) _ }
/-- The counts are made, the body that is told has its block. -/
theorem Pre.lies {v8 : Value} {born : List Int} {ok : Nat → Prop} (h : Pre w0 W g4 g6 vp ps) (hb : Below W.heap.size W W1) (hr : Kd.R (Kd.int .i64) 3 W1 W.heap.size ok v8 born) (tn : Nat) (cs : Array Value) :
    ∃ m, Lies m w0 (W1.alloc (.cells cs tn)) g4 g6 W1.heap.size tn cs v8 vp (.slice none 0 0) (.slice none 0 0) ps born [] [] := by
  have h1 := h.below hb
  have l4 := blk_lt h.h4
  have l6 := blk_lt h.h6
  have hs := hb.size
  have hs0 := below_size h.b
  have l8 := Kd.R_lt hr
  have b8 := Kd.R_base hr
  refine ⟨W.heap.size, below_alloc h1.b _, h.n4, h.n6, by omega, h.e46, by omega, by omega, blk_alloc h1.h4 _, blk_alloc h1.h6 _, heap_alloc_new _ _, ?_, Kd.R_nil _ _ _ _ _, ?_, Kd.S_nil _ _ _ _ _, by rw [World.size_alloc]; omega⟩
  · exact Kd.R_alloc (Kd.R_of_own (Kd.own_of_R (Kd.R_lower hr hs0)) (fun k hk => by have := l8 k hk; have := b8 k hk; exact ⟨by omega, by omega, by omega, by simp [Value.ownBlock]⟩)) _
  · refine Kd.S_alloc (Kd.S_mono (Kd.S_below (Kd.S_bound h.sp) hb) (fun k hk => ?_)) _
    have h3 := hk.2.2.1
    exact ⟨hk.1.1, hk.1.2, by omega, fun e => by have := b8 k e.symm; omega, by simp [Value.ownBlock], h3⟩
end
set_option maxHeartbeats 8000000 in
set_option maxRecDepth 100000 in
theorem spec_FromRecords.calls (k : Nat) (A0 : Option Addr) (c0 : Nat) (l0 : List (List Int)) (A1 : Option Addr) (c1 : Nat) (l1 : List S48) (r1 : List (List Int)) (r2 : List S55) (r3 : Bool) (w : World) (hr0 : Kd.C (Kd.slice 3 (Kd.int .i64)) w A0 l0.length l0) (hc0 : l0.length ≤ c0) (hr1 : Kd.C k48 w A1 l1.length l1) (hc1 : l1.length ≤ c1) (h : spec_FromRecords.f k l0 l1 = some (r1, r2, r3)) :
    Calls Tryz.prog 7 #[.slice A0 l0.length c0, .slice A1 l1.length c1] w fun e w' => ∃ v0_ v1_ : Value, e = .returned (.tuple #[.agg #[v0_, v1_], .bool r3]) ∧ Kd.S (Kd.slice 3 (Kd.int .i64)) 50 w' w.heap.size (fun _ => True) v0_ r1 ∧ Kd.S k55 55 w' w.heap.size (fun _ => True) v1_ r2 ∧ Below w.heap.size w w' := by
  have hu28 := Tryz.underlying28
  unfold spec_FromRecords.f at h
  have HR0 := Aside0.mk hr0
  have HC0 := Aside0.mk hc0
  have HR1 := Aside0.mk hr1
  have HC1 := Aside0.mk hc1
  clear hr0 hc0 hr1 hc1
  go_enter Tryz.func7, Tryz.ntmps7
  go_upto_region 1 with (fail)
  have hb4 : (w.alloc (.cells #[.slice none 0 0, .slice none 0 0] 28)).heap[w.heap.size]? = some (.cells #[.slice none 0 0, .slice none 0 0] 28 (0, 0)) := heap_alloc_new w _
  have hw4 : Below w.heap.size w (w.alloc (.cells #[.slice none 0 0, .slice none 0 0] 28)) := below_alloc (Below.refl _ _) _
  generalize w.alloc (.cells #[.slice none 0 0, .slice none 0 0] 28) = w4 at hb4 hw4 ⊢
  generalize hgq : w.heap.size = g4 at hb4 ⊢
  have hg4 : w.heap.size ≤ g4 := Nat.le_of_eq hgq
  replace h := Option.bind_eq_some_iff.mp h
  obtain ⟨t, ht, h⟩ := h
  have HT := Aside0.mk ht
  have HR4 := Aside0.mk (Kd.C_below HR0.out hw4)
  clear ht
  cases t with
  | false =>
    rw [if_neg (by decide)] at h
    simp only [Option.some.injEq, Prod.mk.injEq] at h
    obtain ⟨rfl, rfl, rfl⟩ := h
    go_upto_region 2 with (go_at_call 24; (with_reducible refine (spec_GraphOk.calls k _ _ l0 false _ ?side1 ?side2 HT.out).mono ?_); (case side1 => exact HR4.out); (case side2 => exact HC0.out); rintro e w' ⟨rfl, ⟨nd, rfl⟩⟩)
    have hb5 : (w4.drewN nd).heap[g4]? = some (.cells #[.slice none 0 0, .slice none 0 0] 28 (0, 0)) := hb4
    have z0 : (w4.drewN nd).cell? ⟨g4, 0, none⟩ = some (.slice none 0 0) := (blk_cell hb5 0).trans rfl
    have z1 : (w4.drewN nd).cell? ⟨g4, 1, none⟩ = some (.slice none 0 0) := (blk_cell hb5 1).trans rfl
    have f0 := blk_frozen hb5 0
    have f1 := blk_frozen hb5 1
    go_wp2
    refine bodyPost_ret (results_ct rfl _ _ g4 28 #[.slice none 0 0, .slice none 0 0] (0, 0) _ rfl (nil_put hb5) hu28 rfl (by kernel_rfl)) rfl ?_
    exact ⟨_, _, rfl, Kd.S_nil _ _ _ _ _, Kd.S_nil _ _ _ _ _, below_set (below_set (pw_below_drewN hw4 _) hg4) hg4⟩
  | true =>
    rw [if_pos rfl] at h
    by_cases c : (l1.length : Int) > 4000
    · rw [if_pos c] at h
      have cb : decide ((l1.length : Int) > 4000) = true := decide_eq_true c
      simp only [Option.some.injEq, Prod.mk.injEq] at h
      obtain ⟨rfl, rfl, rfl⟩ := h
      clear c
      go_upto_region 2 with (go_at_call 24; (with_reducible refine (spec_GraphOk.calls k _ _ l0 true _ ?side1 ?side2 HT.out).mono ?_); (case side1 => exact HR4.out); (case side2 => exact HC0.out); rintro e w' ⟨rfl, ⟨nd, rfl⟩⟩)
      have hb5 : (w4.drewN nd).heap[g4]? = some (.cells #[.slice none 0 0, .slice none 0 0] 28 (0, 0)) := hb4
      have z0 : (w4.drewN nd).cell? ⟨g4, 0, none⟩ = some (.slice none 0 0) := (blk_cell hb5 0).trans rfl
      have z1 : (w4.drewN nd).cell? ⟨g4, 1, none⟩ = some (.slice none 0 0) := (blk_cell hb5 1).trans rfl
      have f0 := blk_frozen hb5 0
      have f1 := blk_frozen hb5 1
      go_wp2
      refine bodyPost_ret (results_ct rfl _ _ g4 28 #[.slice none 0 0, .slice none 0 0] (0, 0) _ rfl (nil_put hb5) hu28 rfl (by kernel_rfl)) rfl ?_
      exact ⟨_, _, rfl, Kd.S_nil _ _ _ _ _, Kd.S_nil _ _ _ _ _, below_set (below_set (pw_below_drewN hw4 _) hg4) hg4⟩
    rw [if_neg c] at h
    have cb : decide ((l1.length : Int) > 4000) = false := decide_eq_false c
    have HH := Aside0.mk h
    clear c h
    go_upto_region 3 with (go_at_call 24; (with_reducible refine (spec_GraphOk.calls k _ _ l0 true _ ?side1 ?side2 HT.out).mono ?_); (case side1 => exact HR4.out); (case side2 => exact HC0.out); rintro e w' ⟨rfl, ⟨nd, rfl⟩⟩)
    have hb5 : (w4.drewN nd).heap[g4]? = some (.cells #[.slice none 0 0, .slice none 0 0] 28 (0, 0)) := hb4
    have hw5 : Below w.heap.size w (w4.drewN nd) := pw_below_drewN hw4 nd
    clear hb4 hw4 HR4
    generalize w4.drewN nd = w5 at hb5 hw5 ⊢
    go_upto_region 4 with (fail)
    have HP : Aside0 (Pre w (w5.alloc (.cells #[.slice none 0 0, .slice none 0 0] 28)) g4 w5.heap.size (.slice none 0 0) []) := by
      have l4 := blk_lt hb5
      exact ⟨⟨below_alloc hw5 _, hg4, below_size hw5, by omega, blk_alloc hb5 _, heap_alloc_new w5 _, Kd.S_nil _ _ _ _ _⟩⟩
    clear hb5 hw5
    generalize (w5.alloc (.cells #[.slice none 0 0, .slice none 0 0] 28)) = w6 at HP ⊢
    generalize w5.heap.size = g6 at HP ⊢
    go_wp2
    go_loopg [7] k (fun kq v7 w' => ∃ (x : Int) (acc : List (List Int)) (vp : Value), v7 = .int .i64 x ∧ Aside0 (spec_FromRecords.l0 kq l0 l1 x acc = some (r1, r2, r3)) ∧ Aside0 (kq ≤ k) ∧ Aside0 (Pre w w' g4 g6 vp acc))
    case atStart => exact ⟨0, [], _, rfl, HH, ⟨Nat.le_refl _⟩, HP⟩
    case round =>
      clear HH HP
      obtain ⟨x, acc, vp, rfl, HA, HK, HP⟩ := hrel
      cases gk with
      | zero => exact absurd HA.out (by simp [spec_FromRecords.l0])
      | succ k1 =>
        have H := HA.out
        clear HA
        simp only [spec_FromRecords.l0] at H
        by_cases c6 : x < (l0.length : Int)
        · rw [if_pos c6] at H
          have c6b : decide (x < (l0.length : Int)) = true := decide_eq_true c6
          by_cases c7 : 0 ≤ x
          case neg => rw [if_neg c7] at H; exact absurd H (by simp)
          rw [if_pos c7] at H
          by_cases c8 : (rd_L1 l0 x).length < 17592186044416
          case neg => rw [if_neg c8] at H; exact absurd H (by simp)
          rw [if_pos c8] at H
          by_cases c9 : acc.length < 5864062014805
          case neg => rw [if_neg c9] at H; exact absurd H (by simp)
          rw [if_pos c9] at H
          have HH := Aside0.mk H
          have H8 := Aside0.mk c8
          have H9 := Aside0.mk c9
          obtain ⟨ad, Ai, ci, ea, hx, hli, hCi⟩ := at_L1 HR0.out x c7 c6
          cases ea
          have HLT := Aside0.mk (World.block_lt_of_cell? w _ hx)
          have hx0 := (HP.out.b.cell (World.block_lt_of_cell? w _ hx)).trans hx
          have HCI := Aside0.mk (Kd.C_below hCi HP.out.b)
          have HCL := Aside0.mk hli
          replace c7 := eq_true c7
          replace c6 := eq_true c6
          clear H c8 c9 hx hCi hli
          go_upto_region 7 with (fail)
          obtain ⟨Ap, cp, ep⟩ := Kd.S_slice HP.out.sp
          subst ep
          have q1 : wr.cell? ⟨g6, 0, none⟩ = some (.slice Ap acc.length cp) := (blk_cell HP.out.h6 0).trans rfl
          have HPD := Aside0.mk (HP.out.below (below_drew1 (Below.refl _ _)))
          have K8 := Aside0.mk (show wr.drew.cell? (ad.add x.toNat) = some (.slice Ai (rd_L1 l0 x).length ci) from hx0)
          have bE := below_alloc (Below.refl wr.drew.heap.size wr.drew) (.cells #[] 3)
          have KE := Aside0.mk (pw_cell_below bE K8.out)
          have qE : (wr.alloc (.cells #[] 3)).cell? ⟨g6, 0, none⟩ = some (.slice Ap acc.length cp) := pw_cell_below (below_alloc (Below.refl wr.heap.size wr) (.cells #[] 3)) q1
          have HBE := Aside0.mk bE
          have HCD := Aside0.mk (Kd.C_below HCI.out (below_drew1 (Below.refl _ _)))
          have HCE := Aside0.mk (Kd.C_below HCD.out bE)
          clear bE hx0 HCI
          refine wp_region_noPanic ?_
          refine wp_region_held_drew (S := (fun W' => W'.cell? (ad.add x.toNat) = some (.slice Ai (rd_L1 l0 x).length ci))) (by kernel_rfl) (by (try dsimp only); (first | exact K8.out | exact KE.out | exact KA.out | exact KB.out | exact KC.out | exact KD.out)) (fun hHeld => ?_)
          (refine wpAnyH_take (i := 0) (oi := _) (v := ?_) rfl (by kernel_rfl) (by kernel_rfl) (by kernel_rfl) (fun _ _ _ h => h) (Or.inl ⟨by rfl, ?_⟩) (by assumption) ?_; rotate_left; (· (intro w hSw; (try dsimp only at hSw); go_simp; try with_reducible rfl)); (try simp only [Act.put, List.setIfInBounds_toArray, List.set_cons_zero, List.set_cons_succ]))
          (refine wpAnyH_take (i := 3) (oi := _) (v := ?_) rfl (by kernel_rfl) (by kernel_rfl) (by kernel_rfl) (fun _ _ _ h => h) (Or.inl ⟨by rfl, ?_⟩) (by assumption) ?_; rotate_left; (· (intro w hSw; (try dsimp only at hSw); go_simp; try with_reducible rfl)); (try simp only [Act.put, List.setIfInBounds_toArray, List.set_cons_zero, List.set_cons_succ]))
          (refine wpAnyH_take (i := 4) (oi := _) (v := ?_) rfl (by kernel_rfl) (by kernel_rfl) (by kernel_rfl) (fun _ _ _ h => h) (Or.inl ⟨by rfl, ?_⟩) (by assumption) ?_; rotate_left; (· (intro w hSw; (try dsimp only at hSw); go_simp; try with_reducible rfl)); (try simp only [Act.put, List.setIfInBounds_toArray, List.set_cons_zero, List.set_cons_succ]))
          (refine wpAnyH_take (i := 5) (oi := _) (v := ?_) rfl (by kernel_rfl) (by kernel_rfl) (by kernel_rfl) (fun _ _ _ h => h) (Or.inl ⟨by rfl, ?_⟩) (by assumption) ?_; rotate_left; (· (intro w hSw; (try dsimp only at hSw); go_simp; try with_reducible rfl)); (try simp only [Act.put, List.setIfInBounds_toArray, List.set_cons_zero, List.set_cons_succ]))
          (refine wpAnyH_take (i := 6) (oi := _) (v := ?_) rfl (by kernel_rfl) (by kernel_rfl) (by kernel_rfl) (fun _ _ _ h => h) (Or.inl ⟨by rfl, ?_⟩) (by assumption) ?_; rotate_left; (· (intro w hSw; (try dsimp only at hSw); go_simp; try with_reducible rfl)); (try simp only [Act.put, List.setIfInBounds_toArray, List.set_cons_zero, List.set_cons_succ]))
          all_goals (first | (refine wpAnyH_ready (rs := [2]) (by decide +kernel) (by simp) ?_; refine AllReadyH.cons (o := _) rfl (fun K hK => ?_) AllReadyH.nil) | (refine wpAnyH_ready (rs := [1, 2]) (by kernel_rfl) (by simp) ?_; refine AllReadyH.cons (o := _) rfl (fun K hK => ?_) (AllReadyH.cons (o := _) rfl (fun K hK => ?_) AllReadyH.nil); go_simp; refine hK.out _ _ (by (try dsimp only); (first | exact K8.out | exact KE.out | exact KA.out | exact KB.out | exact KC.out | exact KD.out)) (fun hHeld => ?_); clear hK K; (try simp only [Act.put, List.setIfInBounds_toArray, List.set_cons_zero, List.set_cons_succ]); (refine wpAnyH_ready (rs := [2]) (by decide +kernel) (by simp) ?_; refine AllReadyH.cons (o := _) rfl (fun K hK => ?_) AllReadyH.nil)))
          all_goals (go_simp; refine hK.out _ _ (by (try dsimp only); (first | exact K8.out | exact KE.out | exact KA.out | exact KB.out | exact KC.out | exact KD.out)) (fun hHeld => ?_); clear hK K; (try simp only [Act.put, List.setIfInBounds_toArray, List.set_cons_zero, List.set_cons_succ]))
          all_goals (first | (refine wpAnyH_ready (rs := [7]) (by decide +kernel) (by simp) ?_; refine AllReadyH.cons (o := _) rfl (fun K hK => ?_) AllReadyH.nil) | (refine wpAnyH_ready (rs := [1, 7]) (by kernel_rfl) (by simp) ?_; refine AllReadyH.cons (o := _) rfl (fun K hK => ?_) (AllReadyH.cons (o := _) rfl (fun K hK => ?_) AllReadyH.nil); go_simp; refine hK.out _ _ (by (try dsimp only); (first | exact K8.out | exact KE.out | exact KA.out | exact KB.out | exact KC.out | exact KD.out)) (fun hHeld => ?_); clear hK K; (try simp only [Act.put, List.setIfInBounds_toArray, List.set_cons_zero, List.set_cons_succ]); (refine wpAnyH_ready (rs := [7]) (by decide +kernel) (by simp) ?_; refine AllReadyH.cons (o := _) rfl (fun K hK => ?_) AllReadyH.nil)))
          all_goals ((refine Kd.R_append_rows_step (Kd.int .i64) (w0 := wr.drew) (W := wr.drew.alloc (.cells #[] 3)) wr.drew.heap.size (by rfl) (.tmp 32) (.tmp 36) 50 3 (.int .i64 0) 8 rfl Tryz.underlying50 info3 rfl (by decide) (by omega) (.slice (some ⟨wr.drew.heap.size, 0, none⟩) 0 0) ([] : List Int) (rd_L1 l0 x) Ai (rd_L1 l0 x).length ci (fun _ => True) (fun _ => False) rfl rfl ?aO ?aR (fun _ _ h => h) (fun _ h => h.elim) (fun _ _ => trivial) ?aB ?aS ?aL ?_; (case aO => exact empty_row _); (case aR => exact HCE.out); (case aB => exact HBE.out); (case aS => exact HBE.out.size); (case aL => have := H8.out; simp; omega); intro v1 wA ho hb hg hat; rw [List.nil_append] at ho; obtain ⟨As, cs, e1⟩ := Kd.R_slice ho; subst e1; have HPA := Aside0.mk (HPD.out.below hb); have KA := Aside0.mk (pw_cell_below hb K8.out); have qA : wA.cell? ⟨g6, 0, none⟩ = some (.slice Ap acc.length cp) := (blk_cell HPA.out.h6 0).trans rfl; have bB := below_alloc (Below.refl wA.heap.size wA) (.cells #[.slice As (rd_L1 l0 x).length cs] 50); have KB := Aside0.mk (pw_cell_below bB KA.out); have qB : (wA.alloc (.cells #[.slice As (rd_L1 l0 x).length cs] 50)).cell? ⟨g6, 0, none⟩ = some (.slice Ap acc.length cp) := pw_cell_below bB qA; have HOS := Aside0.mk ho; have HBB := Aside0.mk hb; clear ho hb hg hat bB); refine hK.out _ _ (by (try dsimp only); (first | exact K8.out | exact KE.out | exact KA.out | exact KB.out | exact KC.out | exact KD.out)) (fun hHeld => ?_); clear hK K; (try simp only [Act.put, List.setIfInBounds_toArray, List.set_cons_zero, List.set_cons_succ]))
          all_goals (first | (refine wpAnyH_ready (rs := [8]) (by decide +kernel) (by simp) ?_; refine AllReadyH.cons (o := _) rfl (fun K hK => ?_) AllReadyH.nil) | (refine wpAnyH_ready (rs := [1, 8]) (by kernel_rfl) (by simp) ?_; refine AllReadyH.cons (o := _) rfl (fun K hK => ?_) (AllReadyH.cons (o := _) rfl (fun K hK => ?_) AllReadyH.nil); go_simp; refine hK.out _ _ (by (try dsimp only); (first | exact K8.out | exact KE.out | exact KA.out | exact KB.out | exact KC.out | exact KD.out)) (fun hHeld => ?_); clear hK K; (try simp only [Act.put, List.setIfInBounds_toArray, List.set_cons_zero, List.set_cons_succ]); (refine wpAnyH_ready (rs := [8]) (by decide +kernel) (by simp) ?_; refine AllReadyH.cons (o := _) rfl (fun K hK => ?_) AllReadyH.nil)))
          all_goals (go_simp; refine hK.out _ _ (by (try dsimp only); (first | exact K8.out | exact KE.out | exact KA.out | exact KB.out | exact KC.out | exact KD.out)) (fun hHeld => ?_); clear hK K; (try simp only [Act.put, List.setIfInBounds_toArray, List.set_cons_zero, List.set_cons_succ]))
          all_goals (first | (refine wpAnyH_ready (rs := [9]) (by decide +kernel) (by simp) ?_; refine AllReadyH.cons (o := _) rfl (fun K hK => ?_) AllReadyH.nil) | ((refine wpAnyH_ready (rs := [1]) (by decide +kernel) (by simp) ?_; refine AllReadyH.cons (o := _) rfl (fun K hK => ?_) AllReadyH.nil); go_simp; refine hK.out _ _ (by (try dsimp only); (first | exact K8.out | exact KE.out | exact KA.out | exact KB.out | exact KC.out | exact KD.out)) (fun hHeld => ?_); clear hK K; (try simp only [Act.put, List.setIfInBounds_toArray, List.set_cons_zero, List.set_cons_succ]); (refine wpAnyH_ready (rs := [9]) (by decide +kernel) (by simp) ?_; refine AllReadyH.cons (o := _) rfl (fun K hK => ?_) AllReadyH.nil)))
          all_goals ((refine Kd.S_append_step (W := wA) (Kd.slice 3 (Kd.int .i64)) (w0 := w) w.heap.size (by rfl) (.tmp 31) (.tmp 38) 22 50 (.slice none 0 0) 24 rfl Tryz.underlying22 info50 rfl (by decide) (by omega) (.slice Ap acc.length cp) acc (rd_L1 l0 x) [.slice As (rd_L1 l0 x).length cs] (fun k_ => k_ ≠ g4 ∧ k_ ≠ g6) (fun k_ => some k_ = (Value.slice As (rd_L1 l0 x).length cs).ownBlock) rfl rfl ?aP ?aK ?aF ?aO ?aB ?aS ?aL ?_; (case aP => exact Kd.M_row (Kd.R_of_own (Kd.own_of_R (Kd.R_lower HOS.out (below_size HPD.out.b))) (fun _ hk => hk.symm))); (case aK => exact fun k_ hk => HPD.out.fresh k_ (Kd.R_base HOS.out k_ hk.symm)); (case aF => exact fun k_ hk => (HPA.out.fresh k_ hk).1); (case aO => exact Kd.S_mono (Kd.S_elder' HPD.out.sp (Kd.R_base HOS.out) HBB.out) (fun k_ hk => ⟨hk.1, hk.2⟩)); (case aB => exact HPA.out.b); (case aS => exact below_size HPA.out.b); (case aL => have := H9.out; omega); intro vp1 wC ho hB hg hat; obtain ⟨Ab, cbb, eb⟩ := Kd.S_slice ho; rw [List.length_append, List.length_cons, List.length_nil, Nat.zero_add] at eb; subst eb; have HPX := Aside0.mk (HPA.out.row ho hB hg); have hC6 := blk_grown HPA.out.h6 hg HPA.out.off; have qC : wC.cell? ⟨g6, 0, none⟩ = some (.slice Ap acc.length cp) := (blk_cell hC6 0).trans rfl; have fC := blk_frozen hC6 0; have KC := Aside0.mk (cell_grewn hg KA.out (fun e => by have := Kd.S_base HPA.out.sp _ e.symm; have := HLT.out; omega)); have KD := Aside0.mk ((cell_far (p := ⟨g6, 0, none⟩) (by have := HLT.out; have := HPA.out.n6; show _ ≠ g6; omega) (.slice Ab (acc.length + 1) cbb)).trans KC.out); clear ho hB hg hat hC6); refine hK.out _ _ (by (try dsimp only); (first | exact K8.out | exact KE.out | exact KA.out | exact KB.out | exact KC.out | exact KD.out)) (fun hHeld => ?_); clear hK K; (try simp only [Act.put, List.setIfInBounds_toArray, List.set_cons_zero, List.set_cons_succ]))
          all_goals (refine wpAnyH_take (i := 10) (oi := _) (v := ?_) rfl (by kernel_rfl) (by kernel_rfl) (by kernel_rfl) (fun _ _ _ h => h) (Or.inl ⟨by rfl, ?_⟩) (by assumption) ?_; rotate_left; (· (intro w hSw; (try dsimp only at hSw); go_simp; try with_reducible rfl)); (try simp only [Act.put, List.setIfInBounds_toArray, List.set_cons_zero, List.set_cons_succ]))
          all_goals (refine wpAnyH_ready (rs := [11]) (by decide +kernel) (by simp) ?_; refine AllReadyH.cons (o := _) rfl (fun K hK => ?_) AllReadyH.nil)
          all_goals (go_simp; refine hK.out _ _ (by (try dsimp only); (first | exact K8.out | exact KE.out | exact KA.out | exact KB.out | exact KC.out | exact KD.out)) (fun hHeld => ?_); clear hK K; (try simp only [Act.put, List.setIfInBounds_toArray, List.set_cons_zero, List.set_cons_succ]))
          all_goals (refine wpAnyH_done (by kernel_rfl) ?_ _)
          all_goals (refine NoPanic.normal ?_)
          all_goals
            have HPY := HPX
            clear HPX HPD HPA K8 KE KA KB KC KD qE qA qB HBE HCD HCE HBB HOS q1 HP
            generalize wC.setCell ⟨g6, 0, none⟩ (.slice Ab (acc.length + 1) cbb) = w9 at HPY ⊢
            go_wp2
            go_roundg k1
            case measure => have := HK.out; omega
            case rel => exact ⟨wrap64 (x + 1), _, _, (by first | rfl | (simp; done) | (simp [*]; done)), HH, ⟨by have := HK.out; omega⟩, HPY⟩
        · rw [if_neg c6] at H
          have c6b : decide (x < (l0.length : Int)) = false := decide_eq_false c6
          clear c6
          by_cases c8 : l0.length ≤ 35184372088832
          case neg => rw [if_neg c8] at H; exact absurd H (by simp)
          rw [if_pos c8] at H
          have HH := Aside0.mk H
          have hm0 : 0 ≤ (l0.length : Int) := by omega
          have hm1 : (l0.length : Int).toNat * 8 ≤ 281474976710656 := by omega
          have HLN := Aside0.mk (show wrap64 ((l0.length : Int) - 1) = (l0.length : Int) - 1 by unfold wrap64; omega)
          clear H c8
          go_upto_region 9 with (first | ((with_reducible refine gate_dst (N := 43) rfl ?_); refine Kd.R_make (Kd.int .i64) _ 3 rfl (N := 43) rfl 50 _ _ rfl (l0.length : Int) rfl rfl Tryz.underlying50 (.int .i64 0) 8 info3 rfl (by decide) (by omega) 0 (ok := fun _ => True) (okp := fun _ => True) rfl (fun _ hk => hk) trivial hm0 hm1 (Below.refl _ _) (Nat.le_refl _) ?_; intro v8 w7 ho hb hg_ hnew_; obtain ⟨m, hl0⟩ := HP.out.lies hb ho 55 #[.string ⟨#[]⟩, .int .i64 (-1), .int .i64 0, .slice none 0 0]; have HL0 := Aside0.mk hl0; clear hl0 hg_ hnew_ hb ho))
          go_upto_region 10 with (fail)
          generalize hw8 : w7.alloc (.cells #[.string ⟨#[]⟩, .int .i64 (-1), .int .i64 0, .slice none 0 0] 55) = w8 at HL0 ⊢
          clear hw8
          generalize w7.heap.size = g9 at HL0 ⊢
          have HL0' : Aside0 (Lies m w w8 g4 g6 g9 55 #[.string ⟨#[]⟩, .int .i64 (-1), .int .i64 0, .slice none 0 0] v8 vp (.slice none 0 0) (.slice none 0 0) acc (List.replicate l0.length 0) [] []) := by simpa using HL0
          clear HL0 HP
          go_wp2
          go_loopg [10] k1 (fun kq v10 w' => ∃ (born : List Int) (bs : List S55) (i : Int) (vd vb : Value) (d : List Int) (y : Int), v10 = .int .i64 y ∧ Aside0 (spec_FromRecords.l1 kq acc l1 (l0.length : Int) born bs i d y = some (r1, r2, r3)) ∧ Aside0 (kq ≤ k1) ∧ Aside0 (Lies m w w' g4 g6 g9 55 #[.string ⟨#[]⟩, .int .i64 i, .int .i64 0, vd] v8 vp vb vd acc born bs d))
          case atStart => exact ⟨_, _, -1, _, _, _, 0, rfl, HH, ⟨Nat.le_refl _⟩, HL0'⟩
          case round =>
            clear HH HL0'
            obtain ⟨born, bs, i, vd, vb, d, y, rfl, HA, HK1, HS⟩ := hrel
            cases gk with
            | zero => exact absurd HA.out (by simp [spec_FromRecords.l1])
            | succ k2 =>
              have H := HA.out
              clear HA
              simp only [spec_FromRecords.l1] at H
              by_cases c6 : y < (l1.length : Int)
              · rw [if_pos c6] at H
                have c6b : decide (y < (l1.length : Int)) = true := decide_eq_true c6
                by_cases c7 : 0 ≤ y
                case neg => rw [if_neg c7] at H; exact absurd H (by simp)
                rw [if_pos c7] at H
                replace H := Option.bind_eq_some_iff.mp H
                obtain ⟨s, hs, H⟩ := H
                have HST := Aside0.mk hs
                have HH := Aside0.mk H
                obtain ⟨ad, ea, hx0, hx1, hx2⟩ := at_T48 (Kd.C_below HR1.out HS.out.b) y c7 c6
                cases ea
                replace c7 := eq_true c7
                replace c6 := eq_true c6
                clear hs H
                go_upto_region 14 with (fail)
                have hb6 : (wr.alloc (.cells #[.int .i64 (rd_T48 l1 y).f0, .int .i64 (rd_T48 l1 y).f1, .string (rd_T48 l1 y).f2] 48)).heap[wr.heap.size]? = some (.cells #[.int .i64 (rd_T48 l1 y).f0, .int .i64 (rd_T48 l1 y).f1, .string (rd_T48 l1 y).f2] 48 (0, 0)) := heap_alloc_new wr _
                have HS6 := Aside0.mk (HS.out.alloc (.cells #[.int .i64 (rd_T48 l1 y).f0, .int .i64 (rd_T48 l1 y).f1, .string (rd_T48 l1 y).f2] 48))
                clear hx0 hx1 hx2 HS
                generalize wr.alloc (.cells #[.int .i64 (rd_T48 l1 y).f0, .int .i64 (rd_T48 l1 y).f1, .string (rd_T48 l1 y).f2] 48) = w6 at hb6 HS6 ⊢
                generalize wr.heap.size = gr at hb6 ⊢
                have k0 : w6.cell? ⟨gr, 0, none⟩ = some (.int .i64 (rd_T48 l1 y).f0) := (blk_cell hb6 0).trans rfl
                have k1' : w6.cell? ⟨gr, 1, none⟩ = some (.int .i64 (rd_T48 l1 y).f1) := (blk_cell hb6 1).trans rfl
                have k2' : w6.cell? ⟨gr, 2, none⟩ = some (.string (rd_T48 l1 y).f2) := (blk_cell hb6 2).trans rfl
                have HB6 := Aside0.mk hb6
                clear hb6
                obtain ⟨Ad, cd, ed⟩ := Kd.R_slice HS6.out.rd
                subst ed
                have n1 : w6.cell? ⟨g9, 1, none⟩ = some (.int .i64 i) := (blk_cell HS6.out.h9 1).trans rfl
                have n3 : w6.cell? ⟨g9, 3, none⟩ = some (.slice Ad d.length cd) := (blk_cell HS6.out.h9 3).trans rfl
                have m1 := blk_frozen HS6.out.h9 1
                have m3 := blk_frozen HS6.out.h9 3
                go_upto_block 4 with fail
                go_cut [10] (fun v10 wc => ∃ (born1 : List Int) (bs1 : List S55) (i1 : Int) (vd1 vb1 : Value) (d1 : List Int), v10 = .int .i64 y ∧ Aside0 ((if (d1.length : Int) > 40 then some ([], [], false) else if (bs1.length : Int) > 300 then some ([], [], false) else spec_FromRecords.l1 k2 acc l1 (l0.length : Int) born1 bs1 i1 d1 (wrap64 (y + 1))) = some (r1, r2, r3)) ∧ Aside0 (Lies m w wc g4 g6 g9 55 #[.string ⟨#[]⟩, .int .i64 i1, .int .i64 0, vd1] v8 vp vb1 vd1 acc born1 bs1 d1))
                case first =>
                  have hs := HST.out
                  clear HST
                  unfold spec_FromRecords.step at hs
                  by_cases q2 : (rd_T48 l1 y).f0 = 2
                  · rw [if_pos q2] at hs
                    have e2 : ((rd_T48 l1 y).f0 == 2) = true := by simpa using q2
                    clear q2
                    obtain rfl := Option.some.inj hs
                    go_wp2
                    go_meet
                    case rel => exact ⟨_, _, _, _, _, _, (by first | rfl | (simp; done) | (simp [*]; done)), ⟨HH.out⟩, ⟨by simpa using HS6.out.set9 1 _⟩⟩
                  rw [if_neg q2] at hs
                  have e2 : ((rd_T48 l1 y).f0 == 2) = false := by simpa using q2
                  by_cases q3 : (rd_T48 l1 y).f0 = 3
                  · rw [if_pos q3] at hs
                    have e3 : ((rd_T48 l1 y).f0 == 3) = true := by simpa using q3
                    clear q3
                    obtain rfl := Option.some.inj hs
                    go_wp2
                    go_meet
                    case rel => exact ⟨_, _, _, _, _, _, (by first | rfl | (simp; done) | (simp [*]; done)), ⟨HH.out⟩, ⟨by simpa using HS6.out.set9 1 _⟩⟩
                  rw [if_neg q3] at hs
                  have e3 : ((rd_T48 l1 y).f0 == 3) = false := by simpa using q3
                  by_cases q4 : (rd_T48 l1 y).f0 = 4
                  · rw [if_pos q4] at hs
                    have e4 : ((rd_T48 l1 y).f0 == 4) = true := by simpa using q4
                    clear q4
                    replace hs := Option.bind_eq_some_iff.mp hs
                    obtain ⟨t, ht, hs⟩ := hs
                    obtain rfl := Option.some.inj hs
                    have HT2 := Aside0.mk ht
                    clear ht hs
                    go_wp2_with (first | (go_at_call 25; (with_reducible refine (spec_l07With.calls k2 _ _ d (rd_T48 l1 y).f1 t _ ?side1 ?side2 HT2.out).mono ?_); (case side1 => exact (Kd.R_reads' HS6.out.rd).2.2); (case side2 => exact (Kd.R_reads' HS6.out.rd).2.1); rintro e w7 ⟨v0, rfl, ho, hb⟩; obtain ⟨A', c', e9⟩ := Kd.R_slice ho; subst e9; have h97 := (HS6.out.below hb).h9; have p3 : w7.cell? ⟨g9, 3, none⟩ = some (.slice Ad d.length cd) := (blk_cell h97 3).trans rfl; have r3' := blk_frozen h97 3; have HS7 := Aside0.mk (HS6.out.dels hb ho 3); clear h97 ho hb))
                    go_meet
                    case rel => exact ⟨_, _, _, _, _, _, (by first | rfl | (simp; done) | (simp [*]; done)), ⟨HH.out⟩, ⟨by simpa using HS7.out⟩⟩
                  rw [if_neg q4] at hs
                  have e4 : ((rd_T48 l1 y).f0 == 4) = false := by simpa using q4
                  by_cases q5 : (rd_T48 l1 y).f0 = 5
                  · rw [if_pos q5] at hs
                    have e5 : ((rd_T48 l1 y).f0 == 5) = true := by simpa using q5
                    clear q5
                    replace hs := Option.bind_eq_some_iff.mp hs
                    obtain ⟨t, ht, hs⟩ := hs
                    obtain rfl := Option.some.inj hs
                    have HT2 := Aside0.mk ht
                    clear ht hs
                    go_wp2_with (first | (go_at_call 26; (with_reducible refine (spec_l07Without.calls k2 _ _ d (rd_T48 l1 y).f1 t _ ?side1 ?side2 HT2.out).mono ?_); (case side1 => exact (Kd.R_reads' HS6.out.rd).2.2); (case side2 => exact (Kd.R_reads' HS6.out.rd).2.1); rintro e w7 ⟨v0, rfl, ho, hb⟩; obtain ⟨A', c', e9⟩ := Kd.R_slice ho; subst e9; have h97 := (HS6.out.below hb).h9; have p3 : w7.cell? ⟨g9, 3, none⟩ = some (.slice Ad d.length cd) := (blk_cell h97 3).trans rfl; have r3' := blk_frozen h97 3; have HS7 := Aside0.mk (HS6.out.dels hb ho 3); clear h97 ho hb))
                    go_meet
                    case rel => exact ⟨_, _, _, _, _, _, (by first | rfl | (simp; done) | (simp [*]; done)), ⟨HH.out⟩, ⟨by simpa using HS7.out⟩⟩
                  rw [if_neg q5] at hs
                  have e5 : ((rd_T48 l1 y).f0 == 5) = false := by simpa using q5
                  by_cases q1 : (rd_T48 l1 y).f0 = 1
                  · rw [if_pos q1] at hs
                    have e1 : ((rd_T48 l1 y).f0 == 1) = true := by simpa using q1
                    clear q1
                    replace hs := Option.bind_eq_some_iff.mp hs
                    obtain ⟨t, ht, hs⟩ := hs
                    rw [HLN.out] at ht
                    have HT2 := Aside0.mk ht
                    clear ht
                    cases t with
                    | false =>
                      rw [if_neg (by decide)] at hs
                      obtain rfl := Option.some.inj hs
                      have H := HH.out
                      simp only [Option.some.injEq, Prod.mk.injEq] at H
                      obtain ⟨rfl, rfl, rfl⟩ := H
                      go_upto_region 25 with (first | (go_at_call 27; (with_reducible refine (spec_l01In.calls i 0 ((l0.length : Int) - 1) false _ HT2.out).mono ?_); rintro e w' ⟨rfl, ⟨nd, rfl⟩⟩))
                      have HSA := Aside0.mk (HS6.out.drewN nd)
                      generalize w6.drewN nd = wa at HSA ⊢
                      have z0 : wa.cell? ⟨g4, 0, none⟩ = some (.slice none 0 0) := (blk_cell HSA.out.h4 0).trans rfl
                      have z1 : wa.cell? ⟨g4, 1, none⟩ = some (.slice none 0 0) := (blk_cell HSA.out.h4 1).trans rfl
                      have f0 := blk_frozen HSA.out.h4 0
                      have f1 := blk_frozen HSA.out.h4 1
                      go_wp2
                      refine bodyPost_ret (results_ct rfl _ _ g4 28 #[.slice none 0 0, .slice none 0 0] (0, 0) _ rfl (nil_put HSA.out.h4) hu28 rfl (by kernel_rfl)) rfl ?_
                      exact ⟨_, _, rfl, Kd.S_nil _ _ _ _ _, Kd.S_nil _ _ _ _ _, below_set (below_set HSA.out.b HSA.out.n4) HSA.out.n4⟩
                    | true =>
                      rw [if_pos rfl] at hs
                      by_cases c9 : 0 ≤ i
                      case neg => rw [if_neg c9] at hs; exact absurd hs (by simp)
                      rw [if_pos c9] at hs
                      by_cases c10 : i < (born.length : Int)
                      case neg => rw [if_neg c10] at hs; exact absurd hs (by simp)
                      rw [if_pos c10] at hs
                      by_cases c11 : d.length < 17592186044416
                      case neg => rw [if_neg c11] at hs; exact absurd hs (by simp)
                      rw [if_pos c11] at hs
                      by_cases c12 : bs.length < 2513169434916
                      case neg => rw [if_neg c12] at hs; exact absurd hs (by simp)
                      rw [if_pos c12] at hs
                      obtain rfl := Option.some.inj hs
                      have HL11 := Aside0.mk c11
                      have HL12 := Aside0.mk c12
                      clear c11 c12 hs
                      go_upto_region 26 with (first | (go_at_call 27; (with_reducible refine (spec_l01In.calls i 0 ((l0.length : Int) - 1) true _ HT2.out).mono ?_); rintro e w' ⟨rfl, ⟨nd, rfl⟩⟩))
                      obtain ⟨gb, cb8, e8, _⟩ := Kd.R_form HS6.out.rb (by omega)
                      cases e8
                      have HS8 := Aside0.mk (HS6.out.drewN nd)
                      have HB8 : Aside0 ((w6.drewN nd).heap[gr]? = some (.cells #[.int .i64 (rd_T48 l1 y).f0, .int .i64 (rd_T48 l1 y).f1, .string (rd_T48 l1 y).f2] 48 (0, 0))) := ⟨HB6.out⟩
                      have k2'' : (w6.drewN nd).cell? ⟨gr, 2, none⟩ = some (.string (rd_T48 l1 y).f2) := k2'
                      clear HS6 HB6 k0 k1' k2' n1 n3 m1 m3
                      generalize w6.drewN nd = w8 at HS8 HB8 k2'' ⊢
                      have n1 : w8.cell? ⟨g9, 1, none⟩ = some (.int .i64 i) := (blk_cell HS8.out.h9 1).trans rfl
                      have n3 : w8.cell? ⟨g9, 3, none⟩ = some (.slice Ad d.length cd) := (blk_cell HS8.out.h9 3).trans rfl
                      have q1 : w8.cell? ⟨g6, 1, none⟩ = some vb := (blk_cell HS8.out.h6 1).trans rfl
                      have gi := (Kd.R_cell (0 : Int) HS8.out.rb i c9 c10).1
                      have K8 := Aside0.mk (show w8.drew.cell? ⟨gr, 2, none⟩ = some (.string (rd_T48 l1 y).f2) ∧ w8.drew.cell? ⟨g9, 1, none⟩ = some (.int .i64 i) ∧ w8.drew.cell? ⟨g9, 3, none⟩ = some (.slice Ad d.length cd) ∧ w8.drew.cell? ⟨gb, i.toNat, none⟩ = some (.int .i64 (rd born i)) from ⟨k2'', n1, n3, gi⟩)
                      have HSD := Aside0.mk HS8.out.drew
                      have bE := below_alloc (Below.refl w8.drew.heap.size w8.drew) (.cells #[] 3)
                      have KE := Aside0.mk (four_below bE K8.out)
                      have qE : (w8.alloc (.cells #[] 3)).cell? ⟨g6, 1, none⟩ = some vb := pw_cell_below (below_alloc (Below.refl w8.heap.size w8) (.cells #[] 3)) q1
                      have HBE := Aside0.mk bE
                      have HCE := Aside0.mk (Kd.C_below (Kd.R_reads' HSD.out.rd).2.2 bE)
                      replace c9 := eq_true c9
                      replace c10 := eq_true c10
                      clear bE k2'' n1 n3 gi
                      refine wp_region_noPanic ?_
                      refine wp_region_held_drew (S := (fun W' => W'.cell? ⟨gr, 2, none⟩ = some (.string (rd_T48 l1 y).f2) ∧ W'.cell? ⟨g9, 1, none⟩ = some (.int .i64 i) ∧ W'.cell? ⟨g9, 3, none⟩ = some (.slice Ad d.length cd) ∧ W'.cell? ⟨gb, i.toNat, none⟩ = some (.int .i64 (rd born i)))) (by kernel_rfl) (by (try dsimp only); (first | exact K8.out | exact KE.out | exact KA.out | exact KB.out | exact KC.out | exact KD.out)) (fun hHeld => ?_)
                      (refine wpAnyH_take (i := 0) (oi := _) (v := ?_) rfl (by kernel_rfl) (by kernel_rfl) (by kernel_rfl) (fun _ _ _ h => h) (Or.inl ⟨by rfl, ?_⟩) (by assumption) ?_; rotate_left; (· (intro w hSw; (try dsimp only at hSw); go_simp; try with_reducible rfl)); (try simp only [Act.put, List.setIfInBounds_toArray, List.set_cons_zero, List.set_cons_succ]))
                      (refine wpAnyH_take (i := 2) (oi := _) (v := ?_) rfl (by kernel_rfl) (by kernel_rfl) (by kernel_rfl) (fun _ _ _ h => h) (Or.inl ⟨by rfl, ?_⟩) (by assumption) ?_; rotate_left; (· (intro w hSw; (try dsimp only at hSw); go_simp; try with_reducible rfl)); (try simp only [Act.put, List.setIfInBounds_toArray, List.set_cons_zero, List.set_cons_succ]))
                      (refine wpAnyH_take (i := 3) (oi := _) (v := ?_) rfl (by kernel_rfl) (by kernel_rfl) (by kernel_rfl) (fun _ _ _ h => h) (Or.inl ⟨by rfl, ?_⟩) (by assumption) ?_; rotate_left; (· (intro w hSw; (try dsimp only at hSw); go_simp; try with_reducible rfl)); (try simp only [Act.put, List.setIfInBounds_toArray, List.set_cons_zero, List.set_cons_succ]))
                      (refine wpAnyH_take (i := 4) (oi := _) (v := ?_) rfl (by kernel_rfl) (by kernel_rfl) (by kernel_rfl) (fun _ _ _ h => h) (Or.inl ⟨by rfl, ?_⟩) (by assumption) ?_; rotate_left; (· (intro w hSw; (try dsimp only at hSw); go_simp; try with_reducible rfl)); (try simp only [Act.put, List.setIfInBounds_toArray, List.set_cons_zero, List.set_cons_succ]))
                      (refine wpAnyH_take (i := 5) (oi := _) (v := ?_) rfl (by kernel_rfl) (by kernel_rfl) (by kernel_rfl) (fun _ _ _ h => h) (Or.inl ⟨by rfl, ?_⟩) (by assumption) ?_; rotate_left; (· (intro w hSw; (try dsimp only at hSw); go_simp; try with_reducible rfl)); (try simp only [Act.put, List.setIfInBounds_toArray, List.set_cons_zero, List.set_cons_succ]))
                      (refine wpAnyH_take (i := 6) (oi := _) (v := ?_) rfl (by kernel_rfl) (by kernel_rfl) (by kernel_rfl) (fun _ _ _ h => h) (Or.inl ⟨by rfl, ?_⟩) (by assumption) ?_; rotate_left; (· (intro w hSw; (try dsimp only at hSw); go_simp; try with_reducible rfl)); (try simp only [Act.put, List.setIfInBounds_toArray, List.set_cons_zero, List.set_cons_succ]))
                      (refine wpAnyH_take (i := 7) (oi := _) (v := ?_) rfl (by kernel_rfl) (by kernel_rfl) (by kernel_rfl) (fun _ _ _ h => h) (Or.inl ⟨by rfl, ?_⟩) (by assumption) ?_; rotate_left; (· (intro w hSw; (try dsimp only at hSw); go_simp; try with_reducible rfl)); (try simp only [Act.put, List.setIfInBounds_toArray, List.set_cons_zero, List.set_cons_succ]))
                      (refine wpAnyH_take (i := 8) (oi := _) (v := ?_) rfl (by kernel_rfl) (by kernel_rfl) (by kernel_rfl) (fun _ _ _ h => h) (Or.inl ⟨by rfl, ?_⟩) (by assumption) ?_; rotate_left; (· (intro w hSw; (try dsimp only at hSw); go_simp; try with_reducible rfl)); (try simp only [Act.put, List.setIfInBounds_toArray, List.set_cons_zero, List.set_cons_succ]))
                      (refine wpAnyH_take (i := 9) (oi := _) (v := ?_) rfl (by kernel_rfl) (by kernel_rfl) (by kernel_rfl) (fun _ _ _ h => h) (Or.inl ⟨by rfl, ?_⟩) (by assumption) ?_; rotate_left; (· (intro w hSw; (try dsimp only at hSw); go_simp; try with_reducible rfl)); (try simp only [Act.put, List.setIfInBounds_toArray, List.set_cons_zero, List.set_cons_succ]))
                      (refine wpAnyH_take (i := 10) (oi := _) (v := ?_) rfl (by kernel_rfl) (by kernel_rfl) (by kernel_rfl) (fun _ _ _ h => h) (Or.inl ⟨by rfl, ?_⟩) (by assumption) ?_; rotate_left; (· (intro w hSw; (try dsimp only at hSw); go_simp; try with_reducible rfl)); (try simp only [Act.put, List.setIfInBounds_toArray, List.set_cons_zero, List.set_cons_succ]))
                      (refine wpAnyH_take (i := 12) (oi := _) (v := ?_) rfl (by kernel_rfl) (by kernel_rfl) (by kernel_rfl) (fun _ _ _ h => h) (Or.inl ⟨by rfl, ?_⟩) (by assumption) ?_; rotate_left; (· (intro w hSw; (try dsimp only at hSw); go_simp; try with_reducible rfl)); (try simp only [Act.put, List.setIfInBounds_toArray, List.set_cons_zero, List.set_cons_succ]))
                      (refine wpAnyH_take (i := 13) (oi := _) (v := ?_) rfl (by kernel_rfl) (by kernel_rfl) (by kernel_rfl) (fun _ _ _ h => h) (Or.inl ⟨by rfl, ?_⟩) (by assumption) ?_; rotate_left; (· (intro w hSw; (try dsimp only at hSw); go_simp; try with_reducible rfl)); (try simp only [Act.put, List.setIfInBounds_toArray, List.set_cons_zero, List.set_cons_succ]))
                      all_goals (first | (refine wpAnyH_ready (rs := [11]) (by decide +kernel) (by simp) ?_; refine AllReadyH.cons (o := _) rfl (fun K hK => ?_) AllReadyH.nil) | (refine wpAnyH_ready (rs := [1, 11]) (by kernel_rfl) (by simp) ?_; refine AllReadyH.cons (o := _) rfl (fun K hK => ?_) (AllReadyH.cons (o := _) rfl (fun K hK => ?_) AllReadyH.nil); go_simp; refine hK.out _ _ (by (try dsimp only); (first | exact K8.out | exact KE.out | exact KA.out | exact KB.out | exact KC.out | exact KD.out)) (fun hHeld => ?_); clear hK K; (try simp only [Act.put, List.setIfInBounds_toArray, List.set_cons_zero, List.set_cons_succ]); (refine wpAnyH_ready (rs := [11]) (by decide +kernel) (by simp) ?_; refine AllReadyH.cons (o := _) rfl (fun K hK => ?_) AllReadyH.nil)))
                      all_goals (go_simp; refine hK.out _ _ (by (try dsimp only); (first | exact K8.out | exact KE.out | exact KA.out | exact KB.out | exact KC.out | exact KD.out)) (fun hHeld => ?_); clear hK K; (try simp only [Act.put, List.setIfInBounds_toArray, List.set_cons_zero, List.set_cons_succ]))
                      all_goals (first | (refine wpAnyH_ready (rs := [14]) (by decide +kernel) (by simp) ?_; refine AllReadyH.cons (o := _) rfl (fun K hK => ?_) AllReadyH.nil) | (refine wpAnyH_ready (rs := [1, 14]) (by kernel_rfl) (by simp) ?_; refine AllReadyH.cons (o := _) rfl (fun K hK => ?_) (AllReadyH.cons (o := _) rfl (fun K hK => ?_) AllReadyH.nil); go_simp; refine hK.out _ _ (by (try dsimp only); (first | exact K8.out | exact KE.out | exact KA.out | exact KB.out | exact KC.out | exact KD.out)) (fun hHeld => ?_); clear hK K; (try simp only [Act.put, List.setIfInBounds_toArray, List.set_cons_zero, List.set_cons_succ]); (refine wpAnyH_ready (rs := [14]) (by decide +kernel) (by simp) ?_; refine AllReadyH.cons (o := _) rfl (fun K hK => ?_) AllReadyH.nil)))
                      all_goals ((refine Kd.R_append_rows_step (Kd.int .i64) (w0 := w8.drew) (W := w8.drew.alloc (.cells #[] 3)) w8.drew.heap.size (by rfl) (.tmp 102) (.tmp 104) 50 3 (.int .i64 0) 8 rfl Tryz.underlying50 info3 rfl (by decide) (by omega) (.slice (some ⟨w8.drew.heap.size, 0, none⟩) 0 0) ([] : List Int) d Ad d.length cd (fun _ => True) (fun _ => False) rfl rfl ?aO ?aR (fun _ _ h => h) (fun _ h => h.elim) (fun _ _ => trivial) ?aB ?aS ?aL ?_; (case aO => exact empty_row _); (case aR => exact HCE.out); (case aB => exact HBE.out); (case aS => exact HBE.out.size); (case aL => have := HL11.out; simp; omega); intro v1 wA ho hb hg hat; rw [List.nil_append] at ho; obtain ⟨As, cs, e1⟩ := Kd.R_slice ho; subst e1; have HSA := Aside0.mk (HSD.out.below hb); have BA := Aside0.mk ((hb.block gr (blk_lt HB8.out)).trans HB8.out); have KA := Aside0.mk (four_below hb K8.out); have qA : wA.cell? ⟨g6, 1, none⟩ = some vb := (blk_cell HSA.out.h6 1).trans rfl; have bB := below_alloc (Below.refl wA.heap.size wA) (.cells #[.string (rd_T48 l1 y).f2, .int .i64 i, .int .i64 (rd born i), .slice As d.length cs] 55); have KB := Aside0.mk (four_below bB KA.out); have qB : (wA.alloc (.cells #[.string (rd_T48 l1 y).f2, .int .i64 i, .int .i64 (rd born i), .slice As d.length cs] 55)).cell? ⟨g6, 1, none⟩ = some vb := pw_cell_below bB qA; have HOS := Aside0.mk ho; have HBB := Aside0.mk hb; clear ho hb hg hat bB); refine hK.out _ _ (by (try dsimp only); (first | exact K8.out | exact KE.out | exact KA.out | exact KB.out | exact KC.out | exact KD.out)) (fun hHeld => ?_); clear hK K; (try simp only [Act.put, List.setIfInBounds_toArray, List.set_cons_zero, List.set_cons_succ]))
                      all_goals (refine wpAnyH_take (i := 15) (oi := _) (v := ?_) rfl (by kernel_rfl) (by kernel_rfl) (by kernel_rfl) (fun _ _ _ h => h) (Or.inl ⟨by rfl, ?_⟩) (by assumption) ?_; rotate_left; (· (intro w hSw; (try dsimp only at hSw); go_simp; try with_reducible rfl)); (try simp only [Act.put, List.setIfInBounds_toArray, List.set_cons_zero, List.set_cons_succ]))
                      all_goals (first | (refine wpAnyH_ready (rs := [16]) (by decide +kernel) (by simp) ?_; refine AllReadyH.cons (o := _) rfl (fun K hK => ?_) AllReadyH.nil) | (refine wpAnyH_ready (rs := [1, 16]) (by kernel_rfl) (by simp) ?_; refine AllReadyH.cons (o := _) rfl (fun K hK => ?_) (AllReadyH.cons (o := _) rfl (fun K hK => ?_) AllReadyH.nil); go_simp; refine hK.out _ _ (by (try dsimp only); (first | exact K8.out | exact KE.out | exact KA.out | exact KB.out | exact KC.out | exact KD.out)) (fun hHeld => ?_); clear hK K; (try simp only [Act.put, List.setIfInBounds_toArray, List.set_cons_zero, List.set_cons_succ]); (refine wpAnyH_ready (rs := [16]) (by decide +kernel) (by simp) ?_; refine AllReadyH.cons (o := _) rfl (fun K hK => ?_) AllReadyH.nil)))
                      all_goals (go_simp; refine hK.out _ _ (by (try dsimp only); (first | exact K8.out | exact KE.out | exact KA.out | exact KB.out | exact KC.out | exact KD.out)) (fun hHeld => ?_); clear hK K; (try simp only [Act.put, List.setIfInBounds_toArray, List.set_cons_zero, List.set_cons_succ]))
                      all_goals (first | (refine wpAnyH_ready (rs := [17]) (by decide +kernel) (by simp) ?_; refine AllReadyH.cons (o := _) rfl (fun K hK => ?_) AllReadyH.nil) | ((refine wpAnyH_ready (rs := [1]) (by decide +kernel) (by simp) ?_; refine AllReadyH.cons (o := _) rfl (fun K hK => ?_) AllReadyH.nil); go_simp; refine hK.out _ _ (by (try dsimp only); (first | exact K8.out | exact KE.out | exact KA.out | exact KB.out | exact KC.out | exact KD.out)) (fun hHeld => ?_); clear hK K; (try simp only [Act.put, List.setIfInBounds_toArray, List.set_cons_zero, List.set_cons_succ]); (refine wpAnyH_ready (rs := [17]) (by decide +kernel) (by simp) ?_; refine AllReadyH.cons (o := _) rfl (fun K hK => ?_) AllReadyH.nil)))
                      all_goals ((refine Kd.S_append_step (W := wA) k55 (w0 := w) w.heap.size (by rfl) (.tmp 92) (.tmp 107) 26 55 (.agg #[(.string ⟨#[]⟩), (.int .i64 0), (.int .i64 0), (.slice none 0 0)]) 56 rfl Tryz.underlying26 infoBody rfl (by decide) (by omega) vb bs (⟨(rd_T48 l1 y).f2, i, rd born i, d⟩ : S55) [.string (rd_T48 l1 y).f2, .int .i64 i, .int .i64 (rd born i), .slice As d.length cs] (fun k_ => k_ ≠ g4 ∧ k_ ≠ g6 ∧ k_ ≠ g9 ∧ some k_ ≠ (Value.slice (some ⟨gb, 0, none⟩) born.length cb8).ownBlock ∧ some k_ ≠ (Value.slice Ad d.length cd).ownBlock ∧ m ≤ k_) (fun k_ => some k_ = (Value.slice As d.length cs).ownBlock) rfl rfl ?aP ?aK ?aF ?aO ?aB ?aS ?aL ?_; (case aP => exact k55_mkM _ _ _ (⟨(rd_T48 l1 y).f2, i, rd born i, d⟩ : S55) (Kd.R_of_own (Kd.own_of_R (Kd.R_lower HOS.out (below_size HSD.out.b))) (fun _ hk => hk.symm))); (case aK => exact fun k_ hk => HSD.out.fresh k_ (Kd.R_base HOS.out k_ hk.symm)); (case aF => exact fun k_ hk => (HSA.out.fresh k_ hk).1); (case aO => exact Kd.S_mono (Kd.S_elder' HSD.out.sb (Kd.R_base HOS.out) HBB.out) (fun k_ hk => ⟨hk.1, hk.2⟩)); (case aB => exact HSA.out.b); (case aS => exact below_size HSA.out.b); (case aL => have := HL12.out; omega); intro vb1 wC ho hB hg hat; obtain ⟨Ab, cbb, eb⟩ := Kd.S_slice ho; rw [List.length_append, List.length_cons, List.length_nil, Nat.zero_add] at eb; subst eb; have HS9 := Aside0.mk (HSA.out.body ho hB hg); have hC6 := blk_grown HSA.out.h6 hg HSA.out.off.1; have qC : wC.cell? ⟨g6, 1, none⟩ = some vb := (blk_cell hC6 1).trans rfl; have fC := blk_frozen hC6 1; have hgb := HSA.out.off.2.2 gb rfl; have hgr := blk_ne BA.out HSA.out.h6 (by decide); have hKC := four_grown hg KA.out (Kd.S_ne HSA.out.sb BA.out (by decide)) HSA.out.off.2.1 HSA.out.off.2.1 hgb.1; have KC := Aside0.mk hKC; have KD := Aside0.mk (four_set (g := g6) (j := 1) (v := .slice Ab (bs.length + 1) cbb) hKC hgr (Ne.symm HSA.out.e69) (Ne.symm HSA.out.e69) hgb.2); clear ho hB hg hat hC6 hKC hgb hgr); refine hK.out _ _ (by (try dsimp only); (first | exact K8.out | exact KE.out | exact KA.out | exact KB.out | exact KC.out | exact KD.out)) (fun hHeld => ?_); clear hK K; (try simp only [Act.put, List.setIfInBounds_toArray, List.set_cons_zero, List.set_cons_succ]))
                      all_goals (refine wpAnyH_take (i := 18) (oi := _) (v := ?_) rfl (by kernel_rfl) (by kernel_rfl) (by kernel_rfl) (fun _ _ _ h => h) (Or.inl ⟨by rfl, ?_⟩) (by assumption) ?_; rotate_left; (· (intro w hSw; (try dsimp only at hSw); go_simp; try with_reducible rfl)); (try simp only [Act.put, List.setIfInBounds_toArray, List.set_cons_zero, List.set_cons_succ]))
                      all_goals (refine wpAnyH_ready (rs := [19]) (by decide +kernel) (by simp) ?_; refine AllReadyH.cons (o := _) rfl (fun K hK => ?_) AllReadyH.nil)
                      all_goals (go_simp; refine hK.out _ _ (by (try dsimp only); (first | exact K8.out | exact KE.out | exact KA.out | exact KB.out | exact KC.out | exact KD.out)) (fun hHeld => ?_); clear hK K; (try simp only [Act.put, List.setIfInBounds_toArray, List.set_cons_zero, List.set_cons_succ]))
                      all_goals (refine wpAnyH_done (by kernel_rfl) ?_ _)
                      all_goals (refine NoPanic.normal ?_)
                      all_goals
                        have HSX := HS9
                        clear HS9 HSA HS8 HSD K8 KE KA KB KC KD qE qA qB q1 HBB HOS BA HB8 HBE HCE
                        generalize wC.setCell ⟨g6, 1, none⟩ (.slice Ab (bs.length + 1) cbb) = w9 at HSX ⊢
                        have g1 : w9.cell? ⟨g9, 1, none⟩ = some (.int .i64 i) := (blk_cell HSX.out.h9 1).trans rfl
                        obtain ⟨gi, fi⟩ := Kd.R_cell (0 : Int) HSX.out.rb i (of_eq_true c9) (of_eq_true c10)
                        go_upto_region 27 with (fail)
                        go_region
                        go_wp2
                        go_meet
                        case rel => exact ⟨_, _, _, _, _, _, (by first | rfl | (simp; done) | (simp [*]; done)), ⟨HH.out⟩, ⟨by first | exact HSX.out.drew.count i _ | exact (HSX.out.count i _).drew | exact HSX.out.count i _⟩⟩
                  rw [if_neg q1] at hs
                  have e1 : ((rd_T48 l1 y).f0 == 1) = false := by simpa using q1
                  obtain rfl := Option.some.inj hs
                  go_wp2
                  go_meet
                  case rel => exact ⟨_, _, _, _, _, _, (by first | rfl | (simp; done) | (simp [*]; done)), ⟨HH.out⟩, HS6⟩
                case rest =>
                  clear HST HH HS6 HB6 k0 k1' k2' n1 n3 m1 m3
                  obtain ⟨born1, bs1, i1, vd1, vb1, d1, rfl, HH, HS⟩ := hcut
                  obtain ⟨Ad1, cd1, ed⟩ := Kd.R_slice HS.out.rd
                  subst ed
                  obtain ⟨Ab1, cb1, eb⟩ := Kd.S_slice HS.out.sb
                  subst eb
                  have n3 : wc.cell? ⟨g9, 3, none⟩ = some (.slice Ad1 d1.length cd1) := (blk_cell HS.out.h9 3).trans rfl
                  have y1 : wc.cell? ⟨g6, 1, none⟩ = some (.slice Ab1 bs1.length cb1) := (blk_cell HS.out.h6 1).trans rfl
                  have H := HH.out
                  clear HH
                  by_cases s1 : (d1.length : Int) > 40
                  · rw [if_pos s1] at H
                    have s1b : decide ((d1.length : Int) > 40) = true := decide_eq_true s1
                    simp only [Option.some.injEq, Prod.mk.injEq] at H
                    obtain ⟨rfl, rfl, rfl⟩ := H
                    clear s1
                    go_upto_region 29 with (fail)
                    have z0 : wc.cell? ⟨g4, 0, none⟩ = some (.slice none 0 0) := (blk_cell HS.out.h4 0).trans rfl
                    have z1 : wc.cell? ⟨g4, 1, none⟩ = some (.slice none 0 0) := (blk_cell HS.out.h4 1).trans rfl
                    have f0 := blk_frozen HS.out.h4 0
                    have f1 := blk_frozen HS.out.h4 1
                    go_wp2
                    refine bodyPost_ret (results_ct rfl _ _ g4 28 #[.slice none 0 0, .slice none 0 0] (0, 0) _ rfl (nil_put HS.out.h4) hu28 rfl (by kernel_rfl)) rfl ?_
                    exact ⟨_, _, rfl, Kd.S_nil _ _ _ _ _, Kd.S_nil _ _ _ _ _, below_set (below_set HS.out.b HS.out.n4) HS.out.n4⟩
                  rw [if_neg s1] at H
                  have s1b : decide ((d1.length : Int) > 40) = false := decide_eq_false s1
                  clear s1
                  by_cases s2 : (bs1.length : Int) > 300
                  · rw [if_pos s2] at H
                    have s2b : decide ((bs1.length : Int) > 300) = true := decide_eq_true s2
                    simp only [Option.some.injEq, Prod.mk.injEq] at H
                    obtain ⟨rfl, rfl, rfl⟩ := H
                    clear s2
                    go_upto_region 29 with (fail)
                    have z0 : wc.cell? ⟨g4, 0, none⟩ = some (.slice none 0 0) := (blk_cell HS.out.h4 0).trans rfl
                    have z1 : wc.cell? ⟨g4, 1, none⟩ = some (.slice none 0 0) := (blk_cell HS.out.h4 1).trans rfl
                    have f0 := blk_frozen HS.out.h4 0
                    have f1 := blk_frozen HS.out.h4 1
                    go_wp2
                    refine bodyPost_ret (results_ct rfl _ _ g4 28 #[.slice none 0 0, .slice none 0 0] (0, 0) _ rfl (nil_put HS.out.h4) hu28 rfl (by kernel_rfl)) rfl ?_
                    exact ⟨_, _, rfl, Kd.S_nil _ _ _ _ _, Kd.S_nil _ _ _ _ _, below_set (below_set HS.out.b HS.out.n4) HS.out.n4⟩
                  rw [if_neg s2] at H
                  have s2b : decide ((bs1.length : Int) > 300) = false := decide_eq_false s2
                  have HH := Aside0.mk H
                  clear s2 H
                  go_wp2
                  go_roundg k2
                  case measure => have := HK1.out; omega
                  case rel => exact ⟨_, _, i1, _, _, _, wrap64 (y + 1), (by first | rfl | (simp; done) | (simp [*]; done)), HH, ⟨by have := HK1.out; omega⟩, HS⟩
              · rw [if_neg c6] at H
                have c6b : decide (y < (l1.length : Int)) = false := decide_eq_false c6
                clear c6
                replace H := Option.bind_eq_some_iff.mp H
                obtain ⟨⟨rs, b⟩, hrs, H⟩ := H
                have HRS := Aside0.mk hrs
                clear hrs
                obtain ⟨Ab, cbb, e8, hcb, hCb⟩ := Kd.S_reads HS.out.sb
                subst e8
                obtain ⟨Ap, cp, e9, hcp, hCp⟩ := Kd.S_reads HS.out.sp
                subst e9
                have z60 : wr.cell? ⟨g6, 0, none⟩ = some (.slice Ap acc.length cp) := (blk_cell HS.out.h6 0).trans rfl
                have z61 : wr.cell? ⟨g6, 1, none⟩ = some (.slice Ab bs.length cbb) := (blk_cell HS.out.h6 1).trans rfl
                have HCB := Aside0.mk hCb
                have HCP := Aside0.mk hCp
                have HCB0 := Aside0.mk hcb
                have HCP0 := Aside0.mk hcp
                clear hcb hCb hcp hCp
                cases b with
                | false =>
                  rw [if_neg (by simp)] at H
                  simp only [Option.some.injEq, Prod.mk.injEq] at H
                  obtain ⟨rfl, rfl, rfl⟩ := H
                  go_upto_region 32 with (first | (go_at_call 28; (with_reducible refine (spec_Records.calls k2 _ _ acc _ _ bs rs false _ ?side1 ?side2 ?side3 ?side4 HRS.out).mono ?_); (case side1 => exact HCP.out); (case side2 => exact HCP0.out); (case side3 => exact HCB.out); (case side4 => exact HCB0.out); rintro e w7 ⟨vr, rfl, hor, hb7⟩; have HS7 := Aside0.mk (HS.out.below hb7); obtain ⟨Ar, cr, er, hcr, hCr⟩ := Kd.R_reads hor; subst er; have HCR := Aside0.mk hCr; have HCR0 := Aside0.mk hcr; clear hb7 hor hcr hCr))
                  have z0 : w7.cell? ⟨g4, 0, none⟩ = some (.slice none 0 0) := (blk_cell HS7.out.h4 0).trans rfl
                  have z1 : w7.cell? ⟨g4, 1, none⟩ = some (.slice none 0 0) := (blk_cell HS7.out.h4 1).trans rfl
                  have f0 := blk_frozen HS7.out.h4 0
                  have f1 := blk_frozen HS7.out.h4 1
                  go_wp2
                  refine bodyPost_ret (results_ct rfl _ _ g4 28 #[.slice none 0 0, .slice none 0 0] (0, 0) _ rfl (nil_put HS7.out.h4) hu28 rfl (by kernel_rfl)) rfl ?_
                  exact ⟨_, _, rfl, Kd.S_nil _ _ _ _ _, Kd.S_nil _ _ _ _ _, below_set (below_set HS7.out.b HS7.out.n4) HS7.out.n4⟩
                | true =>
                  rw [if_pos rfl] at H
                  replace H := Option.bind_eq_some_iff.mp H
                  obtain ⟨e, he, H⟩ := H
                  have HE := Aside0.mk he
                  clear he
                  cases e with
                  | false =>
                    rw [if_neg (by decide)] at H
                    simp only [Option.some.injEq, Prod.mk.injEq] at H
                    obtain ⟨rfl, rfl, rfl⟩ := H
                    go_upto_region 32 with (first | (go_at_call 28; (with_reducible refine (spec_Records.calls k2 _ _ acc _ _ bs rs true _ ?side1 ?side2 ?side3 ?side4 HRS.out).mono ?_); (case side1 => exact HCP.out); (case side2 => exact HCP0.out); (case side3 => exact HCB.out); (case side4 => exact HCB0.out); rintro e w7 ⟨vr, rfl, hor, hb7⟩; have HS7 := Aside0.mk (HS.out.below hb7); obtain ⟨Ar, cr, er, hcr, hCr⟩ := Kd.R_reads hor; subst er; have HCR := Aside0.mk hCr; have HCR0 := Aside0.mk hcr; clear hb7 hor hcr hCr) | (go_at_call 29; (with_reducible refine (spec_l07Same.calls k2 _ _ rs _ _ l1 false _ ?side1 ?side2 ?side3 ?side4 HE.out).mono ?_); (case side1 => exact HCR.out); (case side2 => exact HCR0.out); (case side3 => exact Kd.C_below HR1.out HS7.out.b); (case side4 => exact HC1.out); rintro e w' ⟨rfl, ⟨nd, rfl⟩⟩))
                    have HSA := Aside0.mk (HS7.out.drewN nd)
                    generalize w7.drewN nd = wa at HSA ⊢
                    have z0 : wa.cell? ⟨g4, 0, none⟩ = some (.slice none 0 0) := (blk_cell HSA.out.h4 0).trans rfl
                    have z1 : wa.cell? ⟨g4, 1, none⟩ = some (.slice none 0 0) := (blk_cell HSA.out.h4 1).trans rfl
                    have f0 := blk_frozen HSA.out.h4 0
                    have f1 := blk_frozen HSA.out.h4 1
                    go_wp2
                    refine bodyPost_ret (results_ct rfl _ _ g4 28 #[.slice none 0 0, .slice none 0 0] (0, 0) _ rfl (nil_put HSA.out.h4) hu28 rfl (by kernel_rfl)) rfl ?_
                    exact ⟨_, _, rfl, Kd.S_nil _ _ _ _ _, Kd.S_nil _ _ _ _ _, below_set (below_set HSA.out.b HSA.out.n4) HSA.out.n4⟩
                  | true =>
                    rw [if_pos rfl] at H
                    simp only [Option.some.injEq, Prod.mk.injEq] at H
                    obtain ⟨rfl, rfl, rfl⟩ := H
                    go_upto_region 33 with (first | (go_at_call 28; (with_reducible refine (spec_Records.calls k2 _ _ acc _ _ bs rs true _ ?side1 ?side2 ?side3 ?side4 HRS.out).mono ?_); (case side1 => exact HCP.out); (case side2 => exact HCP0.out); (case side3 => exact HCB.out); (case side4 => exact HCB0.out); rintro e w7 ⟨vr, rfl, hor, hb7⟩; have HS7 := Aside0.mk (HS.out.below hb7); obtain ⟨Ar, cr, er, hcr, hCr⟩ := Kd.R_reads hor; subst er; have HCR := Aside0.mk hCr; have HCR0 := Aside0.mk hcr; clear hb7 hor hcr hCr) | (go_at_call 29; (with_reducible refine (spec_l07Same.calls k2 _ _ rs _ _ l1 true _ ?side1 ?side2 ?side3 ?side4 HE.out).mono ?_); (case side1 => exact HCR.out); (case side2 => exact HCR0.out); (case side3 => exact Kd.C_below HR1.out HS7.out.b); (case side4 => exact HC1.out); rintro e w' ⟨rfl, ⟨nd, rfl⟩⟩))
                    have HSA := Aside0.mk (HS7.out.drewN nd)
                    clear HS HS7 z60 z61 HCR HCB HCP
                    generalize w7.drewN nd = wa at HSA ⊢
                    have z0 : wa.cell? ⟨g4, 0, none⟩ = some (.slice none 0 0) := (blk_cell HSA.out.h4 0).trans rfl
                    have z1 : wa.cell? ⟨g4, 1, none⟩ = some (.slice none 0 0) := (blk_cell HSA.out.h4 1).trans rfl
                    have f0 := blk_frozen HSA.out.h4 0
                    have f1 := blk_frozen HSA.out.h4 1
                    have z60 : wa.cell? ⟨g6, 0, none⟩ = some (.slice Ap acc.length cp) := (blk_cell HSA.out.h6 0).trans rfl
                    have z61 : wa.cell? ⟨g6, 1, none⟩ = some (.slice Ab bs.length cbb) := (blk_cell HSA.out.h6 1).trans rfl
                    go_wp2
                    refine bodyPost_ret (results_ct rfl _ _ g4 28 #[.slice Ap acc.length cp, .slice Ab bs.length cbb] (0, 0) _ rfl (blk_put (cs := #[.slice Ap acc.length cp, .slice none 0 0]) (blk_put (cs := #[.slice none 0 0, .slice none 0 0]) HSA.out.h4 0 _ rfl) 1 _ rfl) hu28 rfl (by kernel_rfl)) rfl ?_
                    exact ⟨_, _, rfl, Kd.S_mono (Kd.S_far (p := ⟨g4, 1, none⟩) (Kd.S_far (p := ⟨g4, 0, none⟩) HSA.out.sp (fun _ hk => hk.1) _) (fun _ hk => hk.1) _) (fun _ _ => trivial), Kd.S_mono (Kd.S_far (p := ⟨g4, 1, none⟩) (Kd.S_far (p := ⟨g4, 0, none⟩) HSA.out.sb (fun _ hk => hk.1) _) (fun _ hk => hk.1) _) (fun _ _ => trivial), below_set (below_set HSA.out.b HSA.out.n4) HSA.out.n4⟩

end Go.Proofs.YtmodgiingohphaaGreat.PFnExactFromRecords
-- (flat)
-- (thin)
