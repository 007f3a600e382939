-- Made by a program (the kit's print with additions of this session: wip/tools/patch_print.py, ext.py).
-- (turned)
import Derived.Test.YtmodgiingohphaaPFnExactAddVersionx3
namespace Go.Proofs.Ytmodgiingohphaa.PFnExactAddVersion
open Go.RowKit Go.Proofs.YtmodgiingohphaaW.PrintWords Go.Proofs.YtmodgiingohphaaW.PrintLast Go.Proofs.YtmodgiingohphaaW.PrintMore
attribute [local go_sem] max2_int min2_int max_two min_two max_three min_three max_four min_four   -- for this text's walks alone
set_option linter.unusedVariables false
set_option linter.unusedSimpArgs false

/-! ### spec_GraphOk: function 98 -/
def spec_GraphOk.l0 : Nat → List (List Int) → Int → Option (Bool)
  | 0, _, _ => none
  | k + 1, x0, x3 => if x3 < (x0.length : Int) then (if 0 ≤ x3 then (if ((rd_L1 x0 x3).length : Int) > 4 then (some false) else ((spec_l05Rise.f k (rd_L1 x0 x3) x3).bind fun t174 => (if t174 = true then (spec_GraphOk.l0 k x0 (wrap64 (x3 + 1))) else (some false)))) else (none)) else (some true)
def spec_GraphOk.f (k : Nat) (l0 : List (List Int)) : Option (Bool) := if (l0.length : Int) > 40 then (some false) else (spec_GraphOk.l0 k l0 0)
theorem spec_GraphOk.mono_l : ∀ k, (∀ y0 y1, LeO (spec_GraphOk.l0 k y0 y1) (spec_GraphOk.l0 (k + 1) y0 y1))
  | 0 => by intros; exact LeO.none _
  | k + 1 => by
    have ih0 := spec_GraphOk.mono_l k; intros ; unfold spec_GraphOk.l0 ; repeat' with_reducible first | exact LeO.refl _ | exact LeO.none _ | refine LeO.ite ?_ ?_ | refine LeO.bind ?_ (fun _ => ?_) | apply ih0 | apply spec_l05Rise.mono
theorem spec_GraphOk.mono : ∀ a0 k, LeO (spec_GraphOk.f k a0) (spec_GraphOk.f (k + 1) a0) := by
  intro a0 k; have ih0 := spec_GraphOk.mono_l k; unfold spec_GraphOk.f
  repeat' with_reducible first | exact LeO.refl _ | exact LeO.none _ | refine LeO.ite ?_ ?_ | refine LeO.bind ?_ (fun _ => ?_) | apply ih0 | apply spec_l05Rise.mono
set_option maxHeartbeats 8000000 in
set_option maxRecDepth 100000 in
theorem spec_GraphOk.calls (k : Nat) (A0 : Option Addr) (c0 : Nat) (l0 : List (List Int)) (r : Bool) (w : World) (hr0 : Kd.C (Kd.slice 3 (Kd.int .i64)) w A0 l0.length l0) (hc0 : l0.length ≤ c0) (h : spec_GraphOk.f k l0 = some r) :
    Calls Try.prog 98 #[.slice A0 l0.length c0] w fun e w' => e = .returned (.bool r) ∧ Drawn0 w w' := by
  have HR0 := Aside0.mk hr0; have HC0 := Aside0.mk hc0; clear hr0 hc0; have H := h; unfold spec_GraphOk.f at H; clear h; by_cases c2 : (l0.length : Int) > 40
  · rw [if_pos c2] at H; have c2b0 := decide_eq_true c2; have c2b1 : decide (40 < l0.length) = true := decide_eq_true (by omega); clear c2; obtain rfl := Option.some.inj H; go_enter Try.func98, Try.ntmps98; go_wp2; go_ret; exact ⟨by first | rfl | (simp; done) | (simp [*]; done), by repeat (first | exact Drawn0.refl _ | apply Drawn0.step)⟩
  · rw [if_neg c2] at H; have c2b0 := decide_eq_false c2; have c2b1 : decide (40 < l0.length) = false := decide_eq_false (by omega); clear c2; have H' := Aside0.mk H; clear H; go_enter Try.func98, Try.ntmps98; go_wp2; go_loopg [3] k (fun kq v3 w' => ∃ (x3_1 : Int), v3 = .int .i64 x3_1 ∧ Aside0 (spec_GraphOk.l0 kq l0 x3_1 = some r) ∧ Aside0 (kq ≤ k) ∧ Drawn0 w w')
    case atStart => exact ⟨(0), q3_, H', ⟨Nat.le_refl _⟩, by repeat (first | exact Drawn0.refl _ | apply Drawn0.step)⟩
    case round =>
     clear H'; obtain ⟨x3_1, rfl, HA, HK1, ⟨m1, rfl⟩⟩ := hrel
     cases gk with
     | zero => exact absurd HA.out (by simp [spec_GraphOk.l0])
     | succ k1 =>
      have H := HA.out; clear HA; simp only [spec_GraphOk.l0] at H; by_cases c3 : x3_1 < (l0.length : Int)
      ·rw [if_pos c3] at H; have c3b0 := decide_eq_true c3; clear c3; obtain ⟨c4b0, H⟩ := ifd_ H; by_cases c5 : ((rd_L1 l0 x3_1).length : Int) > 4
       ·rw [if_pos c5] at H; have c5b0 := decide_eq_true c5; have c5b1 : decide (4 < (rd_L1 l0 x3_1).length) = true := decide_eq_true (by omega); clear c5; obtain rfl := Option.some.inj H; obtain ⟨p172, q172, ad172, A172_0, c172_0, e172, hx172_0, hl172_0, hi172_0⟩ := pq_ (at_L1 HR0.out x3_1); cases e172; have HR172_0 := Aside0.mk hi172_0; have HC172_0 := Aside0.mk hl172_0; clear hi172_0 hl172_0; go_wp2; go_ret; exact ⟨by first | rfl | (simp; done) | (simp [*]; done), by repeat (first | exact Drawn0.refl _ | apply Drawn0.step)⟩
       ·rw [if_neg c5] at H; have c5b0 := decide_eq_false c5; have c5b1 : decide (4 < (rd_L1 l0 x3_1).length) = false := decide_eq_false (by omega); clear c5; replace H := Option.bind_eq_some_iff.mp H; obtain ⟨t174, A60, H⟩ := H; (try dsimp only at H); have A6 := Aside0.mk A60; clear A60; by_cases c7 : t174 = true
        ·subst c7; rw [if_pos rfl] at H; have H' := Aside0.mk H; clear H; obtain ⟨p172, q172, ad172, A172_0, c172_0, e172, hx172_0, hl172_0, hi172_0⟩ := pq_ (at_L1 HR0.out x3_1); cases e172; have HR172_0 := Aside0.mk hi172_0; have HC172_0 := Aside0.mk hl172_0; clear hi172_0 hl172_0; obtain ⟨p173, q173, ad173, A173_0, c173_0, e173, hx173_0, hl173_0, hi173_0⟩ := pq_ (at_L1 HR0.out x3_1); obtain rfl : ad172 = ad173 := (by injection e173); have HR173_0 := Aside0.mk hi173_0; have HC173_0 := Aside0.mk hl173_0; clear hi173_0 hl173_0; have ea_ := Option.some.inj (hx172_0.symm.trans hx173_0); injection ea_ with ea_ en_ ec_
         subst ea_; subst ec_; clear en_; go_wp2_with (first | (go_at_call 102; (try simp only [i64_w]); (with_reducible refine (spec_l05Rise.calls k1 _ _ (rd_L1 l0 x3_1) x3_1 true _ ?side1 ?side2 A6.out).mono ?_); (case side1 => exact (by repeat (first | exact HR173_0.out | (with_reducible refine Kd.C_alloc ?_ _) | (with_reducible refine Kd.C_drewN ?_ _) | (with_reducible refine Kd.C_drew ?_)))); (case side2 => exact HC173_0.out); rintro e w' ⟨rfl, ⟨nd, rfl⟩⟩)); go_roundg k1
         case measure => have := HK1.out; omega
         case rel => exact ⟨(wrap64 (x3_1 + 1)), q3_, H', ⟨by have := HK1.out; omega⟩, by repeat (first | exact Drawn0.refl _ | apply Drawn0.step)⟩
        ·replace c7 := Bool.eq_false_iff.mpr c7; subst c7; rw [if_neg nf_] at H; obtain rfl := Option.some.inj H; obtain ⟨p172, q172, ad172, A172_0, c172_0, e172, hx172_0, hl172_0, hi172_0⟩ := pq_ (at_L1 HR0.out x3_1); cases e172; have HR172_0 := Aside0.mk hi172_0; have HC172_0 := Aside0.mk hl172_0; clear hi172_0 hl172_0; obtain ⟨p173, q173, ad173, A173_0, c173_0, e173, hx173_0, hl173_0, hi173_0⟩ := pq_ (at_L1 HR0.out x3_1); obtain rfl : ad172 = ad173 := (by injection e173); have HR173_0 := Aside0.mk hi173_0; have HC173_0 := Aside0.mk hl173_0; clear hi173_0 hl173_0; have ea_ := Option.some.inj (hx172_0.symm.trans hx173_0); injection ea_ with ea_ en_ ec_
         subst ea_; subst ec_; clear en_; go_wp2_with (first | (go_at_call 102; (try simp only [i64_w]); (with_reducible refine (spec_l05Rise.calls k1 _ _ (rd_L1 l0 x3_1) x3_1 false _ ?side1 ?side2 A6.out).mono ?_); (case side1 => exact (by repeat (first | exact HR173_0.out | (with_reducible refine Kd.C_alloc ?_ _) | (with_reducible refine Kd.C_drewN ?_ _) | (with_reducible refine Kd.C_drew ?_)))); (case side2 => exact HC173_0.out); rintro e w' ⟨rfl, ⟨nd, rfl⟩⟩)); go_ret; exact ⟨by first | rfl | (simp; done) | (simp [*]; done), by repeat (first | exact Drawn0.refl _ | apply Drawn0.step)⟩
      ·rw [if_neg c3] at H; have c3b0 := decide_eq_false c3; clear c3; obtain rfl := Option.some.inj H; go_wp2; go_ret; exact ⟨by first | rfl | (simp; done) | (simp [*]; done), by repeat (first | exact Drawn0.refl _ | apply Drawn0.step)⟩

/-! ### spec_l05Set: function 99 -/
mutual
def spec_l05Set.l0 : Nat → List (List Int) → List Int → List Bool → Int → Option (List Bool)
  | 0, _, _, _, _ => none
  | k + 1, x0, x1, x5, x6 => if x6 < (x1.length : Int) then (if 0 ≤ x6 then ((spec_l01In.f (rd x1 x6) 0 (wrap64 ((x0.length : Int) - 1))).bind fun t179 => (if t179 = true then (if 0 ≤ (rd x1 x6) then (if (rd x1 x6) < (x5.length : Int) then (spec_l05Set.l0 k x0 x1 (x5.set ((rd x1 x6) : Int).toNat true) (wrap64 (x6 + 1))) else (none)) else (none)) else (spec_l05Set.l0 k x0 x1 x5 (wrap64 (x6 + 1))))) else (none)) else (spec_l05Set.l1 k x0 x5 (wrap64 ((x0.length : Int) - 1)))
def spec_l05Set.l1 : Nat → List (List Int) → List Bool → Int → Option (List Bool)
  | 0, _, _, _ => none
  | k + 1, x0, x5, x7 => if x7 ≥ 0 then (spec_l05Set.l2 k x0 x5 x7 0) else (some x5)
def spec_l05Set.l2 : Nat → List (List Int) → List Bool → Int → Int → Option (List Bool)
  | 0, _, _, _, _ => none
  | k + 1, x0, x5, x7, x8 => if 0 ≤ x7 then (if x7 < (x0.length : Int) then (if x8 < ((rd_L1 x0 x7).length : Int) then (if x7 < (x5.length : Int) then (if rdOf false x5 x7 = true then (if 0 ≤ x8 then (if 0 ≤ (rd (rd_L1 x0 x7) x8) then (if (rd (rd_L1 x0 x7) x8) < (x5.length : Int) then (spec_l05Set.l2 k x0 (x5.set ((rd (rd_L1 x0 x7) x8) : Int).toNat true) x7 (wrap64 (x8 + 1))) else (none)) else (none)) else (none)) else (spec_l05Set.l1 k x0 x5 (wrap64 (x7 - 1)))) else (none)) else (spec_l05Set.l1 k x0 x5 (wrap64 (x7 - 1)))) else (none)) else (none)
end
def spec_l05Set.f (k : Nat) (l0 : List (List Int)) (l1 : List Int) : Option (List Bool) := if 0 ≤ (l0.length : Int) then (if ((l0.length : Int) : Int).toNat ≤ 281474976710656 then (spec_l05Set.l0 k l0 l1 (List.replicate ((l0.length : Int) : Int).toNat false) 0) else (none)) else (none)
theorem spec_l05Set.mono_l : ∀ k, (∀ y0 y1 y2 y3, LeO (spec_l05Set.l0 k y0 y1 y2 y3) (spec_l05Set.l0 (k + 1) y0 y1 y2 y3)) ∧ (∀ y0 y1 y2, LeO (spec_l05Set.l1 k y0 y1 y2) (spec_l05Set.l1 (k + 1) y0 y1 y2)) ∧ (∀ y0 y1 y2 y3, LeO (spec_l05Set.l2 k y0 y1 y2 y3) (spec_l05Set.l2 (k + 1) y0 y1 y2 y3))
  | 0 => by refine ⟨?_, ?_, ?_⟩ <;> intros <;> exact LeO.none _
  | k + 1 => by
    obtain ⟨ih0, ih1, ih2⟩ := spec_l05Set.mono_l k; refine ⟨?_, ?_, ?_⟩ <;> intros <;> (first | unfold spec_l05Set.l0 | unfold spec_l05Set.l1 | unfold spec_l05Set.l2) <;> repeat' with_reducible first | exact LeO.refl _ | exact LeO.none _ | refine LeO.ite ?_ ?_ | refine LeO.bind ?_ (fun _ => ?_) | apply ih0 | apply ih1 | apply ih2
theorem spec_l05Set.mono : ∀ a0 a1 k, LeO (spec_l05Set.f k a0 a1) (spec_l05Set.f (k + 1) a0 a1) := by
  intro a0 a1 k; obtain ⟨ih0, ih1, ih2⟩ := spec_l05Set.mono_l k; unfold spec_l05Set.f
  repeat' with_reducible first | exact LeO.refl _ | exact LeO.none _ | refine LeO.ite ?_ ?_ | refine LeO.bind ?_ (fun _ => ?_) | apply ih0 | apply ih1 | apply ih2
set_option maxHeartbeats 8000000 in
set_option maxRecDepth 100000 in
theorem spec_l05Set.calls (k : Nat) (A0 : Option Addr) (c0 : Nat) (l0 : List (List Int)) (A1 : Option Addr) (c1 : Nat) (l1 : List Int) (r : List Bool) (w : World) (hr0 : Kd.C (Kd.slice 3 (Kd.int .i64)) w A0 l0.length l0) (hc0 : l0.length ≤ c0) (hr1 : Kd.C (Kd.int .i64) w A1 l1.length l1) (hc1 : l1.length ≤ c1) (h : spec_l05Set.f k l0 l1 = some r) :
    Calls Try.prog 99 #[.slice A0 l0.length c0, .slice A1 l1.length c1] w fun e w' => ∃ v0_ : Value, e = .returned (v0_) ∧ Kd.R Kd.bool 4 w' w.heap.size (fun _ => True) v0_ r ∧ Below w.heap.size w w' := by
  have HR0 := Aside0.mk hr0; have HC0 := Aside0.mk hc0; clear hr0 hc0; have HR1 := Aside0.mk hr1; have HC1 := Aside0.mk hc1; clear hr1 hc1; have HB := Aside0.mk (Below.refl w.heap.size w); have H := h; unfold spec_l05Set.f at H; clear h; obtain ⟨c3b0, c3b1, H⟩ := ife_ H; obtain ⟨c4b0, c4b1, H⟩ := ife_ H; obtain ⟨y175, hy_⟩ : ∃ y_ : List Bool, y_ = (List.replicate ((l0.length : Int) : Int).toNat false) := ⟨_, rfl⟩; rw [← hy_] at H; have Ny175 := Aside0.mk hy_; clear hy_; have H' := Aside0.mk H; clear H; go_enter Try.func99, Try.ntmps99; go_wp2_with (first | ((with_reducible refine gate_dst (N := 11) rfl ?_); refine Kd.R_make Kd.bool _ 4 rfl (N := 11) rfl 127 _ _ rfl (l0.length : Int) rfl rfl Try.underlying127 (.bool false) 1 info4 rfl (by decide) (by omega) false (ok := fun _ => True) (okp := fun _ => True) rfl (fun _ hk => hk) trivial (of_decide_eq_true q0_) (Nat.le_trans (Nat.mul_le_mul_right _ (of_decide_eq_true q0_ : (l0.length : Int).toNat ≤ 281474976710656)) (by omega)) (Below.refl _ _) (Nat.le_refl _) ?_; intro v176 w5 ho6 hb hg_ hnew_; clear hg_ hnew_; (first | rw [← Ny175.out] at ho6 | (simp only [Int.reduceToNat] at ho6; rw [← Ny175.out] at ho6)); refine ai2_ (Kd.R_lower ho6 (below_size q1_)) (below_step q1_ hb) ?_; clear HB; intro HO177 HB; clear hb ho6)); go_loopg [6] k (fun kq v6 w' => ∃ (x5_1 : List Bool) (x6_1 : Int), v6 = .int .i64 x6_1 ∧ Aside0 (spec_l05Set.l0 kq l0 l1 x5_1 x6_1 = some r) ∧ Aside0 (kq ≤ k) ∧ Aside0 (Kd.R Kd.bool 4 w' w.heap.size (fun _ => True) v176 x5_1) ∧ Aside0 (Below w.heap.size w w'))
  case atStart => exact ⟨(y175), (0), q3_, H', ⟨Nat.le_refl _⟩, z_ HO177, ⟨zb_⟩⟩
  case round =>
    clear H'; obtain ⟨x5_1, x6_1, rfl, HA, HK1, HO_5, HB⟩ := hrel
    cases gk with
    | zero => exact absurd HA.out (by simp [spec_l05Set.l0])
    | succ k1 =>
     have H := HA.out; clear HA; simp only [spec_l05Set.l0] at H; by_cases c7 : x6_1 < (l1.length : Int)
     ·rw [if_pos c7] at H; have c7b0 := decide_eq_true c7; clear c7; obtain ⟨c8b0, H⟩ := ifd_ H; replace H := Option.bind_eq_some_iff.mp H; obtain ⟨t179, A90, H⟩ := H; (try dsimp only at H); have A9 := Aside0.mk A90; clear A90; by_cases c10 : t179 = true
      ·subst c10; rw [if_pos rfl] at H; obtain ⟨c11b0, H⟩ := ifd_ H; obtain ⟨c12b0, H⟩ := ifd_ H; obtain ⟨y181, hy_⟩ : ∃ y_ : List Bool, y_ = (x5_1.set ((rd l1 x6_1) : Int).toNat true) := ⟨_, rfl⟩; rw [← hy_] at H; have Ny181 := Aside0.mk hy_; clear hy_; have H' := Aside0.mk H; clear H; obtain ⟨p178, q178, ad178, e178, hx178_0⟩ := pq_ (Kd.at_int HR1.out x6_1); cases e178; replace hx178_0 := bx_ HB hx178_0; go_wp2_with (first | ((with_reducible refine gate_callee (f := 101) rfl ?_); refine gl_ 25 Try.func101 #[.int .i64 (rd l1 x6_1), .int .i64 0, .int .i64 (wrap64 ((l0.length : Int) - 1))] ?_; (with_reducible refine (spec_l01In.calls (rd l1 x6_1) 0 (wrap64 ((l0.length : Int) - 1)) true _ A9.out).mono ?_); rintro e w' ⟨rfl, ⟨nd, rfl⟩⟩; refine ⟨_, rfl, ?_⟩; (try (rw [drewN_self wr]; generalize hq_ : World.drewN wr _ = wr; (try (replace hx172_0 := cell_at hq_ hx172_0)); (try (replace hx173_0 := cell_at hq_ hx173_0)); (try (replace hx178_0 := cell_at hq_ hx178_0)); have n0_ : Aside0 (Kd.R Kd.bool 4 wr w.heap.size (fun _ => True) v176 x5_1) := ⟨by rw [← hq_]; exact q11_⟩; have n1_ : Aside0 (Below w.heap.size w wr) := ⟨by rw [← hq_]; exact q1_⟩; clear HO_5 HB hq_; have HO_5 := n0_; have HB := n1_; clear n0_ n1_)); obtain ⟨p180, q180, ad180, e180, hx180_0⟩ := pq_ (Kd.at_int HR1.out x6_1); obtain rfl : ad178 = ad180 := (by injection e180); replace hx180_0 := bx_ HB hx180_0; have p13 : 0 ≤ ((rd l1 x6_1) : Int) := of_decide_eq_true q0_; have q13 : ((rd l1 x6_1) : Int) < ((x5_1.length : Int) : Int) := of_decide_eq_true q0_; obtain ⟨go13, co13, eo13, gb13, gl13, cl13, HG13⟩ := Kd.R_form HO_5.out (by omega); (first | cases eo13 | (injection eo13 with ea_ en_ ec_; (first | subst ea_ | (injection ea_ with ea_; subst ea_)); subst ec_; clear en_)); have GB13 := Aside0.mk gb13; have GG13 := Aside0.mk HG13; clear gb13 gl13 HG13; obtain ⟨hx13_0, hf13_0⟩ := Kd.R_celln false HO_5.out ((rd l1 x6_1) : Int) p13 q13; replace p13 := eq_true p13; replace q13 := eq_true q13; obtain ⟨hy14_, hz14_⟩ := Kd.R_celln false HO_5.out ((rd l1 x6_1) : Int) (of_decide_eq_true q0_) (of_decide_eq_true q0_); have HP14 := Kd.R_putg HO_5.out ((rd l1 x6_1) : Int) true) | ((with_reducible refine gate_store (t := 4) (p := 31) rfl ?_); refine store_event (t := 4) (p := 31) (v := ?vo_w15) (w1 := (wr.setCell ⟨go13, ((rd l1 x6_1) : Int).toNat, none⟩ (.bool true))) ?hg ?ho ?hn ?hr ?_; (case ho => rfl); (case hg => rfl); (case hn => rfl); (case hr => first | (go_simp; done) | (go_simp; rfl)); intro w15 hw; have hg : wr.grownBy w15 (some go13) := (by rw [hw]; exact HP14.2); have hp_ : Kd.R Kd.bool 4 w15 w.heap.size (fun _ => True) (.slice (some ⟨go13, 0, none⟩) x5_1.length co13) y181 := (by rw [hw, Ny181.out]; exact HP14.1); clear HP14; refine ai2_ (hp_) ((by rw [hw]; exact below_set (HB.out) GB13.out : Below w.heap.size w w15)) ?_; clear HO_5 HB; intro HO_5 HB; clear hg hw hp_)); go_roundg k1
       case measure => have := HK1.out; omega
       case rel => exact ⟨(y181), (wrap64 (x6_1 + 1)), q3_, H', ⟨by have := HK1.out; omega⟩, z_ HO_5, ⟨zb_⟩⟩
      ·replace c10 := Bool.eq_false_iff.mpr c10; subst c10; rw [if_neg nf_] at H; have H' := Aside0.mk H; clear H; obtain ⟨p178, q178, ad178, e178, hx178_0⟩ := pq_ (Kd.at_int HR1.out x6_1); cases e178; replace hx178_0 := bx_ HB hx178_0; go_wp2_with (first | ((with_reducible refine gate_callee (f := 101) rfl ?_); refine gl_ 25 Try.func101 #[.int .i64 (rd l1 x6_1), .int .i64 0, .int .i64 (wrap64 ((l0.length : Int) - 1))] ?_; (with_reducible refine (spec_l01In.calls (rd l1 x6_1) 0 (wrap64 ((l0.length : Int) - 1)) false _ A9.out).mono ?_); rintro e w' ⟨rfl, ⟨nd, rfl⟩⟩; refine ⟨_, rfl, ?_⟩)); go_roundg k1
       case measure => have := HK1.out; omega
       case rel => exact ⟨(x5_1), (wrap64 (x6_1 + 1)), q3_, H', ⟨by have := HK1.out; omega⟩, z_ HO_5, ⟨zb_⟩⟩
     ·rw [if_neg c7] at H; have c7b0 := decide_eq_false c7; clear c7; have H' := Aside0.mk H; clear H; go_wp2; go_loopg [7] k1 (fun kq v7 w' => ∃ (x5_2 : List Bool) (x7_2 : Int), v7 = .int .i64 x7_2 ∧ Aside0 (spec_l05Set.l1 kq l0 x5_2 x7_2 = some r) ∧ Aside0 (kq ≤ k1) ∧ Aside0 (Kd.R Kd.bool 4 w' w.heap.size (fun _ => True) v176 x5_2) ∧ Aside0 (Below w.heap.size w w'))
      case atStart => exact ⟨(x5_1), (wrap64 ((l0.length : Int) - 1)), q3_, H', ⟨Nat.le_refl _⟩, z_ HO_5, ⟨zb_⟩⟩
      case round =>
       clear H'; obtain ⟨x5_2, x7_2, rfl, HA, HK2, HO_5, HB⟩ := hrel
       cases gk with
       | zero => exact absurd HA.out (by simp [spec_l05Set.l1])
       | succ k2 =>
        have H := HA.out; clear HA; simp only [spec_l05Set.l1] at H; by_cases c16 : x7_2 ≥ 0
        ·rw [if_pos c16] at H; have c16b0 := decide_eq_true c16; clear c16; have H' := Aside0.mk H; clear H; go_wp2; go_loopg [8] k2 (fun kq v8 w' => ∃ (x5_3 : List Bool) (x8_3 : Int), v8 = .int .i64 x8_3 ∧ Aside0 (spec_l05Set.l2 kq l0 x5_3 x7_2 x8_3 = some r) ∧ Aside0 (kq ≤ k2) ∧ Aside0 (Kd.R Kd.bool 4 w' w.heap.size (fun _ => True) v176 x5_3) ∧ Aside0 (Below w.heap.size w w'))
         case atStart => exact ⟨(x5_2), (0), q3_, H', ⟨Nat.le_refl _⟩, z_ HO_5, ⟨zb_⟩⟩
         case round =>
          clear H'; obtain ⟨x5_3, x8_3, rfl, HA, HK3, HO_5, HB⟩ := hrel
          cases gk with
          | zero => exact absurd HA.out (by simp [spec_l05Set.l2])
          | succ k3 =>
           have H := HA.out; clear HA; simp only [spec_l05Set.l2] at H; obtain ⟨c17b0, H⟩ := ifd_ H; obtain ⟨c18b0, H⟩ := ifd_ H; by_cases c19 : x8_3 < ((rd_L1 l0 x7_2).length : Int)
           ·rw [if_pos c19] at H; have c19b0 := decide_eq_true c19; clear c19; obtain ⟨c20b0, H⟩ := ifd_ H; obtain ⟨bq21, hbq21⟩ : ∃ b_ : Bool, b_ = (rdOf false x5_3 x7_2) := ⟨_, rfl⟩; rw [← hbq21] at H; have Nbq21 := Aside0.mk hbq21; clear hbq21; by_cases c22 : bq21 = true
            ·subst c22; rw [if_pos rfl] at H; obtain ⟨c23b0, H⟩ := ifd_ H; obtain ⟨c24b0, H⟩ := ifd_ H; obtain ⟨c25b0, H⟩ := ifd_ H; obtain ⟨y186, hy_⟩ : ∃ y_ : List Bool, y_ = (x5_3.set ((rd (rd_L1 l0 x7_2) x8_3) : Int).toNat true) := ⟨_, rfl⟩; rw [← hy_] at H; have Ny186 := Aside0.mk hy_; clear hy_; have H' := Aside0.mk H; clear H; obtain ⟨p182, q182, ad182, A182_0, c182_0, e182, hx182_0, hl182_0, hi182_0⟩ := pq_ (at_L1 HR0.out x7_2); cases e182; replace hx182_0 := bx_ HB hx182_0; have HR182_0 := Aside0.mk hi182_0; have HC182_0 := Aside0.mk hl182_0; clear hi182_0 hl182_0; obtain ⟨Ao27, co27, eo27⟩ := Kd.R_slice HO_5.out; subst eo27; obtain ⟨p183, q183, ad183, e183, hx183_0⟩ := pq_ (Kd.at_bool (Kd.R_reads' HO_5.out).2.2 x7_2); (try rw [← Nbq21.out] at hx183_0); cases e183; obtain ⟨p184, q184, ad184, A184_0, c184_0, e184, hx184_0, hl184_0, hi184_0⟩ := pq_ (at_L1 HR0.out x7_2); obtain rfl : ad182 = ad184 := (by injection e184); replace hx184_0 := bx_ HB hx184_0; have HR184_0 := Aside0.mk hi184_0; have HC184_0 := Aside0.mk hl184_0; clear hi184_0 hl184_0; have ea_ := Option.some.inj (hx182_0.symm.trans hx184_0); injection ea_ with ea_ en_ ec_
             subst ea_; subst ec_; clear en_; obtain ⟨p185, q185, ad185, e185, hx185_0⟩ := pq_ (Kd.at_int HR184_0.out x8_3); cases e185; replace hx185_0 := bx_ HB hx185_0; have p26 : 0 ≤ ((rd (rd_L1 l0 x7_2) x8_3) : Int) := of_decide_eq_true q0_; have q26 : ((rd (rd_L1 l0 x7_2) x8_3) : Int) < ((x5_3.length : Int) : Int) := of_decide_eq_true q0_; obtain ⟨go26, co26, eo26, gb26, gl26, cl26, HG26⟩ := Kd.R_form HO_5.out (by omega); (first | cases eo26 | (injection eo26 with ea_ en_ ec_; (first | subst ea_ | (injection ea_ with ea_; subst ea_)); subst ec_; clear en_)); have GB26 := Aside0.mk gb26; have GG26 := Aside0.mk HG26; clear gb26 gl26 HG26; (first | simp only [add_plain] at hx183_0 | skip); obtain ⟨hx26_0, hf26_0⟩ := Kd.R_celln false HO_5.out ((rd (rd_L1 l0 x7_2) x8_3) : Int) p26 q26; replace p26 := eq_true p26; replace q26 := eq_true q26; have HP28 := Kd.R_putg HO_5.out ((rd (rd_L1 l0 x7_2) x8_3) : Int) true; go_wp2_with (first | ((with_reducible refine gate_store (t := 4) (p := 62) rfl ?_); refine store_event (t := 4) (p := 62) (v := ?vo_w29) (w1 := (wr.setCell ⟨go26, ((rd (rd_L1 l0 x7_2) x8_3) : Int).toNat, none⟩ (.bool true))) ?hg ?ho ?hn ?hr ?_; (case ho => rfl); (case hg => rfl); (case hn => rfl); (case hr => first | (go_simp; done) | (go_simp; rfl)); intro w29 hw; have hg : wr.grownBy w29 (some go26) := (by rw [hw]; exact HP28.2); have hp_ : Kd.R Kd.bool 4 w29 w.heap.size (fun _ => True) (.slice (some ⟨go26, 0, none⟩) x5_3.length co27) y186 := (by rw [hw, Ny186.out]; exact HP28.1); clear HP28; refine ai2_ (hp_) ((by rw [hw]; exact below_set (HB.out) GB26.out : Below w.heap.size w w29)) ?_; clear HO_5 HB; intro HO_5 HB; clear hg hw hp_)); go_roundg k3
             case measure => have := HK1.out; have := HK2.out; have := HK3.out; omega
             case rel => exact ⟨(y186), (wrap64 (x8_3 + 1)), q3_, H', ⟨by have := HK1.out; have := HK2.out; have := HK3.out; omega⟩, z_ HO_5, ⟨zb_⟩⟩
            ·replace c22 := Bool.eq_false_iff.mpr c22; subst c22; rw [if_neg nf_] at H; have H' := Aside0.mk H; clear H; obtain ⟨p182, q182, ad182, A182_0, c182_0, e182, hx182_0, hl182_0, hi182_0⟩ := pq_ (at_L1 HR0.out x7_2); cases e182; replace hx182_0 := bx_ HB hx182_0; have HR182_0 := Aside0.mk hi182_0; have HC182_0 := Aside0.mk hl182_0; clear hi182_0 hl182_0; obtain ⟨Ao30, co30, eo30⟩ := Kd.R_slice HO_5.out; subst eo30; obtain ⟨p183, q183, ad183, e183, hx183_0⟩ := pq_ (Kd.at_bool (Kd.R_reads' HO_5.out).2.2 x7_2); (try rw [← Nbq21.out] at hx183_0); cases e183; go_wp2; go_roundg k3
             case measure => have := HK1.out; have := HK2.out; have := HK3.out; omega
             case rel => exact ⟨(x5_3), (wrap64 (x7_2 - 1)), q3_, H', ⟨by have := HK1.out; have := HK2.out; have := HK3.out; omega⟩, z_ HO_5, ⟨zb_⟩⟩
           ·rw [if_neg c19] at H; have c19b0 := decide_eq_false c19; clear c19; have H' := Aside0.mk H; clear H; obtain ⟨p182, q182, ad182, A182_0, c182_0, e182, hx182_0, hl182_0, hi182_0⟩ := pq_ (at_L1 HR0.out x7_2); cases e182; replace hx182_0 := bx_ HB hx182_0; have HR182_0 := Aside0.mk hi182_0; have HC182_0 := Aside0.mk hl182_0; clear hi182_0 hl182_0; go_wp2; go_roundg k3
            case measure => have := HK1.out; have := HK2.out; have := HK3.out; omega
            case rel => exact ⟨(x5_3), (wrap64 (x7_2 - 1)), q3_, H', ⟨by have := HK1.out; have := HK2.out; have := HK3.out; omega⟩, z_ HO_5, ⟨zb_⟩⟩
        ·rw [if_neg c16] at H; have c16b0 := decide_eq_false c16; clear c16; obtain rfl := Option.some.inj H; go_wp2; go_ret; exact ⟨_, er_, zp_ HO_5, zb_⟩
/-! ### spec_LineOk: function 100 -/
def spec_LineOk.l0 : Nat → ByteArray → Int → Option (Bool)
  | 0, _, _ => none
  | k + 1, x0, x3 => if x3 < (x0.size : Int) then (if 0 ≤ x3 then (if (bt x0 x3) = 10 then (some false) else (spec_LineOk.l0 k x0 (wrap64 (x3 + 1)))) else (none)) else (some (decide ((x0.size : Int) ≤ 60)))
def spec_LineOk.f (k : Nat) (a0 : ByteArray) : Option (Bool) := spec_LineOk.l0 k a0 0
theorem spec_LineOk.mono_l : ∀ k, (∀ y0 y1, LeO (spec_LineOk.l0 k y0 y1) (spec_LineOk.l0 (k + 1) y0 y1))
  | 0 => by intros; exact LeO.none _
  | k + 1 => by
    have ih0 := spec_LineOk.mono_l k; intros ; unfold spec_LineOk.l0 ; repeat' with_reducible first | exact LeO.refl _ | exact LeO.none _ | refine LeO.ite ?_ ?_ | refine LeO.bind ?_ (fun _ => ?_) | apply ih0
theorem spec_LineOk.mono : ∀ a0 k, LeO (spec_LineOk.f k a0) (spec_LineOk.f (k + 1) a0) := by
  intro a0 k; have ih0 := spec_LineOk.mono_l k; unfold spec_LineOk.f
  repeat' with_reducible first | exact LeO.refl _ | exact LeO.none _ | refine LeO.ite ?_ ?_ | refine LeO.bind ?_ (fun _ => ?_) | apply ih0
set_option maxHeartbeats 8000000 in
set_option maxRecDepth 100000 in
theorem spec_LineOk.calls (k : Nat) (a0 : ByteArray) (r : Bool) (w : World) (h : spec_LineOk.f k a0 = some r) :
    Calls Try.prog 100 #[.string a0] w fun e w' => e = .returned (.bool r) ∧ Drawn0 w w' := by
  have H := h; unfold spec_LineOk.f at H; clear h; have H' := Aside0.mk H; clear H; go_enter Try.func100, Try.ntmps100; go_wp2; go_loopg [3] k (fun kq v3 w' => ∃ (x3_1 : Int), v3 = .int .i64 x3_1 ∧ Aside0 (spec_LineOk.l0 kq a0 x3_1 = some r) ∧ Aside0 (kq ≤ k) ∧ Drawn0 w w')
  case atStart => exact ⟨(0), q3_, H', ⟨Nat.le_refl _⟩, by repeat (first | exact Drawn0.refl _ | apply Drawn0.step)⟩
  case round =>
    clear H'; obtain ⟨x3_1, rfl, HA, HK1, ⟨m1, rfl⟩⟩ := hrel
    cases gk with
    | zero => exact absurd HA.out (by simp [spec_LineOk.l0])
    | succ k1 =>
     have H := HA.out; clear HA; simp only [spec_LineOk.l0] at H; by_cases c2 : x3_1 < (a0.size : Int)
     ·rw [if_pos c2] at H; have c2b0 := decide_eq_true c2; clear c2; obtain ⟨c3b0, H⟩ := ifd_ H; by_cases c5 : (bt a0 x3_1) = 10
      ·rw [if_pos c5] at H; have c5b0 : ((bt a0 x3_1) == 10) = true := beq_iff_eq.mpr c5; have c5b1 : ((bt a0 x3_1) != 10) = false := bne_eq_false_iff_eq.mpr c5; clear c5; obtain rfl := Option.some.inj H; have p4 : 0 ≤ (x3_1 : Int) := of_decide_eq_true q0_; have q4 : x3_1 < (a0.size : Int) := of_decide_eq_true q0_; have hx4 := bt_at a0 x3_1; replace p4 := eq_true p4; replace q4 := eq_true q4; go_wp2; go_ret; exact ⟨by first | rfl | (simp; done) | (simp [*]; done), by repeat (first | exact Drawn0.refl _ | apply Drawn0.step)⟩
      ·rw [if_neg c5] at H; have c5b0 : ((bt a0 x3_1) == 10) = false := beq_eq_false_iff_ne.mpr c5; have c5b1 : ((bt a0 x3_1) != 10) = true := bne_iff_ne.mpr c5; have H' := Aside0.mk H; clear H; have p4 : 0 ≤ (x3_1 : Int) := of_decide_eq_true q0_; have q4 : x3_1 < (a0.size : Int) := of_decide_eq_true q0_; have hx4 := bt_at a0 x3_1; replace p4 := eq_true p4; replace q4 := eq_true q4; go_wp2; go_roundg k1
       case measure => have := HK1.out; omega
       case rel => exact ⟨(wrap64 (x3_1 + 1)), q3_, H', ⟨by have := HK1.out; omega⟩, by repeat (first | exact Drawn0.refl _ | apply Drawn0.step)⟩
     ·rw [if_neg c2] at H; have c2b0 := decide_eq_false c2; clear c2; obtain rfl := Option.some.inj H; go_wp2; go_ret; exact ⟨by first | rfl | (simp; done) | (simp [*]; done), by repeat (first | exact Drawn0.refl _ | apply Drawn0.step)⟩

end Go.Proofs.Ytmodgiingohphaa.PFnExactAddVersion
