-- Made by a program (the kit's print with additions of this session: wip/tools/patch_print.py, ext.py).
-- (turned)
import Derived.Test.YtmodgiingohphaaPFnTopx9
namespace Go.Proofs.Ytmodgiingohphaa.PFnTop
open Go.RowKit Go.Proofs.YtmodgiingohphaaW.PrintWords Go.Proofs.YtmodgiingohphaaW.PrintLast Go.Proofs.YtmodgiingohphaaW.PrintMore
attribute [local go_sem] max2_int min2_int max_two min_two max_three min_three max_four min_four   -- for this text's walks alone
set_option linter.unusedVariables false
set_option linter.unusedSimpArgs false

/-! ### spec_LinesOk: function 93 -/
def spec_LinesOk.f (k : Nat) (l0 : List ByteArray) : Option (Bool) := (spec_l03All.f k l0 80).bind fun t217 => (some t217)
theorem spec_LinesOk.mono : ∀ a0 k, LeO (spec_LinesOk.f k a0) (spec_LinesOk.f (k + 1) a0) := by
  intro a0 k; unfold spec_LinesOk.f
  repeat' with_reducible first | exact LeO.refl _ | exact LeO.none _ | refine LeO.ite ?_ ?_ | refine LeO.bind ?_ (fun _ => ?_) | apply spec_l03All.mono
set_option maxHeartbeats 8000000 in
set_option maxRecDepth 100000 in
theorem spec_LinesOk.calls (k : Nat) (A0 : Option Addr) (c0 : Nat) (l0 : List ByteArray) (r : Bool) (w : World) (hr0 : Kd.C Kd.string w A0 l0.length l0) (hc0 : l0.length ≤ c0) (h : spec_LinesOk.f k l0 = some r) :
    Calls Try.prog 93 #[.slice A0 l0.length c0] w fun e w' => e = .returned (.bool r) ∧ Drawn0 w w' := by
  have HR0 := Aside0.mk hr0; have HC0 := Aside0.mk hc0; clear hr0 hc0; have H := h; unfold spec_LinesOk.f at H; clear h; replace H := Option.bind_eq_some_iff.mp H; obtain ⟨t217, A20, H⟩ := H; (try dsimp only at H); have A2 := Aside0.mk A20; clear A20; obtain rfl := Option.some.inj H; go_enter Try.func93, Try.ntmps93; go_wp2_with (first | ((with_reducible refine gate_callee (f := 129) rfl ?_); refine gl_ 4 Try.func129 #[.slice A0 l0.length c0, .int .i64 80] ?_; (with_reducible refine (spec_l03All.calls k _ _ l0 80 t217 _ ?side1 ?side2 A2.out).mono ?_); (case side1 => exact q43_); (case side2 => exact HC0.out); rintro e w' ⟨rfl, ⟨nd, rfl⟩⟩; refine ⟨_, rfl, ?_⟩)); go_ret; exact ⟨by first | rfl | (simp; done) | (simp [*]; done), by repeat (first | exact Drawn0.refl _ | apply Drawn0.step)⟩

/-! ### spec_l01In: function 101 -/
def spec_l01In.f (a0 : Int) (a1 : Int) (a2 : Int) : Option (Bool) := if a0 ≥ a1 then (some (decide (a0 ≤ a2))) else (some false)
set_option maxHeartbeats 8000000 in
set_option maxRecDepth 100000 in
theorem spec_l01In.calls (a0 : Int) (a1 : Int) (a2 : Int) (r : Bool) (w : World) (h : spec_l01In.f a0 a1 a2 = some r) :
    Calls Try.prog 101 #[.int .i64 a0, .int .i64 a1, .int .i64 a2] w fun e w' => e = .returned (.bool r) ∧ Drawn0 w w' := by
  have H := h; unfold spec_l01In.f at H; clear h; by_cases c4 : a0 ≥ a1
  · rw [if_pos c4] at H; have c4b0 := decide_eq_true c4; clear c4; obtain rfl := Option.some.inj H; go_enter Try.func101, Try.ntmps101; go_wp2; go_ret; exact ⟨by first | rfl | (simp; done) | (simp [*]; done), by repeat (first | exact Drawn0.refl _ | apply Drawn0.step)⟩
  · rw [if_neg c4] at H; have c4b0 := decide_eq_false c4; clear c4; obtain rfl := Option.some.inj H; go_enter Try.func101, Try.ntmps101; go_wp2; go_ret; exact ⟨by first | rfl | (simp; done) | (simp [*]; done), by repeat (first | exact Drawn0.refl _ | apply Drawn0.step)⟩

/-! ### spec_l05Set: function 99 -/
mutual
def spec_l05Set.l0 : Nat → List (List Int) → List Int → List Bool → Int → Option (List Bool)
  | 0, _, _, _, _ => none
  | k + 1, x0, x1, x5, x6 => if x6 < (x1.length : Int) then (if 0 ≤ x6 then ((spec_l01In.f (rd x1 x6) 0 (wrap64 ((x0.length : Int) - 1))).bind fun t222 => (if t222 = true then (if 0 ≤ (rd x1 x6) then (if (rd x1 x6) < (x5.length : Int) then (spec_l05Set.l0 k x0 x1 (x5.set ((rd x1 x6) : Int).toNat true) (wrap64 (x6 + 1))) else (none)) else (none)) else (spec_l05Set.l0 k x0 x1 x5 (wrap64 (x6 + 1))))) else (none)) else (spec_l05Set.l1 k x0 x5 (wrap64 ((x0.length : Int) - 1)))
def spec_l05Set.l1 : Nat → List (List Int) → List Bool → Int → Option (List Bool)
  | 0, _, _, _ => none
  | k + 1, x0, x5, x7 => if x7 ≥ 0 then (spec_l05Set.l2 k x0 x5 x7 0) else (some x5)
def spec_l05Set.l2 : Nat → List (List Int) → List Bool → Int → Int → Option (List Bool)
  | 0, _, _, _, _ => none
  | k + 1, x0, x5, x7, x8 => if 0 ≤ x7 then (if x7 < (x0.length : Int) then (if x8 < ((rd_L2 x0 x7).length : Int) then (if x7 < (x5.length : Int) then (if rdOf false x5 x7 = true then (if 0 ≤ x8 then (if 0 ≤ (rd (rd_L2 x0 x7) x8) then (if (rd (rd_L2 x0 x7) x8) < (x5.length : Int) then (spec_l05Set.l2 k x0 (x5.set ((rd (rd_L2 x0 x7) x8) : Int).toNat true) x7 (wrap64 (x8 + 1))) else (none)) else (none)) else (none)) else (spec_l05Set.l1 k x0 x5 (wrap64 (x7 - 1)))) else (none)) else (spec_l05Set.l1 k x0 x5 (wrap64 (x7 - 1)))) else (none)) else (none)
end
def spec_l05Set.f (k : Nat) (l0 : List (List Int)) (l1 : List Int) : Option (List Bool) := if 0 ≤ (l0.length : Int) then (if ((l0.length : Int) : Int).toNat ≤ 281474976710656 then (spec_l05Set.l0 k l0 l1 (List.replicate ((l0.length : Int) : Int).toNat false) 0) else (none)) else (none)
theorem spec_l05Set.mono_l : ∀ k, (∀ y0 y1 y2 y3, LeO (spec_l05Set.l0 k y0 y1 y2 y3) (spec_l05Set.l0 (k + 1) y0 y1 y2 y3)) ∧ (∀ y0 y1 y2, LeO (spec_l05Set.l1 k y0 y1 y2) (spec_l05Set.l1 (k + 1) y0 y1 y2)) ∧ (∀ y0 y1 y2 y3, LeO (spec_l05Set.l2 k y0 y1 y2 y3) (spec_l05Set.l2 (k + 1) y0 y1 y2 y3))
  | 0 => by refine ⟨?_, ?_, ?_⟩ <;> intros <;> exact LeO.none _
  | k + 1 => by
    obtain ⟨ih0, ih1, ih2⟩ := spec_l05Set.mono_l k; refine ⟨?_, ?_, ?_⟩ <;> intros <;> (first | unfold spec_l05Set.l0 | unfold spec_l05Set.l1 | unfold spec_l05Set.l2) <;> repeat' with_reducible first | exact LeO.refl _ | exact LeO.none _ | refine LeO.ite ?_ ?_ | refine LeO.bind ?_ (fun _ => ?_) | apply ih0 | apply ih1 | apply ih2
theorem spec_l05Set.mono : ∀ a0 a1 k, LeO (spec_l05Set.f k a0 a1) (spec_l05Set.f (k + 1) a0 a1) := by
  intro a0 a1 k; obtain ⟨ih0, ih1, ih2⟩ := spec_l05Set.mono_l k; unfold spec_l05Set.f
  repeat' with_reducible first | exact LeO.refl _ | exact LeO.none _ | refine LeO.ite ?_ ?_ | refine LeO.bind ?_ (fun _ => ?_) | apply ih0 | apply ih1 | apply ih2
set_option maxHeartbeats 8000000 in
set_option maxRecDepth 100000 in
theorem spec_l05Set.calls (k : Nat) (A0 : Option Addr) (c0 : Nat) (l0 : List (List Int)) (A1 : Option Addr) (c1 : Nat) (l1 : List Int) (r : List Bool) (w : World) (hr0 : Kd.C (Kd.slice 3 (Kd.int .i64)) w A0 l0.length l0) (hc0 : l0.length ≤ c0) (hr1 : Kd.C (Kd.int .i64) w A1 l1.length l1) (hc1 : l1.length ≤ c1) (h : spec_l05Set.f k l0 l1 = some r) :
    Calls Try.prog 99 #[.slice A0 l0.length c0, .slice A1 l1.length c1] w fun e w' => ∃ v0_ : Value, e = .returned (v0_) ∧ Kd.R Kd.bool 4 w' w.heap.size (fun _ => True) v0_ r ∧ Below w.heap.size w w' := by
  have HR0 := Aside0.mk hr0; have HC0 := Aside0.mk hc0; clear hr0 hc0; have HR1 := Aside0.mk hr1; have HC1 := Aside0.mk hc1; clear hr1 hc1; have HB := Aside0.mk (Below.refl w.heap.size w); have H := h; unfold spec_l05Set.f at H; clear h; obtain ⟨c3b0, c3b1, H⟩ := ife_ H; obtain ⟨c4b0, c4b1, H⟩ := ife_ H; obtain ⟨y218, hy_⟩ : ∃ y_ : List Bool, y_ = (List.replicate ((l0.length : Int) : Int).toNat false) := ⟨_, rfl⟩; rw [← hy_] at H; have Ny218 := Aside0.mk hy_; clear hy_; have H' := Aside0.mk H; clear H; go_enter Try.func99, Try.ntmps99; go_wp2_with (first | ((with_reducible refine gate_dst (N := 11) rfl ?_); refine Kd.R_make Kd.bool _ 4 rfl (N := 11) rfl 127 _ _ rfl (l0.length : Int) rfl rfl Try.underlying127 (.bool false) 1 info4 rfl (by decide) (by omega) false (ok := fun _ => True) (okp := fun _ => True) rfl (fun _ hk => hk) trivial (of_decide_eq_true q0_) (Nat.le_trans (Nat.mul_le_mul_right _ (of_decide_eq_true q0_ : (l0.length : Int).toNat ≤ 281474976710656)) (by omega)) (Below.refl _ _) (Nat.le_refl _) ?_; intro v219 w5 ho6 hb hg_ hnew_; clear hg_ hnew_; (first | rw [← Ny218.out] at ho6 | (simp only [Int.reduceToNat] at ho6; rw [← Ny218.out] at ho6)); refine ai2_ (Kd.R_lower ho6 (below_size q1_)) (below_step q1_ hb) ?_; clear HB; intro HO220 HB; clear hb ho6)); go_loopg [6] k (fun kq v6 w' => ∃ (x5_1 : List Bool) (x6_1 : Int), v6 = .int .i64 x6_1 ∧ Aside0 (spec_l05Set.l0 kq l0 l1 x5_1 x6_1 = some r) ∧ Aside0 (kq ≤ k) ∧ Aside0 (Kd.R Kd.bool 4 w' w.heap.size (fun _ => True) v219 x5_1) ∧ Aside0 (Below w.heap.size w w'))
  case atStart => exact ⟨(y218), (0), q4_, H', ⟨Nat.le_refl _⟩, z_ HO220, ⟨zb_⟩⟩
  case round =>
    clear H'; obtain ⟨x5_1, x6_1, rfl, HA, HK1, HO_5, HB⟩ := hrel
    cases gk with
    | zero => exact absurd HA.out (by simp [spec_l05Set.l0])
    | succ k1 =>
     have H := HA.out; clear HA; simp only [spec_l05Set.l0] at H; by_cases c7 : x6_1 < (l1.length : Int)
     ·rw [if_pos c7] at H; have c7b0 := decide_eq_true c7; clear c7; obtain ⟨c8b0, H⟩ := ifd_ H; replace H := Option.bind_eq_some_iff.mp H; obtain ⟨t222, A90, H⟩ := H; (try dsimp only at H); have A9 := Aside0.mk A90; clear A90; by_cases c10 : t222 = true
      ·subst c10; rw [if_pos rfl] at H; obtain ⟨c11b0, H⟩ := ifd_ H; obtain ⟨c12b0, H⟩ := ifd_ H; obtain ⟨y224, hy_⟩ : ∃ y_ : List Bool, y_ = (x5_1.set ((rd l1 x6_1) : Int).toNat true) := ⟨_, rfl⟩; rw [← hy_] at H; have Ny224 := Aside0.mk hy_; clear hy_; have H' := Aside0.mk H; clear H; obtain ⟨p221, q221, ad221, e221, hx221_0⟩ := pq_ (Kd.at_int HR1.out x6_1); cases e221; replace hx221_0 := bx_ HB hx221_0; go_wp2_with (first | ((with_reducible refine gate_callee (f := 101) rfl ?_); refine gl_ 25 Try.func101 #[.int .i64 (rd l1 x6_1), .int .i64 0, .int .i64 (wrap64 ((l0.length : Int) - 1))] ?_; (with_reducible refine (spec_l01In.calls (rd l1 x6_1) 0 (wrap64 ((l0.length : Int) - 1)) true _ A9.out).mono ?_); rintro e w' ⟨rfl, ⟨nd, rfl⟩⟩; refine ⟨_, rfl, ?_⟩; (try (rw [drewN_self wr]; generalize hq_ : World.drewN wr _ = wr; (try (replace hx221_0 := cell_at hq_ hx221_0)); have n0_ : Aside0 (Kd.R Kd.bool 4 wr w.heap.size (fun _ => True) v219 x5_1) := ⟨by rw [← hq_]; exact q9_⟩; have n1_ : Aside0 (Below w.heap.size w wr) := ⟨by rw [← hq_]; exact q1_⟩; clear HO_5 HB hq_; have HO_5 := n0_; have HB := n1_; clear n0_ n1_)); obtain ⟨p223, q223, ad223, e223, hx223_0⟩ := pq_ (Kd.at_int HR1.out x6_1); obtain rfl : ad221 = ad223 := (by injection e223); replace hx223_0 := bx_ HB hx223_0; have p13 : 0 ≤ ((rd l1 x6_1) : Int) := of_decide_eq_true q0_; have q13 : ((rd l1 x6_1) : Int) < ((x5_1.length : Int) : Int) := of_decide_eq_true q0_; obtain ⟨go13, co13, eo13, gb13, gl13, cl13, HG13⟩ := Kd.R_form HO_5.out (by omega); (first | cases eo13 | (injection eo13 with ea_ en_ ec_; (first | subst ea_ | (injection ea_ with ea_; subst ea_)); subst ec_; clear en_)); have GB13 := Aside0.mk gb13; have GG13 := Aside0.mk HG13; clear gb13 gl13 HG13; obtain ⟨hx13_0, hf13_0⟩ := Kd.R_celln false HO_5.out ((rd l1 x6_1) : Int) p13 q13; replace p13 := eq_true p13; replace q13 := eq_true q13; obtain ⟨hy14_, hz14_⟩ := Kd.R_celln false HO_5.out ((rd l1 x6_1) : Int) (of_decide_eq_true q0_) (of_decide_eq_true q0_); have HP14 := Kd.R_putg HO_5.out ((rd l1 x6_1) : Int) true) | ((with_reducible refine gate_store (t := 4) (p := 31) rfl ?_); refine store_event (t := 4) (p := 31) (v := ?vo_w15) (w1 := (wr.setCell ⟨go13, ((rd l1 x6_1) : Int).toNat, none⟩ (.bool true))) ?hg ?ho ?hn ?hr ?_; (case ho => rfl); (case hg => rfl); (case hn => rfl); (case hr => first | (go_simp; done) | (go_simp; rfl)); intro w15 hw; have hg : wr.grownBy w15 (some go13) := (by rw [hw]; exact HP14.2); have hp_ : Kd.R Kd.bool 4 w15 w.heap.size (fun _ => True) (.slice (some ⟨go13, 0, none⟩) x5_1.length co13) y224 := (by rw [hw, Ny224.out]; exact HP14.1); clear HP14; refine ai2_ (hp_) ((by rw [hw]; exact below_set (HB.out) GB13.out : Below w.heap.size w w15)) ?_; clear HO_5 HB; intro HO_5 HB; clear hg hw hp_)); go_roundg k1
       case measure => have := HK1.out; omega
       case rel => exact ⟨(y224), (wrap64 (x6_1 + 1)), q4_, H', ⟨by have := HK1.out; omega⟩, z_ HO_5, ⟨zb_⟩⟩
      ·replace c10 := Bool.eq_false_iff.mpr c10; subst c10; rw [if_neg nf_] at H; have H' := Aside0.mk H; clear H; obtain ⟨p221, q221, ad221, e221, hx221_0⟩ := pq_ (Kd.at_int HR1.out x6_1); cases e221; replace hx221_0 := bx_ HB hx221_0; go_wp2_with (first | ((with_reducible refine gate_callee (f := 101) rfl ?_); refine gl_ 25 Try.func101 #[.int .i64 (rd l1 x6_1), .int .i64 0, .int .i64 (wrap64 ((l0.length : Int) - 1))] ?_; (with_reducible refine (spec_l01In.calls (rd l1 x6_1) 0 (wrap64 ((l0.length : Int) - 1)) false _ A9.out).mono ?_); rintro e w' ⟨rfl, ⟨nd, rfl⟩⟩; refine ⟨_, rfl, ?_⟩)); go_roundg k1
       case measure => have := HK1.out; omega
       case rel => exact ⟨(x5_1), (wrap64 (x6_1 + 1)), q4_, H', ⟨by have := HK1.out; omega⟩, z_ HO_5, ⟨zb_⟩⟩
     ·rw [if_neg c7] at H; have c7b0 := decide_eq_false c7; clear c7; have H' := Aside0.mk H; clear H; go_wp2; go_loopg [7] k1 (fun kq v7 w' => ∃ (x5_2 : List Bool) (x7_2 : Int), v7 = .int .i64 x7_2 ∧ Aside0 (spec_l05Set.l1 kq l0 x5_2 x7_2 = some r) ∧ Aside0 (kq ≤ k1) ∧ Aside0 (Kd.R Kd.bool 4 w' w.heap.size (fun _ => True) v219 x5_2) ∧ Aside0 (Below w.heap.size w w'))
      case atStart => exact ⟨(x5_1), (wrap64 ((l0.length : Int) - 1)), q4_, H', ⟨Nat.le_refl _⟩, z_ HO_5, ⟨zb_⟩⟩
      case round =>
       clear H'; obtain ⟨x5_2, x7_2, rfl, HA, HK2, HO_5, HB⟩ := hrel
       cases gk with
       | zero => exact absurd HA.out (by simp [spec_l05Set.l1])
       | succ k2 =>
        have H := HA.out; clear HA; simp only [spec_l05Set.l1] at H; by_cases c16 : x7_2 ≥ 0
        ·rw [if_pos c16] at H; have c16b0 := decide_eq_true c16; clear c16; have H' := Aside0.mk H; clear H; go_wp2; go_loopg [8] k2 (fun kq v8 w' => ∃ (x5_3 : List Bool) (x8_3 : Int), v8 = .int .i64 x8_3 ∧ Aside0 (spec_l05Set.l2 kq l0 x5_3 x7_2 x8_3 = some r) ∧ Aside0 (kq ≤ k2) ∧ Aside0 (Kd.R Kd.bool 4 w' w.heap.size (fun _ => True) v219 x5_3) ∧ Aside0 (Below w.heap.size w w'))
         case atStart => exact ⟨(x5_2), (0), q4_, H', ⟨Nat.le_refl _⟩, z_ HO_5, ⟨zb_⟩⟩
         case round =>
          clear H'; obtain ⟨x5_3, x8_3, rfl, HA, HK3, HO_5, HB⟩ := hrel
          cases gk with
          | zero => exact absurd HA.out (by simp [spec_l05Set.l2])
          | succ k3 =>
           have H := HA.out; clear HA; simp only [spec_l05Set.l2] at H; obtain ⟨c17b0, H⟩ := ifd_ H; obtain ⟨c18b0, H⟩ := ifd_ H; by_cases c19 : x8_3 < ((rd_L2 l0 x7_2).length : Int)
           ·rw [if_pos c19] at H; have c19b0 := decide_eq_true c19; clear c19; obtain ⟨c20b0, H⟩ := ifd_ H; obtain ⟨bq21, hbq21⟩ : ∃ b_ : Bool, b_ = (rdOf false x5_3 x7_2) := ⟨_, rfl⟩; rw [← hbq21] at H; have Nbq21 := Aside0.mk hbq21; clear hbq21; by_cases c22 : bq21 = true
            ·subst c22; rw [if_pos rfl] at H; obtain ⟨c23b0, H⟩ := ifd_ H; obtain ⟨c24b0, H⟩ := ifd_ H; obtain ⟨c25b0, H⟩ := ifd_ H; obtain ⟨y229, hy_⟩ : ∃ y_ : List Bool, y_ = (x5_3.set ((rd (rd_L2 l0 x7_2) x8_3) : Int).toNat true) := ⟨_, rfl⟩; rw [← hy_] at H; have Ny229 := Aside0.mk hy_; clear hy_; have H' := Aside0.mk H; clear H; obtain ⟨p225, q225, ad225, A225_0, c225_0, e225, hx225_0, hl225_0, hi225_0⟩ := pq_ (at_L2 HR0.out x7_2); cases e225; replace hx225_0 := bx_ HB hx225_0; have HR225_0 := Aside0.mk hi225_0; have HC225_0 := Aside0.mk hl225_0; clear hi225_0 hl225_0; obtain ⟨Ao27, co27, eo27⟩ := Kd.R_slice HO_5.out; subst eo27; obtain ⟨p226, q226, ad226, e226, hx226_0⟩ := pq_ (Kd.at_bool (Kd.R_reads' HO_5.out).2.2 x7_2); (try rw [← Nbq21.out] at hx226_0); cases e226; obtain ⟨p227, q227, ad227, A227_0, c227_0, e227, hx227_0, hl227_0, hi227_0⟩ := pq_ (at_L2 HR0.out x7_2); obtain rfl : ad225 = ad227 := (by injection e227); replace hx227_0 := bx_ HB hx227_0; have HR227_0 := Aside0.mk hi227_0; have HC227_0 := Aside0.mk hl227_0; clear hi227_0 hl227_0; have ea_ := Option.some.inj (hx225_0.symm.trans hx227_0); injection ea_ with ea_ en_ ec_
             subst ea_; subst ec_; clear en_; obtain ⟨p228, q228, ad228, e228, hx228_0⟩ := pq_ (Kd.at_int HR227_0.out x8_3); cases e228; replace hx228_0 := bx_ HB hx228_0; have p26 : 0 ≤ ((rd (rd_L2 l0 x7_2) x8_3) : Int) := of_decide_eq_true q0_; have q26 : ((rd (rd_L2 l0 x7_2) x8_3) : Int) < ((x5_3.length : Int) : Int) := of_decide_eq_true q0_; obtain ⟨go26, co26, eo26, gb26, gl26, cl26, HG26⟩ := Kd.R_form HO_5.out (by omega); (first | cases eo26 | (injection eo26 with ea_ en_ ec_; (first | subst ea_ | (injection ea_ with ea_; subst ea_)); subst ec_; clear en_)); have GB26 := Aside0.mk gb26; have GG26 := Aside0.mk HG26; clear gb26 gl26 HG26; (first | simp only [add_plain] at hx226_0 | skip); obtain ⟨hx26_0, hf26_0⟩ := Kd.R_celln false HO_5.out ((rd (rd_L2 l0 x7_2) x8_3) : Int) p26 q26; replace p26 := eq_true p26; replace q26 := eq_true q26; have HP28 := Kd.R_putg HO_5.out ((rd (rd_L2 l0 x7_2) x8_3) : Int) true; go_wp2_with (first | ((with_reducible refine gate_store (t := 4) (p := 62) rfl ?_); refine store_event (t := 4) (p := 62) (v := ?vo_w29) (w1 := (wr.setCell ⟨go26, ((rd (rd_L2 l0 x7_2) x8_3) : Int).toNat, none⟩ (.bool true))) ?hg ?ho ?hn ?hr ?_; (case ho => rfl); (case hg => rfl); (case hn => rfl); (case hr => first | (go_simp; done) | (go_simp; rfl)); intro w29 hw; have hg : wr.grownBy w29 (some go26) := (by rw [hw]; exact HP28.2); have hp_ : Kd.R Kd.bool 4 w29 w.heap.size (fun _ => True) (.slice (some ⟨go26, 0, none⟩) x5_3.length co27) y229 := (by rw [hw, Ny229.out]; exact HP28.1); clear HP28; refine ai2_ (hp_) ((by rw [hw]; exact below_set (HB.out) GB26.out : Below w.heap.size w w29)) ?_; clear HO_5 HB; intro HO_5 HB; clear hg hw hp_)); go_roundg k3
             case measure => have := HK1.out; have := HK2.out; have := HK3.out; omega
             case rel => exact ⟨(y229), (wrap64 (x8_3 + 1)), q4_, H', ⟨by have := HK1.out; have := HK2.out; have := HK3.out; omega⟩, z_ HO_5, ⟨zb_⟩⟩
            ·replace c22 := Bool.eq_false_iff.mpr c22; subst c22; rw [if_neg nf_] at H; have H' := Aside0.mk H; clear H; obtain ⟨p225, q225, ad225, A225_0, c225_0, e225, hx225_0, hl225_0, hi225_0⟩ := pq_ (at_L2 HR0.out x7_2); cases e225; replace hx225_0 := bx_ HB hx225_0; have HR225_0 := Aside0.mk hi225_0; have HC225_0 := Aside0.mk hl225_0; clear hi225_0 hl225_0; obtain ⟨Ao30, co30, eo30⟩ := Kd.R_slice HO_5.out; subst eo30; obtain ⟨p226, q226, ad226, e226, hx226_0⟩ := pq_ (Kd.at_bool (Kd.R_reads' HO_5.out).2.2 x7_2); (try rw [← Nbq21.out] at hx226_0); cases e226; go_wp2; go_roundg k3
             case measure => have := HK1.out; have := HK2.out; have := HK3.out; omega
             case rel => exact ⟨(x5_3), (wrap64 (x7_2 - 1)), q4_, H', ⟨by have := HK1.out; have := HK2.out; have := HK3.out; omega⟩, z_ HO_5, ⟨zb_⟩⟩
           ·rw [if_neg c19] at H; have c19b0 := decide_eq_false c19; clear c19; have H' := Aside0.mk H; clear H; obtain ⟨p225, q225, ad225, A225_0, c225_0, e225, hx225_0, hl225_0, hi225_0⟩ := pq_ (at_L2 HR0.out x7_2); cases e225; replace hx225_0 := bx_ HB hx225_0; have HR225_0 := Aside0.mk hi225_0; have HC225_0 := Aside0.mk hl225_0; clear hi225_0 hl225_0; go_wp2; go_roundg k3
            case measure => have := HK1.out; have := HK2.out; have := HK3.out; omega
            case rel => exact ⟨(x5_3), (wrap64 (x7_2 - 1)), q4_, H', ⟨by have := HK1.out; have := HK2.out; have := HK3.out; omega⟩, z_ HO_5, ⟨zb_⟩⟩
        ·rw [if_neg c16] at H; have c16b0 := decide_eq_false c16; clear c16; obtain rfl := Option.some.inj H; go_wp2; go_ret; exact ⟨_, er_, zp_ HO_5, zb_⟩
end Go.Proofs.Ytmodgiingohphaa.PFnTop
