-- Made by a program (the kit's print with additions of this session: wip/tools/patch_print.py, ext.py).
-- (turned)
import Derived.Test.YtmodgiingohphaaPFnTopx0
namespace Go.Proofs.Ytmodgiingohphaa.PFnTop
open Go.RowKit Go.Proofs.YtmodgiingohphaaW.PrintWords Go.Proofs.YtmodgiingohphaaW.PrintLast Go.Proofs.YtmodgiingohphaaW.PrintMore
attribute [local go_sem] max2_int min2_int max_two min_two max_three min_three max_four min_four   -- for this text's walks alone
set_option linter.unusedVariables false
set_option linter.unusedSimpArgs false

/-! ### impl_unionOf: function 83 -/
def impl_unionOf.l0 : Nat → List Int → Int → List Int → Int → Int → Option (Int)
  | 0, _, _, _, _, _ => none
  | k + 1, x0, x5, x8, x9, x10 => if x10 < x9 then (if 0 ≤ x10 then (if x10 < (x8.length : Int) then (if 0 ≤ (rd x8 x10) then (if (rd x8 x10) < (x0.length : Int) then (impl_unionOf.l0 k x0 (Go.bits .or .u64 x5 (rd x0 (rd x8 x10))) x8 x9 (wrap64 (x10 + 1))) else (none)) else (none)) else (none)) else (none)) else (some x5)
def impl_unionOf.f (k : Nat) (l0 : List Int) (l1 : List Int) : Option (Int) := impl_unionOf.l0 k l0 0 l1 (l1.length : Int) 0
theorem impl_unionOf.mono_l : ∀ k, (∀ y0 y1 y2 y3 y4, LeO (impl_unionOf.l0 k y0 y1 y2 y3 y4) (impl_unionOf.l0 (k + 1) y0 y1 y2 y3 y4))
  | 0 => by intros; exact LeO.none _
  | k + 1 => by
    have ih0 := impl_unionOf.mono_l k; intros ; unfold impl_unionOf.l0 ; repeat' with_reducible first | exact LeO.refl _ | exact LeO.none _ | refine LeO.ite ?_ ?_ | refine LeO.bind ?_ (fun _ => ?_) | apply ih0
theorem impl_unionOf.mono : ∀ a0 a1 k, LeO (impl_unionOf.f k a0 a1) (impl_unionOf.f (k + 1) a0 a1) := by
  intro a0 a1 k; have ih0 := impl_unionOf.mono_l k; unfold impl_unionOf.f
  repeat' with_reducible first | exact LeO.refl _ | exact LeO.none _ | refine LeO.ite ?_ ?_ | refine LeO.bind ?_ (fun _ => ?_) | apply ih0
set_option maxHeartbeats 8000000 in
set_option maxRecDepth 100000 in
theorem impl_unionOf.calls (k : Nat) (A0 : Option Addr) (c0 : Nat) (l0 : List Int) (A1 : Option Addr) (c1 : Nat) (l1 : List Int) (r : Int) (w : World) (hr0 : Kd.C (Kd.int .u64) w A0 l0.length l0) (hc0 : l0.length ≤ c0) (hr1 : Kd.C (Kd.int .i64) w A1 l1.length l1) (hc1 : l1.length ≤ c1) (h : impl_unionOf.f k l0 l1 = some r) :
    Calls Try.prog 83 #[.slice A0 l0.length c0, .slice A1 l1.length c1] w fun e w' => e = .returned (.int .u64 r) ∧ Drawn0 w w' := by
  have HR0 := Aside0.mk hr0; have HC0 := Aside0.mk hc0; clear hr0 hc0; have HR1 := Aside0.mk hr1; have HC1 := Aside0.mk hc1; clear hr1 hc1; have H := h; unfold impl_unionOf.f at H; clear h; have H' := Aside0.mk H; clear H; go_enter Try.func83, Try.ntmps83; go_wp2; go_loopg [5, 10] k (fun kq v5 v10 w' => ∃ (x5_1 : Int) (x10_1 : Int), v5 = .int .u64 x5_1 ∧ v10 = .int .i64 x10_1 ∧ Aside0 (impl_unionOf.l0 kq l0 x5_1 l1 (l1.length : Int) x10_1 = some r) ∧ Aside0 (kq ≤ k) ∧ Drawn0 w w')
  case atStart => exact ⟨(0), (0), q4_, q4_, H', ⟨Nat.le_refl _⟩, by repeat (first | exact Drawn0.refl _ | apply Drawn0.step)⟩
  case round =>
    clear H'; obtain ⟨x5_1, x10_1, rfl, rfl, HA, HK1, ⟨m1, rfl⟩⟩ := hrel
    cases gk with
    | zero => exact absurd HA.out (by simp [impl_unionOf.l0])
    | succ k1 =>
     have H := HA.out; clear HA; simp only [impl_unionOf.l0] at H; by_cases c3 : x10_1 < (l1.length : Int)
     ·rw [if_pos c3] at H; have c3b0 := decide_eq_true c3; clear c3; obtain ⟨c4b0, H⟩ := ifd_ H; obtain ⟨c5b0, H⟩ := ifd_ H; obtain ⟨c6b0, H⟩ := ifd_ H; obtain ⟨c7b0, H⟩ := ifd_ H; have H' := Aside0.mk H; clear H; obtain ⟨p101, q101, ad101, e101, hx101_0⟩ := pq_ (Kd.at_int HR1.out x10_1); cases e101; obtain ⟨p102, q102, ad102, e102, hx102_0⟩ := pq_ (Kd.at_int HR0.out (rd l1 x10_1)); cases e102; go_wp2; go_roundg k1
      case measure => have := HK1.out; omega
      case rel => exact ⟨(Go.bits .or .u64 x5_1 (rd l0 (rd l1 x10_1))), (wrap64 (x10_1 + 1)), q4_, q4_, H', ⟨by have := HK1.out; omega⟩, by repeat (first | exact Drawn0.refl _ | apply Drawn0.step)⟩
     ·rw [if_neg c3] at H; have c3b0 := decide_eq_false c3; clear c3; obtain rfl := Option.some.inj H; go_wp2; go_ret; exact ⟨by first | rfl | (simp; done) | (simp [*]; done), by repeat (first | exact Drawn0.refl _ | apply Drawn0.step)⟩

/-! ### impl_closures: function 84 -/
def impl_closures.l0 : Nat → List Int → List (List Int) → Int → Int → Option (List Int)
  | 0, _, _, _, _ => none
  | k + 1, x3, x9, x10, x11 => if x11 < x10 then (if 0 ≤ x11 then (if x11 < (x9.length : Int) then ((impl_unionOf.f k x3 (rd_L2 x9 x11)).bind fun t107 => (if 0 ≤ (IntKind.u64.wrap (x11)) then (if x11 < (x3.length : Int) then (impl_closures.l0 k (x3.set (x11 : Int).toNat (Go.bits .or .u64 t107 (shl .u64 1 (IntKind.u64.wrap (x11))))) x9 x10 (wrap64 (x11 + 1))) else (none)) else (none))) else (none)) else (none)) else (some x3)
def impl_closures.f (k : Nat) (l0 : List (List Int)) : Option (List Int) := if 0 ≤ (l0.length : Int) then (if ((l0.length : Int) : Int).toNat ≤ 35184372088832 then (impl_closures.l0 k (List.replicate ((l0.length : Int) : Int).toNat 0) l0 (l0.length : Int) 0) else (none)) else (none)
theorem impl_closures.mono_l : ∀ k, (∀ y0 y1 y2 y3, LeO (impl_closures.l0 k y0 y1 y2 y3) (impl_closures.l0 (k + 1) y0 y1 y2 y3))
  | 0 => by intros; exact LeO.none _
  | k + 1 => by
    have ih0 := impl_closures.mono_l k; intros ; unfold impl_closures.l0 ; repeat' with_reducible first | exact LeO.refl _ | exact LeO.none _ | refine LeO.ite ?_ ?_ | refine LeO.bind ?_ (fun _ => ?_) | apply ih0 | apply impl_unionOf.mono
theorem impl_closures.mono : ∀ a0 k, LeO (impl_closures.f k a0) (impl_closures.f (k + 1) a0) := by
  intro a0 k; have ih0 := impl_closures.mono_l k; unfold impl_closures.f
  repeat' with_reducible first | exact LeO.refl _ | exact LeO.none _ | refine LeO.ite ?_ ?_ | refine LeO.bind ?_ (fun _ => ?_) | apply ih0 | apply impl_unionOf.mono
set_option maxHeartbeats 8000000 in
set_option maxRecDepth 100000 in
theorem impl_closures.calls (k : Nat) (A0 : Option Addr) (c0 : Nat) (l0 : List (List Int)) (r : List Int) (w : World) (hr0 : Kd.C (Kd.slice 3 (Kd.int .i64)) w A0 l0.length l0) (hc0 : l0.length ≤ c0) (h : impl_closures.f k l0 = some r) :
    Calls Try.prog 84 #[.slice A0 l0.length c0] w fun e w' => ∃ v0_ : Value, e = .returned (v0_) ∧ Kd.R (Kd.int .u64) 109 w' w.heap.size (fun _ => True) v0_ r ∧ Below w.heap.size w w' := by
  have HR0 := Aside0.mk hr0; have HC0 := Aside0.mk hc0; clear hr0 hc0; have HB := Aside0.mk (Below.refl w.heap.size w); have H := h; unfold impl_closures.f at H; clear h; obtain ⟨c2b0, c2b1, H⟩ := ife_ H; obtain ⟨c3b0, c3b1, H⟩ := ife_ H; obtain ⟨y103, hy_⟩ : ∃ y_ : List Int, y_ = (List.replicate ((l0.length : Int) : Int).toNat 0) := ⟨_, rfl⟩; rw [← hy_] at H; have Ny103 := Aside0.mk hy_; clear hy_; have H' := Aside0.mk H; clear H; go_enter Try.func84, Try.ntmps84; go_wp2_with (first | ((with_reducible refine gate_dst (N := 8) rfl ?_); refine Kd.R_make (Kd.int .u64) _ 109 rfl (N := 8) rfl 111 _ _ rfl (l0.length : Int) rfl rfl Try.underlying111 (.int .u64 0) 8 info109 rfl (by decide) (by omega) 0 (ok := fun _ => True) (okp := fun _ => True) rfl (fun _ hk => hk) trivial (of_decide_eq_true q0_) (Nat.le_trans (Nat.mul_le_mul_right _ (of_decide_eq_true q0_ : (l0.length : Int).toNat ≤ 35184372088832)) (by omega)) (Below.refl _ _) (Nat.le_refl _) ?_; intro v104 w4 ho5 hb hg_ hnew_; clear hg_ hnew_; (first | rw [← Ny103.out] at ho5 | (simp only [Int.reduceToNat] at ho5; rw [← Ny103.out] at ho5)); refine ai2_ (Kd.R_lower ho5 (below_size q1_)) (below_step q1_ hb) ?_; clear HB; intro HO105 HB; clear hb ho5)); go_loopg [11] k (fun kq v11 w' => ∃ (x3_1 : List Int) (x11_1 : Int), v11 = .int .i64 x11_1 ∧ Aside0 (impl_closures.l0 kq x3_1 l0 (l0.length : Int) x11_1 = some r) ∧ Aside0 (kq ≤ k) ∧ Aside0 (Kd.R (Kd.int .u64) 109 w' w.heap.size (fun _ => True) v104 x3_1) ∧ Aside0 (Below w.heap.size w w'))
  case atStart => exact ⟨(y103), (0), q4_, H', ⟨Nat.le_refl _⟩, z_ HO105, ⟨zb_⟩⟩
  case round =>
    clear H'; obtain ⟨x3_1, x11_1, rfl, HA, HK1, HO_3, HB⟩ := hrel
    cases gk with
    | zero => exact absurd HA.out (by simp [impl_closures.l0])
    | succ k1 =>
     have H := HA.out; clear HA; simp only [impl_closures.l0] at H; by_cases c6 : x11_1 < (l0.length : Int)
     ·rw [if_pos c6] at H; have c6b0 := decide_eq_true c6; clear c6; obtain ⟨c7b0, H⟩ := ifd_ H; obtain ⟨c8b0, H⟩ := ifd_ H; replace H := Option.bind_eq_some_iff.mp H; obtain ⟨t107, A90, H⟩ := H; (try dsimp only at H); have A9 := Aside0.mk A90; clear A90; obtain ⟨ji10, hji10⟩ : ∃ j_ : Int, (IntKind.u64.wrap (x11_1)) = j_ := ⟨_, rfl⟩; (first | rw [hji10] at H | simp only [hji10] at H); (try rw [hji10] at A9); obtain ⟨c11b0, c11b1, H⟩ := ife_ H; obtain ⟨ji12, hji12⟩ : ∃ j_ : Int, (shl .u64 1 (ji10)) = j_ := ⟨_, rfl⟩; (first | rw [hji12] at H | simp only [hji12] at H); (try rw [hji12] at A9); have hji12_ : (IntKind.u64.wrap (1 * 2 ^ min (ji10).toNat 64)) = ji12 := hji12; have hji12z : (ji10) ≤ 64 → (IntKind.u64.wrap (1 * 2 ^ (ji10).toNat)) = ji12 := shl_small hji12; have hji12u : (IntKind.u64.wrap (2 ^ min (ji10).toNat 64)) = ji12 := (by have h_ := hji12_; rw [Int.one_mul] at h_; exact h_); have hji12v : (ji10) ≤ 64 → (IntKind.u64.wrap (2 ^ (ji10).toNat)) = ji12 := fun hle_ => by have h_ := hji12z hle_; rw [Int.one_mul] at h_; exact h_
      obtain ⟨c13b0, H⟩ := ifd_ H; obtain ⟨y108, hy_⟩ : ∃ y_ : List Int, y_ = (x3_1.set (x11_1 : Int).toNat (Go.bits .or .u64 t107 (ji12))) := ⟨_, rfl⟩; rw [← hy_] at H; have Ny108 := Aside0.mk hy_; clear hy_; have H' := Aside0.mk H; clear H; obtain ⟨p106, q106, ad106, A106_0, c106_0, e106, hx106_0, hl106_0, hi106_0⟩ := pq_ (at_L2 HR0.out x11_1); cases e106; replace hx106_0 := bx_ HB hx106_0; have HR106_0 := Aside0.mk hi106_0; have HC106_0 := Aside0.mk hl106_0; clear hi106_0 hl106_0; obtain ⟨Ao15, co15, eo15⟩ := Kd.R_slice HO_3.out; subst eo15; go_wp2_with (first | ((with_reducible refine gate_callee (f := 83) rfl ?_); refine gl_ 20 Try.func83 #[.slice Ao15 x3_1.length co15, .slice A106_0 (rd_L2 l0 x11_1).length c106_0] ?_; (with_reducible refine (impl_unionOf.calls k1 _ _ x3_1 _ _ (rd_L2 l0 x11_1) t107 _ ?side1 ?side2 ?side3 ?side4 A9.out).mono ?_); (case side1 => exact (by repeat (first | exact (Kd.R_reads' HO_3.out).2.2 | (with_reducible refine Kd.C_alloc ?_ _) | (with_reducible refine Kd.C_drewN ?_ _) | (with_reducible refine Kd.C_drew ?_)))); (case side2 => exact (Kd.R_reads' HO_3.out).2.1); (case side3 => exact cb_ HR106_0); (case side4 => exact HC106_0.out); rintro e w' ⟨rfl, ⟨nd, rfl⟩⟩; refine ⟨_, rfl, ?_⟩; (try (rw [drewN_self wr]; generalize hq_ : World.drewN wr _ = wr; (try (replace hx101_0 := cell_at hq_ hx101_0)); (try (replace hx102_0 := cell_at hq_ hx102_0)); (try (replace hx106_0 := cell_at hq_ hx106_0)); have n0_ : Aside0 (Kd.R (Kd.int .u64) 109 wr w.heap.size (fun _ => True) (.slice Ao15 x3_1.length co15) x3_1) := ⟨by rw [← hq_]; exact (zp_ HO_3)⟩; have n1_ : Aside0 (Below w.heap.size w wr) := ⟨by rw [← hq_]; exact q1_⟩; clear HO_3 HB hq_; have HO_3 := n0_; have HB := n1_; clear n0_ n1_)); have p14 : 0 ≤ (x11_1 : Int) := of_decide_eq_true q0_; have q14 : (x11_1 : Int) < ((x3_1.length : Int) : Int) := of_decide_eq_true q0_; obtain ⟨go14, co14, eo14, gb14, gl14, cl14, HG14⟩ := Kd.R_form HO_3.out (by omega); (first | cases eo14 | (injection eo14 with ea_ en_ ec_; (first | subst ea_ | (injection ea_ with ea_; subst ea_)); subst ec_; clear en_)); have GB14 := Aside0.mk gb14; have GG14 := Aside0.mk HG14; clear gb14 gl14 HG14; obtain ⟨hx14_0, hf14_0⟩ := Kd.R_celln 0 HO_3.out (x11_1 : Int) p14 q14; replace p14 := eq_true p14; replace q14 := eq_true q14; obtain ⟨hy16_, hz16_⟩ := Kd.R_celln 0 HO_3.out (x11_1 : Int) (of_decide_eq_true q0_) (of_decide_eq_true q0_); have HP16 := Kd.R_putg HO_3.out (x11_1 : Int) (Go.bits .or .u64 t107 (ji12))) | ((with_reducible refine gate_store (t := 109) (p := 25) rfl ?_); refine store_event (t := 109) (p := 25) (v := ?vo_w17) (w1 := (wr.setCell ⟨go14, (x11_1 : Int).toNat, none⟩ (.int .u64 (Go.bits .or .u64 t107 (ji12))))) ?hg ?ho ?hn ?hr ?_; (case ho => rfl); (case hg => rfl); (case hn => rfl); (case hr => first | (go_simp; done) | (go_simp; rfl)); intro w17 hw; have hg : wr.grownBy w17 (some go14) := (by rw [hw]; exact HP16.2); have hp_ : Kd.R (Kd.int .u64) 109 w17 w.heap.size (fun _ => True) (.slice (some ⟨go14, 0, none⟩) x3_1.length co15) y108 := (by rw [hw, Ny108.out]; exact HP16.1); clear HP16; refine ai2_ (hp_) ((by rw [hw]; exact below_set (HB.out) GB14.out : Below w.heap.size w w17)) ?_; clear HO_3 HB; intro HO_3 HB; clear hg hw hp_)); go_roundg k1
      case measure => have := HK1.out; omega
      case rel => exact ⟨(y108), (wrap64 (x11_1 + 1)), q4_, H', ⟨by have := HK1.out; omega⟩, z_ HO_3, ⟨zb_⟩⟩
     ·rw [if_neg c6] at H; have c6b0 := decide_eq_false c6; clear c6; obtain rfl := Option.some.inj H; go_wp2; go_ret; exact ⟨_, er_, zp_ HO_3, zb_⟩
/-! ### impl_inRange: function 133 -/
def impl_inRange.f (a0 : Int) (a1 : Int) (a2 : Int) : Option (Bool) := if a0 ≥ a1 then (some (decide (a0 ≤ a2))) else (some false)
set_option maxHeartbeats 8000000 in
set_option maxRecDepth 100000 in
theorem impl_inRange.calls (a0 : Int) (a1 : Int) (a2 : Int) (r : Bool) (w : World) (h : impl_inRange.f a0 a1 a2 = some r) :
    Calls Try.prog 133 #[.int .i64 a0, .int .i64 a1, .int .i64 a2] w fun e w' => e = .returned (.bool r) ∧ Drawn0 w w' := by
  have H := h; unfold impl_inRange.f at H; clear h; by_cases c4 : a0 ≥ a1
  · rw [if_pos c4] at H; have c4b0 := decide_eq_true c4; clear c4; obtain rfl := Option.some.inj H; go_enter Try.func133, Try.ntmps133; go_wp2; go_ret; exact ⟨by first | rfl | (simp; done) | (simp [*]; done), by repeat (first | exact Drawn0.refl _ | apply Drawn0.step)⟩
  · rw [if_neg c4] at H; have c4b0 := decide_eq_false c4; clear c4; obtain rfl := Option.some.inj H; go_enter Try.func133, Try.ntmps133; go_wp2; go_ret; exact ⟨by first | rfl | (simp; done) | (simp [*]; done), by repeat (first | exact Drawn0.refl _ | apply Drawn0.step)⟩

/-! ### impl_ascends: function 114 -/
def impl_ascends.l0 : Nat → List Int → Int → List Int → Int → Int → Option (Bool)
  | 0, _, _, _, _, _ => none
  | k + 1, x0, x1, x7, x8, x9 => if x9 < x8 then (if 0 ≤ x9 then (if x9 < (x7.length : Int) then ((impl_inRange.f (rd x7 x9) 0 (wrap64 (x1 - 1))).bind fun t110 => (if t110 = true then (if x9 > 0 then (if 0 ≤ (wrap64 (x9 - 1)) then (if (wrap64 (x9 - 1)) < (x0.length : Int) then (if (rd x7 x9) ≤ (rd x0 (wrap64 (x9 - 1))) then (some false) else (impl_ascends.l0 k x0 x1 x7 x8 (wrap64 (x9 + 1)))) else (none)) else (none)) else (impl_ascends.l0 k x0 x1 x7 x8 (wrap64 (x9 + 1)))) else (some false))) else (none)) else (none)) else (some true)
def impl_ascends.f (k : Nat) (l0 : List Int) (a1 : Int) : Option (Bool) := impl_ascends.l0 k l0 a1 l0 (l0.length : Int) 0
theorem impl_ascends.mono_l : ∀ k, (∀ y0 y1 y2 y3 y4, LeO (impl_ascends.l0 k y0 y1 y2 y3 y4) (impl_ascends.l0 (k + 1) y0 y1 y2 y3 y4))
  | 0 => by intros; exact LeO.none _
  | k + 1 => by
    have ih0 := impl_ascends.mono_l k; intros ; unfold impl_ascends.l0 ; repeat' with_reducible first | exact LeO.refl _ | exact LeO.none _ | refine LeO.ite ?_ ?_ | refine LeO.bind ?_ (fun _ => ?_) | apply ih0
theorem impl_ascends.mono : ∀ a0 a1 k, LeO (impl_ascends.f k a0 a1) (impl_ascends.f (k + 1) a0 a1) := by
  intro a0 a1 k; have ih0 := impl_ascends.mono_l k; unfold impl_ascends.f
  repeat' with_reducible first | exact LeO.refl _ | exact LeO.none _ | refine LeO.ite ?_ ?_ | refine LeO.bind ?_ (fun _ => ?_) | apply ih0
set_option maxHeartbeats 8000000 in
set_option maxRecDepth 100000 in
theorem impl_ascends.calls (k : Nat) (A0 : Option Addr) (c0 : Nat) (l0 : List Int) (a1 : Int) (r : Bool) (w : World) (hr0 : Kd.C (Kd.int .i64) w A0 l0.length l0) (hc0 : l0.length ≤ c0) (h : impl_ascends.f k l0 a1 = some r) :
    Calls Try.prog 114 #[.slice A0 l0.length c0, .int .i64 a1] w fun e w' => e = .returned (.bool r) ∧ Drawn0 w w' := by
  have HR0 := Aside0.mk hr0; have HC0 := Aside0.mk hc0; clear hr0 hc0; have H := h; unfold impl_ascends.f at H; clear h; have H' := Aside0.mk H; clear H; go_enter Try.func114, Try.ntmps114; go_wp2; go_loopg [9] k (fun kq v9 w' => ∃ (x9_1 : Int), v9 = .int .i64 x9_1 ∧ Aside0 (impl_ascends.l0 kq l0 a1 l0 (l0.length : Int) x9_1 = some r) ∧ Aside0 (kq ≤ k) ∧ Drawn0 w w')
  case atStart => exact ⟨(0), q4_, H', ⟨Nat.le_refl _⟩, by repeat (first | exact Drawn0.refl _ | apply Drawn0.step)⟩
  case round =>
    clear H'; obtain ⟨x9_1, rfl, HA, HK1, ⟨m1, rfl⟩⟩ := hrel
    cases gk with
    | zero => exact absurd HA.out (by simp [impl_ascends.l0])
    | succ k1 =>
     have H := HA.out; clear HA; simp only [impl_ascends.l0] at H; by_cases c3 : x9_1 < (l0.length : Int)
     ·rw [if_pos c3] at H; have c3b0 := decide_eq_true c3; clear c3; obtain ⟨c4b0, H⟩ := ifd_ H; obtain ⟨c5b0, H⟩ := ifd_ H; replace H := Option.bind_eq_some_iff.mp H; obtain ⟨t110, A60, H⟩ := H; (try dsimp only at H); have A6 := Aside0.mk A60; clear A60; by_cases c7 : t110 = true
      ·subst c7; rw [if_pos rfl] at H; by_cases c8 : x9_1 > 0
       ·rw [if_pos c8] at H; have c8b0 := decide_eq_true c8; clear c8; obtain ⟨ji9, hji9⟩ : ∃ j_ : Int, (wrap64 (x9_1 - 1)) = j_ := ⟨_, rfl⟩; (first | rw [hji9] at H | simp only [hji9] at H); (try rw [hji9] at A6); have hji9w : (IntKind.i64.wrap (x9_1 - 1)) = ji9 := (i64_w _).trans hji9; obtain ⟨c10b0, H⟩ := ifd_ H; obtain ⟨c11b0, H⟩ := ifd_ H; by_cases c12 : (rd l0 x9_1) ≤ (rd l0 (ji9))
        ·rw [if_pos c12] at H; have c12b0 := decide_eq_true c12; clear c12; obtain rfl := Option.some.inj H; obtain ⟨p109, q109, ad109, e109, hx109_0⟩ := pq_ (Kd.at_int HR0.out x9_1); cases e109; go_wp2_with (first | ((with_reducible refine gate_callee (f := 133) rfl ?_); refine gl_ 17 Try.func133 #[.int .i64 (rd l0 x9_1), .int .i64 0, .int .i64 (wrap64 (a1 - 1))] ?_; (with_reducible refine (impl_inRange.calls (rd l0 x9_1) 0 (wrap64 (a1 - 1)) true _ A6.out).mono ?_); rintro e w' ⟨rfl, ⟨nd, rfl⟩⟩; refine ⟨_, rfl, ?_⟩; have p111 : 0 ≤ ((ji9) : Int) := of_decide_eq_true q0_; have q111 : (ji9) < (l0.length : Int) := of_decide_eq_true q0_; obtain ⟨ad111, e111, hx111_0⟩ := Kd.at_int HR0.out (ji9) p111 q111; obtain rfl : ad109 = ad111 := (by injection e111); replace p111 := eq_true p111; replace q111 := eq_true q111)); go_ret; exact ⟨by first | rfl | (simp; done) | (simp only [← hji9] <;> (first | rfl | simp)) | (simp [*]; done), by repeat (first | exact Drawn0.refl _ | apply Drawn0.step)⟩
        ·rw [if_neg c12] at H; have c12b0 := decide_eq_false c12; clear c12; have H' := Aside0.mk H; clear H; obtain ⟨p109, q109, ad109, e109, hx109_0⟩ := pq_ (Kd.at_int HR0.out x9_1); cases e109; go_wp2_with (first | ((with_reducible refine gate_callee (f := 133) rfl ?_); refine gl_ 17 Try.func133 #[.int .i64 (rd l0 x9_1), .int .i64 0, .int .i64 (wrap64 (a1 - 1))] ?_; (with_reducible refine (impl_inRange.calls (rd l0 x9_1) 0 (wrap64 (a1 - 1)) true _ A6.out).mono ?_); rintro e w' ⟨rfl, ⟨nd, rfl⟩⟩; refine ⟨_, rfl, ?_⟩; have p111 : 0 ≤ ((ji9) : Int) := of_decide_eq_true q0_; have q111 : (ji9) < (l0.length : Int) := of_decide_eq_true q0_; obtain ⟨ad111, e111, hx111_0⟩ := Kd.at_int HR0.out (ji9) p111 q111; obtain rfl : ad109 = ad111 := (by injection e111); replace p111 := eq_true p111; replace q111 := eq_true q111)); go_roundg k1
         case measure => have := HK1.out; omega
         case rel => exact ⟨(wrap64 (x9_1 + 1)), q4_, H', ⟨by have := HK1.out; omega⟩, by repeat (first | exact Drawn0.refl _ | apply Drawn0.step)⟩
       ·rw [if_neg c8] at H; have c8b0 := decide_eq_false c8; clear c8; have H' := Aside0.mk H; clear H; obtain ⟨p109, q109, ad109, e109, hx109_0⟩ := pq_ (Kd.at_int HR0.out x9_1); cases e109; go_wp2_with (first | ((with_reducible refine gate_callee (f := 133) rfl ?_); refine gl_ 17 Try.func133 #[.int .i64 (rd l0 x9_1), .int .i64 0, .int .i64 (wrap64 (a1 - 1))] ?_; (with_reducible refine (impl_inRange.calls (rd l0 x9_1) 0 (wrap64 (a1 - 1)) true _ A6.out).mono ?_); rintro e w' ⟨rfl, ⟨nd, rfl⟩⟩; refine ⟨_, rfl, ?_⟩)); go_roundg k1
        case measure => have := HK1.out; omega
        case rel => exact ⟨(wrap64 (x9_1 + 1)), q4_, H', ⟨by have := HK1.out; omega⟩, by repeat (first | exact Drawn0.refl _ | apply Drawn0.step)⟩
      ·replace c7 := Bool.eq_false_iff.mpr c7; subst c7; rw [if_neg nf_] at H; obtain rfl := Option.some.inj H; obtain ⟨p109, q109, ad109, e109, hx109_0⟩ := pq_ (Kd.at_int HR0.out x9_1); cases e109; go_wp2_with (first | ((with_reducible refine gate_callee (f := 133) rfl ?_); refine gl_ 17 Try.func133 #[.int .i64 (rd l0 x9_1), .int .i64 0, .int .i64 (wrap64 (a1 - 1))] ?_; (with_reducible refine (impl_inRange.calls (rd l0 x9_1) 0 (wrap64 (a1 - 1)) false _ A6.out).mono ?_); rintro e w' ⟨rfl, ⟨nd, rfl⟩⟩; refine ⟨_, rfl, ?_⟩)); go_ret; exact ⟨by first | rfl | (simp; done) | (simp [*]; done), by repeat (first | exact Drawn0.refl _ | apply Drawn0.step)⟩
     ·rw [if_neg c3] at H; have c3b0 := decide_eq_false c3; clear c3; obtain rfl := Option.some.inj H; go_wp2; go_ret; exact ⟨by first | rfl | (simp; done) | (simp [*]; done), by repeat (first | exact Drawn0.refl _ | apply Drawn0.step)⟩

/-! ### impl_GraphOk: function 88 -/
def impl_GraphOk.l0 : Nat → List (List Int) → List (List Int) → Int → Int → Option (Bool)
  | 0, _, _, _, _ => none
  | k + 1, x0, x5, x6, x7 => if x7 < x6 then (if 0 ≤ x7 then (if x7 < (x5.length : Int) then (if ((rd_L2 x5 x7).length : Int) > 4 then (some false) else ((impl_ascends.f k (rd_L2 x5 x7) x7).bind fun t113 => (if t113 = true then (impl_GraphOk.l0 k x0 x5 x6 (wrap64 (x7 + 1))) else (some false)))) else (none)) else (none)) else (some (decide ((x0.length : Int) ≤ 40)))
def impl_GraphOk.f (k : Nat) (l0 : List (List Int)) : Option (Bool) := impl_GraphOk.l0 k l0 l0 (l0.length : Int) 0
theorem impl_GraphOk.mono_l : ∀ k, (∀ y0 y1 y2 y3, LeO (impl_GraphOk.l0 k y0 y1 y2 y3) (impl_GraphOk.l0 (k + 1) y0 y1 y2 y3))
  | 0 => by intros; exact LeO.none _
  | k + 1 => by
    have ih0 := impl_GraphOk.mono_l k; intros ; unfold impl_GraphOk.l0 ; repeat' with_reducible first | exact LeO.refl _ | exact LeO.none _ | refine LeO.ite ?_ ?_ | refine LeO.bind ?_ (fun _ => ?_) | apply ih0 | apply impl_ascends.mono
theorem impl_GraphOk.mono : ∀ a0 k, LeO (impl_GraphOk.f k a0) (impl_GraphOk.f (k + 1) a0) := by
  intro a0 k; have ih0 := impl_GraphOk.mono_l k; unfold impl_GraphOk.f
  repeat' with_reducible first | exact LeO.refl _ | exact LeO.none _ | refine LeO.ite ?_ ?_ | refine LeO.bind ?_ (fun _ => ?_) | apply ih0 | apply impl_ascends.mono
set_option maxHeartbeats 8000000 in
set_option maxRecDepth 100000 in
theorem impl_GraphOk.calls (k : Nat) (A0 : Option Addr) (c0 : Nat) (l0 : List (List Int)) (r : Bool) (w : World) (hr0 : Kd.C (Kd.slice 3 (Kd.int .i64)) w A0 l0.length l0) (hc0 : l0.length ≤ c0) (h : impl_GraphOk.f k l0 = some r) :
    Calls Try.prog 88 #[.slice A0 l0.length c0] w fun e w' => e = .returned (.bool r) ∧ Drawn0 w w' := by
  have HR0 := Aside0.mk hr0; have HC0 := Aside0.mk hc0; clear hr0 hc0; have H := h; unfold impl_GraphOk.f at H; clear h; have H' := Aside0.mk H; clear H; go_enter Try.func88, Try.ntmps88; go_wp2; go_loopg [7] k (fun kq v7 w' => ∃ (x7_1 : Int), v7 = .int .i64 x7_1 ∧ Aside0 (impl_GraphOk.l0 kq l0 l0 (l0.length : Int) x7_1 = some r) ∧ Aside0 (kq ≤ k) ∧ Drawn0 w w')
  case atStart => exact ⟨(0), q4_, H', ⟨Nat.le_refl _⟩, by repeat (first | exact Drawn0.refl _ | apply Drawn0.step)⟩
  case round =>
    clear H'; obtain ⟨x7_1, rfl, HA, HK1, ⟨m1, rfl⟩⟩ := hrel
    cases gk with
    | zero => exact absurd HA.out (by simp [impl_GraphOk.l0])
    | succ k1 =>
     have H := HA.out; clear HA; simp only [impl_GraphOk.l0] at H; by_cases c2 : x7_1 < (l0.length : Int)
     ·rw [if_pos c2] at H; have c2b0 := decide_eq_true c2; clear c2; obtain ⟨c3b0, H⟩ := ifd_ H; obtain ⟨c4b0, H⟩ := ifd_ H; by_cases c5 : ((rd_L2 l0 x7_1).length : Int) > 4
      ·rw [if_pos c5] at H; have c5b0 := decide_eq_true c5; have c5b1 : decide (4 < (rd_L2 l0 x7_1).length) = true := decide_eq_true (by omega); clear c5; obtain rfl := Option.some.inj H; obtain ⟨p112, q112, ad112, A112_0, c112_0, e112, hx112_0, hl112_0, hi112_0⟩ := pq_ (at_L2 HR0.out x7_1); cases e112; have HR112_0 := Aside0.mk hi112_0; have HC112_0 := Aside0.mk hl112_0; clear hi112_0 hl112_0; go_wp2; go_ret; exact ⟨by first | rfl | (simp; done) | (simp [*]; done), by repeat (first | exact Drawn0.refl _ | apply Drawn0.step)⟩
      ·rw [if_neg c5] at H; have c5b0 := decide_eq_false c5; have c5b1 : decide (4 < (rd_L2 l0 x7_1).length) = false := decide_eq_false (by omega); clear c5; replace H := Option.bind_eq_some_iff.mp H; obtain ⟨t113, A60, H⟩ := H; (try dsimp only at H); have A6 := Aside0.mk A60; clear A60; by_cases c7 : t113 = true
       ·subst c7; rw [if_pos rfl] at H; have H' := Aside0.mk H; clear H; obtain ⟨p112, q112, ad112, A112_0, c112_0, e112, hx112_0, hl112_0, hi112_0⟩ := pq_ (at_L2 HR0.out x7_1); cases e112; have HR112_0 := Aside0.mk hi112_0; have HC112_0 := Aside0.mk hl112_0; clear hi112_0 hl112_0; go_wp2_with (first | (go_at_call 114; (try simp only [i64_w]); (with_reducible refine (impl_ascends.calls k1 _ _ (rd_L2 l0 x7_1) x7_1 true _ ?side1 ?side2 A6.out).mono ?_); (case side1 => exact (by repeat (first | exact HR112_0.out | (with_reducible refine Kd.C_alloc ?_ _) | (with_reducible refine Kd.C_drewN ?_ _) | (with_reducible refine Kd.C_drew ?_)))); (case side2 => exact HC112_0.out); rintro e w' ⟨rfl, ⟨nd, rfl⟩⟩)); go_roundg k1
        case measure => have := HK1.out; omega
        case rel => exact ⟨(wrap64 (x7_1 + 1)), q4_, H', ⟨by have := HK1.out; omega⟩, by repeat (first | exact Drawn0.refl _ | apply Drawn0.step)⟩
       ·replace c7 := Bool.eq_false_iff.mpr c7; subst c7; rw [if_neg nf_] at H; obtain rfl := Option.some.inj H; obtain ⟨p112, q112, ad112, A112_0, c112_0, e112, hx112_0, hl112_0, hi112_0⟩ := pq_ (at_L2 HR0.out x7_1); cases e112; have HR112_0 := Aside0.mk hi112_0; have HC112_0 := Aside0.mk hl112_0; clear hi112_0 hl112_0; go_wp2_with (first | (go_at_call 114; (try simp only [i64_w]); (with_reducible refine (impl_ascends.calls k1 _ _ (rd_L2 l0 x7_1) x7_1 false _ ?side1 ?side2 A6.out).mono ?_); (case side1 => exact (by repeat (first | exact HR112_0.out | (with_reducible refine Kd.C_alloc ?_ _) | (with_reducible refine Kd.C_drewN ?_ _) | (with_reducible refine Kd.C_drew ?_)))); (case side2 => exact HC112_0.out); rintro e w' ⟨rfl, ⟨nd, rfl⟩⟩)); go_ret; exact ⟨by first | rfl | (simp; done) | (simp [*]; done), by repeat (first | exact Drawn0.refl _ | apply Drawn0.step)⟩
     ·rw [if_neg c2] at H; have c2b0 := decide_eq_false c2; clear c2; obtain rfl := Option.some.inj H; go_wp2; go_ret; exact ⟨by first | rfl | (simp; done) | (simp [*]; done), by repeat (first | exact Drawn0.refl _ | apply Drawn0.step)⟩

/-! ### impl_set_has: function 139 -/
def impl_set_has.f (a0 : Int) (a1 : Int) : Option (Bool) := (impl_inRange.f a1 0 63).bind fun t114 => (if t114 = true then (if 0 ≤ (IntKind.u64.wrap (a1)) then (some ((Go.bits .and .u64 (shr .u64 a0 (IntKind.u64.wrap (a1))) 1) == 1)) else (none)) else (some false))
set_option maxHeartbeats 8000000 in
set_option maxRecDepth 100000 in
theorem impl_set_has.calls (a0 : Int) (a1 : Int) (r : Bool) (w : World) (h : impl_set_has.f a0 a1 = some r) :
    Calls Try.prog 139 #[.int .u64 a0, .int .i64 a1] w fun e w' => e = .returned (.bool r) ∧ Drawn0 w w' := by
  have H := h; unfold impl_set_has.f at H; clear h; replace H := Option.bind_eq_some_iff.mp H; obtain ⟨t114, A30, H⟩ := H; (try dsimp only at H); have A3 := Aside0.mk A30; clear A30; by_cases c4 : t114 = true
  · subst c4; rw [if_pos rfl] at H; obtain ⟨ji5, hji5⟩ : ∃ j_ : Int, (IntKind.u64.wrap (a1)) = j_ := ⟨_, rfl⟩; (first | rw [hji5] at H | simp only [hji5] at H); (try rw [hji5] at A3); obtain ⟨c6b0, c6b1, H⟩ := ife_ H; obtain ⟨ji7, hji7⟩ : ∃ j_ : Int, (shr .u64 a0 (ji5)) = j_ := ⟨_, rfl⟩; (first | rw [hji7] at H | simp only [hji7] at H); (try rw [hji7] at A3); have hji7_ : (a0 / 2 ^ min (ji5).toNat 64) = ji7 := hji7; have hji7z : (ji5) ≤ 64 → (a0 / 2 ^ (ji5).toNat) = ji7 := shr_small hji7; obtain rfl := Option.some.inj H; go_enter Try.func139, Try.ntmps139; go_wp2_with (first | ((with_reducible refine gate_callee (f := 133) rfl ?_); refine gl_ 6 Try.func133 #[.int .i64 a1, .int .i64 0, .int .i64 63] ?_; (with_reducible refine (impl_inRange.calls a1 0 63 true _ A3.out).mono ?_); rintro e w' ⟨rfl, ⟨nd, rfl⟩⟩; refine ⟨_, rfl, ?_⟩)); go_ret; exact ⟨by first | rfl | (simp; done) | (simp only [← hji5, ← hji7] <;> (first | rfl | simp)) | (simp [*]; done), by repeat (first | exact Drawn0.refl _ | apply Drawn0.step)⟩
  · replace c4 := Bool.eq_false_iff.mpr c4; subst c4; rw [if_neg nf_] at H; obtain rfl := Option.some.inj H; go_enter Try.func139, Try.ntmps139; go_wp2_with (first | ((with_reducible refine gate_callee (f := 133) rfl ?_); refine gl_ 6 Try.func133 #[.int .i64 a1, .int .i64 0, .int .i64 63] ?_; (with_reducible refine (impl_inRange.calls a1 0 63 false _ A3.out).mono ?_); rintro e w' ⟨rfl, ⟨nd, rfl⟩⟩; refine ⟨_, rfl, ?_⟩)); go_ret; exact ⟨by first | rfl | (simp; done) | (simp [*]; done), by repeat (first | exact Drawn0.refl _ | apply Drawn0.step)⟩

/-! ### impl_setOf: function 140 -/
def impl_setOf.l0 : Nat → Int → List Int → Int → Int → Option (Int)
  | 0, _, _, _, _ => none
  | k + 1, x3, x6, x7, x8 => if x8 < x7 then (if 0 ≤ x8 then (if x8 < (x6.length : Int) then ((impl_inRange.f (rd x6 x8) 0 63).bind fun t116 => (if t116 = true then (if 0 ≤ (IntKind.u64.wrap (rd x6 x8)) then (impl_setOf.l0 k (Go.bits .or .u64 x3 (shl .u64 1 (IntKind.u64.wrap (rd x6 x8)))) x6 x7 (wrap64 (x8 + 1))) else (none)) else (impl_setOf.l0 k x3 x6 x7 (wrap64 (x8 + 1))))) else (none)) else (none)) else (some x3)
def impl_setOf.f (k : Nat) (l0 : List Int) : Option (Int) := impl_setOf.l0 k 0 l0 (l0.length : Int) 0
theorem impl_setOf.mono_l : ∀ k, (∀ y0 y1 y2 y3, LeO (impl_setOf.l0 k y0 y1 y2 y3) (impl_setOf.l0 (k + 1) y0 y1 y2 y3))
  | 0 => by intros; exact LeO.none _
  | k + 1 => by
    have ih0 := impl_setOf.mono_l k; intros ; unfold impl_setOf.l0 ; repeat' with_reducible first | exact LeO.refl _ | exact LeO.none _ | refine LeO.ite ?_ ?_ | refine LeO.bind ?_ (fun _ => ?_) | apply ih0
theorem impl_setOf.mono : ∀ a0 k, LeO (impl_setOf.f k a0) (impl_setOf.f (k + 1) a0) := by
  intro a0 k; have ih0 := impl_setOf.mono_l k; unfold impl_setOf.f
  repeat' with_reducible first | exact LeO.refl _ | exact LeO.none _ | refine LeO.ite ?_ ?_ | refine LeO.bind ?_ (fun _ => ?_) | apply ih0
set_option maxHeartbeats 8000000 in
set_option maxRecDepth 100000 in
theorem impl_setOf.calls (k : Nat) (A0 : Option Addr) (c0 : Nat) (l0 : List Int) (r : Int) (w : World) (hr0 : Kd.C (Kd.int .i64) w A0 l0.length l0) (hc0 : l0.length ≤ c0) (h : impl_setOf.f k l0 = some r) :
    Calls Try.prog 140 #[.slice A0 l0.length c0] w fun e w' => e = .returned (.int .u64 r) ∧ Drawn0 w w' := by
  have HR0 := Aside0.mk hr0; have HC0 := Aside0.mk hc0; clear hr0 hc0; have H := h; unfold impl_setOf.f at H; clear h; have H' := Aside0.mk H; clear H; go_enter Try.func140, Try.ntmps140; go_wp2; go_loopg [3, 8] k (fun kq v3 v8 w' => ∃ (x3_1 : Int) (x8_1 : Int), v3 = .int .u64 x3_1 ∧ v8 = .int .i64 x8_1 ∧ Aside0 (impl_setOf.l0 kq x3_1 l0 (l0.length : Int) x8_1 = some r) ∧ Aside0 (kq ≤ k) ∧ Drawn0 w w')
  case atStart => exact ⟨(0), (0), q4_, q4_, H', ⟨Nat.le_refl _⟩, by repeat (first | exact Drawn0.refl _ | apply Drawn0.step)⟩
  case round =>
    clear H'; obtain ⟨x3_1, x8_1, rfl, rfl, HA, HK1, ⟨m1, rfl⟩⟩ := hrel
    cases gk with
    | zero => exact absurd HA.out (by simp [impl_setOf.l0])
    | succ k1 =>
     have H := HA.out; clear HA; simp only [impl_setOf.l0] at H; by_cases c2 : x8_1 < (l0.length : Int)
     ·rw [if_pos c2] at H; have c2b0 := decide_eq_true c2; clear c2; obtain ⟨c3b0, H⟩ := ifd_ H; obtain ⟨c4b0, H⟩ := ifd_ H; replace H := Option.bind_eq_some_iff.mp H; obtain ⟨t116, A50, H⟩ := H; (try dsimp only at H); have A5 := Aside0.mk A50; clear A50; by_cases c6 : t116 = true
      ·subst c6; rw [if_pos rfl] at H; obtain ⟨ji7, hji7⟩ : ∃ j_ : Int, (IntKind.u64.wrap (rd l0 x8_1)) = j_ := ⟨_, rfl⟩; (first | rw [hji7] at H | simp only [hji7] at H); (try rw [hji7] at A5); obtain ⟨c8b0, c8b1, H⟩ := ife_ H; obtain ⟨ji9, hji9⟩ : ∃ j_ : Int, (shl .u64 1 (ji7)) = j_ := ⟨_, rfl⟩; (first | rw [hji9] at H | simp only [hji9] at H); (try rw [hji9] at A5); have hji9_ : (IntKind.u64.wrap (1 * 2 ^ min (ji7).toNat 64)) = ji9 := hji9; have hji9z : (ji7) ≤ 64 → (IntKind.u64.wrap (1 * 2 ^ (ji7).toNat)) = ji9 := shl_small hji9; have hji9u : (IntKind.u64.wrap (2 ^ min (ji7).toNat 64)) = ji9 := (by have h_ := hji9_; rw [Int.one_mul] at h_; exact h_); have hji9v : (ji7) ≤ 64 → (IntKind.u64.wrap (2 ^ (ji7).toNat)) = ji9 := fun hle_ => by have h_ := hji9z hle_; rw [Int.one_mul] at h_; exact h_
       have H' := Aside0.mk H; clear H; obtain ⟨p115, q115, ad115, e115, hx115_0⟩ := pq_ (Kd.at_int HR0.out x8_1); cases e115; go_wp2_with (first | ((with_reducible refine gate_callee (f := 133) rfl ?_); refine gl_ 13 Try.func133 #[.int .i64 (rd l0 x8_1), .int .i64 0, .int .i64 63] ?_; (with_reducible refine (impl_inRange.calls (rd l0 x8_1) 0 63 true _ A5.out).mono ?_); rintro e w' ⟨rfl, ⟨nd, rfl⟩⟩; refine ⟨_, rfl, ?_⟩)); go_roundg k1
       case measure => have := HK1.out; omega
       case rel => exact ⟨(Go.bits .or .u64 x3_1 (ji9)), (wrap64 (x8_1 + 1)), (by first | rfl | (simp; done) | (simp only [← hji9] <;> (first | rfl | simp)) | (simp [*]; done)), q4_, H', ⟨by have := HK1.out; omega⟩, by repeat (first | exact Drawn0.refl _ | apply Drawn0.step)⟩
      ·replace c6 := Bool.eq_false_iff.mpr c6; subst c6; rw [if_neg nf_] at H; have H' := Aside0.mk H; clear H; obtain ⟨p115, q115, ad115, e115, hx115_0⟩ := pq_ (Kd.at_int HR0.out x8_1); cases e115; go_wp2_with (first | ((with_reducible refine gate_callee (f := 133) rfl ?_); refine gl_ 13 Try.func133 #[.int .i64 (rd l0 x8_1), .int .i64 0, .int .i64 63] ?_; (with_reducible refine (impl_inRange.calls (rd l0 x8_1) 0 63 false _ A5.out).mono ?_); rintro e w' ⟨rfl, ⟨nd, rfl⟩⟩; refine ⟨_, rfl, ?_⟩)); go_roundg k1
       case measure => have := HK1.out; omega
       case rel => exact ⟨(x3_1), (wrap64 (x8_1 + 1)), q4_, q4_, H', ⟨by have := HK1.out; omega⟩, by repeat (first | exact Drawn0.refl _ | apply Drawn0.step)⟩
     ·rw [if_neg c2] at H; have c2b0 := decide_eq_false c2; clear c2; obtain rfl := Option.some.inj H; go_wp2; go_ret; exact ⟨by first | rfl | (simp; done) | (simp [*]; done), by repeat (first | exact Drawn0.refl _ | apply Drawn0.step)⟩

/-! ### impl_Body_isLive: function 128 -/
def impl_Body_isLive.f (k : Nat) (a0_0 : ByteArray) (a0_1 : Int) (a0_2 : Int) (l0_3 : List Int) (a1 : Int) : Option (Bool) := (impl_set_has.f a1 a0_1).bind fun t118 => (if t118 = true then ((impl_setOf.f k l0_3).bind fun t119 => (some ((Go.bits .and .u64 t119 a1) == 0))) else (some false))
theorem impl_Body_isLive.mono : ∀ a0 a1 a2 a3 a4 k, LeO (impl_Body_isLive.f k a0 a1 a2 a3 a4) (impl_Body_isLive.f (k + 1) a0 a1 a2 a3 a4) := by
  intro a0 a1 a2 a3 a4 k; unfold impl_Body_isLive.f
  repeat' with_reducible first | exact LeO.refl _ | exact LeO.none _ | refine LeO.ite ?_ ?_ | refine LeO.bind ?_ (fun _ => ?_) | apply impl_setOf.mono
set_option maxHeartbeats 8000000 in
set_option maxRecDepth 100000 in
theorem impl_Body_isLive.calls (k : Nat) (a0_0 : ByteArray) (a0_1 : Int) (a0_2 : Int) (A0_3 : Option Addr) (c0_3 : Nat) (l0_3 : List Int) (a1 : Int) (r : Bool) (w : World) (hr0_3 : Kd.C (Kd.int .i64) w A0_3 l0_3.length l0_3) (hc0_3 : l0_3.length ≤ c0_3) (h : impl_Body_isLive.f k a0_0 a0_1 a0_2 l0_3 a1 = some r) :
    Calls Try.prog 128 #[.agg #[.string a0_0, .int .i64 a0_1, .int .i64 a0_2, .slice A0_3 l0_3.length c0_3], .int .u64 a1] w fun e w' => e = .returned (.bool r) ∧ Below w.heap.size w w' := by
  have hu123 := Try.underlying123; have HR0_3 := Aside0.mk hr0_3; have HC0_3 := Aside0.mk hc0_3; clear hr0_3 hc0_3; have HB := Aside0.mk (Below.refl w.heap.size w); have H := h; unfold impl_Body_isLive.f at H; clear h; replace H := Option.bind_eq_some_iff.mp H; obtain ⟨t118, A30, H⟩ := H; (try dsimp only at H); have A3 := Aside0.mk A30; clear A30; by_cases c4 : t118 = true
  · subst c4; rw [if_pos rfl] at H; replace H := Option.bind_eq_some_iff.mp H; obtain ⟨t119, A50, H⟩ := H; (try dsimp only at H); have A5 := Aside0.mk A50; clear A50; obtain rfl := Option.some.inj H; go_enter Try.func128, Try.ntmps128; go_wp2_with (first | ((with_reducible refine gate_dst (N := 2) rfl ?_); refine be_ 2 #[.string a0_0, .int .i64 a0_1, .int .i64 a0_2, .slice A0_3 l0_3.length c0_3] 123 ?_; intro gb117 hg w6 hbox hb; refine ai4_ (below_step q1_ hb) (hbox) (gw_ hg q1_) (gw_ hg q1_) ?_; clear HB; intro HB BK117 GW117 GE117; clear hb hbox hg; obtain ⟨hcz7_0, hcz7_1, hcz7_2, hcz7_3, hfz7_0, hfz7_1, hfz7_2, hfz7_3⟩ := bk4_ BK117.out) | ((with_reducible refine gate_callee (f := 139) rfl ?_); refine gl_ 8 Try.func139 #[.int .u64 a1, .int .i64 a0_1] ?_; (with_reducible refine (impl_set_has.calls a1 a0_1 true _ A3.out).mono ?_); rintro e w' ⟨rfl, ⟨nd, rfl⟩⟩; refine ⟨_, rfl, ?_⟩) | (go_at_call 140; (try simp only [i64_w]); (with_reducible refine (impl_setOf.calls k _ _ l0_3 t119 _ ?side1 ?side2 A5.out).mono ?_); (case side1 => exact (by repeat (first | exact (Kd.C_below HR0_3.out zb_) | (with_reducible refine Kd.C_alloc ?_ _) | (with_reducible refine Kd.C_drewN ?_ _) | (with_reducible refine Kd.C_drew ?_)))); (case side2 => exact HC0_3.out); rintro e w' ⟨rfl, ⟨nd, rfl⟩⟩)); go_ret; exact ⟨er_, zb_⟩
  · replace c4 := Bool.eq_false_iff.mpr c4; subst c4; rw [if_neg nf_] at H; obtain rfl := Option.some.inj H; go_enter Try.func128, Try.ntmps128; go_wp2_with (first | ((with_reducible refine gate_dst (N := 2) rfl ?_); refine be_ 2 #[.string a0_0, .int .i64 a0_1, .int .i64 a0_2, .slice A0_3 l0_3.length c0_3] 123 ?_; intro gb117 hg w8 hbox hb; refine ai4_ (below_step q1_ hb) (hbox) (gw_ hg q1_) (gw_ hg q1_) ?_; clear HB; intro HB BK117 GW117 GE117; clear hb hbox hg; obtain ⟨hcz9_0, hcz9_1, hcz9_2, hcz9_3, hfz9_0, hfz9_1, hfz9_2, hfz9_3⟩ := bk4_ BK117.out) | ((with_reducible refine gate_callee (f := 139) rfl ?_); refine gl_ 8 Try.func139 #[.int .u64 a1, .int .i64 a0_1] ?_; (with_reducible refine (impl_set_has.calls a1 a0_1 false _ A3.out).mono ?_); rintro e w' ⟨rfl, ⟨nd, rfl⟩⟩; refine ⟨_, rfl, ?_⟩)); go_ret; exact ⟨er_, zb_⟩

end Go.Proofs.Ytmodgiingohphaa.PFnTop
