-- Made by a program (the kit's print with additions of this session: wip/tools/patch_print.py, ext.py).
import Derived.Test.YtmodgiingohphaaPFnTopx0
namespace Go.Proofs.Ytmodgiingohphaa.PFnTop
open Go.RowKit Go.Proofs.YtmodgiingohphaaW.PrintWords Go.Proofs.YtmodgiingohphaaW.PrintLast Go.Proofs.YtmodgiingohphaaW.PrintMore
attribute [local go_sem] max2_int min2_int max_two min_two max_three min_three max_four min_four   -- for this text's walks alone
set_option linter.unusedVariables false
set_option linter.unusedSimpArgs false

/-! ### impl_Weave_linesAt: function 81 -/
def impl_Weave_linesAt.l0 : Nat → List ByteArray → List Int → Int → Int → List (List Int) → List (S123) → Option (List ByteArray)
  | 0, _, _, _, _, _, _ => none
  | k + 1, x5, x8, x9, x10, x1000, x1001 => if x10 < x9 then (if 0 ≤ x10 then (if x10 < (x8.length : Int) then (if 0 ≤ (rd x8 x10) then (if (rd x8 x10) < (x1001.length : Int) then (if x5.length < 8796093022208 then (impl_Weave_linesAt.l0 k (x5 ++ [(rd_T123 x1001 (rd x8 x10)).f0]) x8 x9 (wrap64 (x10 + 1)) x1000 x1001) else (none)) else (none)) else (none)) else (none)) else (none)) else (some x5)
def impl_Weave_linesAt.f (k : Nat) (l0_0 : List (List Int)) (l0_1 : List (S123)) (l1 : List Int) : Option (List ByteArray) := impl_Weave_linesAt.l0 k ([] : List ByteArray) l1 (l1.length : Int) 0 l0_0 l0_1
theorem impl_Weave_linesAt.mono_l : ∀ k, (∀ y0 y1 y2 y3 y4 y5, LeO (impl_Weave_linesAt.l0 k y0 y1 y2 y3 y4 y5) (impl_Weave_linesAt.l0 (k + 1) y0 y1 y2 y3 y4 y5))
  | 0 => by intros; exact LeO.none _
  | k + 1 => by
    have ih0 := impl_Weave_linesAt.mono_l k; intros ; unfold impl_Weave_linesAt.l0 ; repeat' with_reducible first | exact LeO.refl _ | exact LeO.none _ | refine LeO.ite ?_ ?_ | refine LeO.bind ?_ (fun _ => ?_) | apply ih0
theorem impl_Weave_linesAt.mono : ∀ a0 a1 a2 k, LeO (impl_Weave_linesAt.f k a0 a1 a2) (impl_Weave_linesAt.f (k + 1) a0 a1 a2) := by
  intro a0 a1 a2 k; have ih0 := impl_Weave_linesAt.mono_l k; unfold impl_Weave_linesAt.f
  repeat' with_reducible first | exact LeO.refl _ | exact LeO.none _ | refine LeO.ite ?_ ?_ | refine LeO.bind ?_ (fun _ => ?_) | apply ih0
set_option maxHeartbeats 8000000 in
set_option maxRecDepth 100000 in
theorem impl_Weave_linesAt.calls (k : Nat) (g0 : Nat) (A0_0 : Option Addr) (c0_0 : Nat) (l0_0 : List (List Int)) (A0_1 : Option Addr) (c0_1 : Nat) (l0_1 : List (S123)) (A1 : Option Addr) (c1 : Nat) (l1 : List Int) (r : List ByteArray) (w : World) (hbk0 : w.heap[g0]? = some (.cells #[.slice A0_0 l0_0.length c0_0, .slice A0_1 l0_1.length c0_1] 32 (0, 0))) (hr0_0 : Kd.C (Kd.slice 3 (Kd.int .i64)) w A0_0 l0_0.length l0_0) (hc0_0 : l0_0.length ≤ c0_0) (hr0_1 : Kd.C k123 w A0_1 l0_1.length l0_1) (hc0_1 : l0_1.length ≤ c0_1) (hr1 : Kd.C (Kd.int .i64) w A1 l1.length l1) (hc1 : l1.length ≤ c1) (h : impl_Weave_linesAt.f k l0_0 l0_1 l1 = some r) :
    Calls Try.prog 81 #[.pointer (some ⟨g0, 0, none⟩), .slice A1 l1.length c1] w fun e w' => ∃ v0_ : Value, e = .returned (v0_) ∧ Kd.R Kd.string 9 w' w.heap.size (fun _ => True) v0_ r ∧ Below w.heap.size w w' := by
  have HR0_0 := Aside0.mk hr0_0; have HC0_0 := Aside0.mk hc0_0; clear hr0_0 hc0_0; have HR0_1 := Aside0.mk hr0_1; have HC0_1 := Aside0.mk hc0_1; clear hr0_1 hc0_1; have HR1 := Aside0.mk hr1; have HC1 := Aside0.mk hc1; clear hr1 hc1; have BK0 := Aside0.mk hbk0; clear hbk0; have HB := Aside0.mk (Below.refl w.heap.size w); have H := h; unfold impl_Weave_linesAt.f at H; clear h; have H' := Aside0.mk H; clear H; go_enter Try.func81, Try.ntmps81; go_wp2; go_loopg [5, 10] k (fun kq v5 v10 w' => ∃ (x5_1 : List ByteArray) (x10_1 : Int), v10 = .int .i64 x10_1 ∧ Aside0 (impl_Weave_linesAt.l0 kq x5_1 l1 (l1.length : Int) x10_1 l0_0 l0_1 = some r) ∧ Aside0 (kq ≤ k) ∧ Aside0 (Kd.R Kd.string 9 w' w.heap.size (fun _ => True) v5 x5_1) ∧ Aside0 (w'.heap[g0]? = some (.cells #[(.slice A0_0 l0_0.length c0_0), (.slice A0_1 l0_1.length c0_1)] 32 (0, 0))) ∧ Aside0 (Below w.heap.size w w'))
  case atStart => exact ⟨(([] : List ByteArray)), (0), q4_, H', ⟨Nat.le_refl _⟩, ⟨by first | exact Kd.R_nil _ _ _ _ _ | exact Kd.N_nil _ _ _ _ _ | exact Kd.V_nil _ _ _ _ _ | exact Kd.Q_nil _ _ _ _ _ | exact Kd.S_nil _ _ _ _ _⟩, z_ BK0, ⟨zb_⟩⟩
  case round =>
    clear H'; obtain ⟨x5_1, x10_1, rfl, HA, HK1, HO_5, BK0, HB⟩ := hrel
    cases gk with
    | zero => exact absurd HA.out (by simp [impl_Weave_linesAt.l0])
    | succ k1 =>
     have H := HA.out; clear HA; simp only [impl_Weave_linesAt.l0] at H; by_cases c3 : x10_1 < (l1.length : Int)
     ·rw [if_pos c3] at H; have c3b0 := decide_eq_true c3; clear c3; obtain ⟨c4b0, H⟩ := ifd_ H; obtain ⟨c5b0, H⟩ := ifd_ H; obtain ⟨c6b0, H⟩ := ifd_ H; obtain ⟨c7b0, H⟩ := ifd_ H; obtain ⟨c8, H⟩ := ifs_ H; have LMc8 := Aside0.mk c8; clear c8; obtain ⟨y163, hy_⟩ : ∃ y_ : List ByteArray, y_ = (x5_1 ++ [(rd_T123 l0_1 (rd l1 x10_1)).f0]) := ⟨_, rfl⟩; rw [← hy_] at H; have Ny163 := Aside0.mk hy_; clear hy_; have H' := Aside0.mk H; clear H; obtain ⟨p161, q161, ad161, e161, hx161_0⟩ := pq_ (Kd.at_int HR1.out x10_1); cases e161; replace hx161_0 := bx_ HB hx161_0; obtain ⟨hcz9_0, hcz9_1, hfz9_0, hfz9_1⟩ := bk2_ BK0.out; obtain ⟨p162, q162, ad162, A162_3, c162_3, e162, hx162_0, hx162_1, hx162_2, hx162_3, hl162_3, hi162_3⟩ := pq_ (at_T123 HR0_1.out (rd l1 x10_1)); cases e162; replace hx162_0 := bx_ HB hx162_0; replace hx162_1 := bx_ HB hx162_1; replace hx162_2 := bx_ HB hx162_2; replace hx162_3 := bx_ HB hx162_3; have HR162_3 := Aside0.mk hi162_3; have HC162_3 := Aside0.mk hl162_3; clear hi162_3 hl162_3; go_wp2_with (first | ((with_reducible refine gate_builtin (b := .append) (xs := #[.tmp 14, .tmp 23]) rfl ?_); at_builtin; refine Kd.R_append Kd.string (w0 := w) w.heap.size rfl (.tmp 14) (.tmp 23) 46 9 (.string ⟨#[]⟩) 16 rfl Try.underlying46 info9 rfl (by decide) (by omega) u5 x5_1 ((rd_T123 l0_1 (rd l1 x10_1)).f0) [.string ((rd_T123 l0_1 (rd l1 x10_1)).f0)] (fun _ => True) (fun _ => False) rfl rfl ?aP (fun _ hk => hk.elim) ?aF ?aO ?aB ?aS ?aL ?_; (case aP => exact rfl); (case aB => exact q41_); (case aF => exact (fun _ _ => trivial)); (case aO => exact q9_); (case aS => exact (below_size q41_)); (case aL => have := LMc8.out; omega); intro v164 w10 ho hb hg hat; rw [← Ny163.out] at ho; refine ai3_ (bg_ BK0 hg (Kd.R_ne HO_5.out BK0.out (by decide))) (hb) (ho) ?_; clear BK0 HB HO_5; intro BK0 HB HO165; clear ho hb hg hat)); go_roundg k1
      case measure => have := HK1.out; omega
      case rel => exact ⟨(y163), (wrap64 (x10_1 + 1)), q4_, H', ⟨by have := HK1.out; omega⟩, z_ HO165, z_ BK0, ⟨zb_⟩⟩
     ·rw [if_neg c3] at H; have c3b0 := decide_eq_false c3; clear c3; obtain rfl := Option.some.inj H; go_wp2; go_ret; exact ⟨_, er_, zp_ HO_5, zb_⟩

/-! ### slices_Clone_int_int: function 117 -/
def slices_Clone_int_int.f (l0 : List Int) : Option (List Int) := if l0.length * 8 ≤ 140737488355328 then some l0 else none
theorem slices_Clone_int_int.calls (A0 : Option Addr) (c0 : Nat) (l0 r : List Int) (w : World) (hr0 : Kd.C (Kd.int .i64) w A0 l0.length l0) (hc0 : l0.length ≤ c0) (h : slices_Clone_int_int.f l0 = some r) :
    Calls Try.prog 117 #[.slice A0 l0.length c0] w fun e w' => ∃ v0_ : Value, e = .returned (v0_) ∧ Kd.R (Kd.int .i64) 3 w' w.heap.size (fun _ => True) v0_ r ∧ Below w.heap.size w w' := by
  unfold slices_Clone_int_int.f at h; by_cases hs : l0.length * 8 ≤ 140737488355328
  case neg => rw [if_neg hs] at h; exact absurd h (by simp)
  rw [if_pos hs] at h; obtain rfl := Option.some.inj h; obtain ⟨_, _, hr⟩ := Kd.reads_of_C (d := 0) hr0; by_cases hz : l0 = []
  · subst hz
    cases A0 with
    | none =>
     refine (Try.slices_Clone_int_nil 0 c0 w).mono ?_; rintro e w' ⟨rfl, rfl⟩; exact ⟨_, rfl, Kd.R_nil _ _ _ _ _, Below.refl _ _⟩
    | some a =>
     refine (Try.slices_Clone_int_zero a c0 w).mono ?_; rintro e w' ⟨v', rfl, ho, _, hb⟩; exact ⟨_, rfl, Kd.R_of_own ho (fun _ _ => trivial), hb⟩
  · have hp : 0 < l0.length := List.length_pos_iff.mpr hz; obtain ⟨⟨b, off, sp⟩, rfl, hc⟩ := hr hp
    obtain rfl : sp = none := by
     have := hc 0 hp
     cases sp with
     | none => rfl
     | some _ => simp [World.cell?, Addr.add] at this; split at this <;> simp at this
    refine (Try.slices_Clone_int b off l0.length c0 l0 w (Nat.le_refl _) hs (fun j hj => by have := hc j hj; unfold Addr.add at this; split at this <;> simp_all)).mono ?_; rintro e w' ⟨v', rfl, ho, _, hb⟩; exact ⟨_, rfl, Kd.R_of_own (by simpa [encs] using ho) (fun _ _ => trivial), hb⟩

end Go.Proofs.Ytmodgiingohphaa.PFnTop
