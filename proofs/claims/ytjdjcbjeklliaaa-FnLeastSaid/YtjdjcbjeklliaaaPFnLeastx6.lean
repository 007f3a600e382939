-- Made by a program (the kit's print with additions of this session: wip/tools/patch_print.py, ext.py).
-- (turned)
import Derived.Test.YtjdjcbjeklliaaaPFnLeastx0
import Derived.Test.YtjdjcbjeklliaaaPFnLeastx2
import Derived.Test.YtjdjcbjeklliaaaPFnLeastx3
import Derived.Test.YtjdjcbjeklliaaaPFnLeastx5
namespace Go.Proofs.Ytjdjcbjeklliaaa.PFnLeast
open Go.RowKit Go.Proofs.YtjdjcbjeklliaaaW.PrintWords Go.Proofs.YtjdjcbjeklliaaaW.PrintLast Go.Proofs.YtjdjcbjeklliaaaW.PrintMore
attribute [local go_sem] max2_int min2_int max_two min_two max_three min_three max_four min_four   -- for this text's walks alone
set_option linter.unusedVariables false
set_option linter.unusedSimpArgs false

/-! ### spec_l04Edits: function 53 -/
def spec_l04Edits.l0 : Nat → List ByteArray → List (S31) → Int → List Int → Int → Int → Option (List ByteArray × (List (S31)) × Int × Int)
  | 0, _, _, _, _, _, _ => none
  | k + 1, x4, x6, x7, x1000, x1001, x1002 => if x7 < 300 then (if x6.length < 5864062014805 then (spec_l04Edits.l0 k x4 (x6 ++ [(⟨3, (⟨#[122]⟩ : ByteArray)⟩ : S31)]) (wrap64 (x7 + 1)) x1000 x1001 x1002) else (none)) else (some (x4, x6, x1001, x1002))
def spec_l04Edits.f (k : Nat) (s0_0 : List Int) (s0_1 : Int) (s0_2 : Int) : Option (List ByteArray × (List (S31)) × Int × Int) := (spec_l04Two.f k s0_0 s0_1 s0_2).bind fun bt296 => ((spec_EditsOf.f k bt296.1 bt296.2.1).bind fun t304 => ((spec_l01Below.f s0_0 bt296.2.2.1 bt296.2.2.2 24).bind fun bt307 => (if bt307.1 = 0 then ((spec_l01Below.f s0_0 bt307.2.1 bt307.2.2 5).bind fun bt310 => ((spec_l03Line.f s0_0 bt310.2.1 bt310.2.2).bind fun bt313 => (if t304.length < 5864062014805 then (some (bt296.1, (t304 ++ [(⟨bt310.1, bt313.1⟩ : S31)]), bt313.2.1, bt313.2.2)) else (none)))) else (if bt307.1 = 1 then (if (t304.length : Int) > 0 then (if 1 ≤ (t304.length : Int) then (some (bt296.1, (t304.drop (1 : Int).toNat), bt307.2.1, bt307.2.2)) else (none)) else (some (bt296.1, t304, bt307.2.1, bt307.2.2))) else (if bt307.1 = 2 then (if (t304.length : Int) > 0 then ((spec_l01Below.f s0_0 bt307.2.1 bt307.2.2 (t304.length : Int)).bind fun bt322 => (if 0 ≤ bt322.1 then (if bt322.1 < (t304.length : Int) then (some (bt296.1, (t304.set (bt322.1 : Int).toNat (⟨(rd_T31 t304 bt322.1).f0, (⟨#[10]⟩ : ByteArray)⟩ : S31)), bt322.2.1, bt322.2.2)) else (none)) else (none))) else (some (bt296.1, t304, bt307.2.1, bt307.2.2))) else (if bt307.1 = 3 then (spec_l04Edits.l0 k bt296.1 t304 0 s0_0 bt307.2.1 bt307.2.2) else (some (bt296.1, t304, bt307.2.1, bt307.2.2))))))))
theorem spec_l04Edits.mono_l : ∀ k, (∀ y0 y1 y2 y3 y4 y5, LeO (spec_l04Edits.l0 k y0 y1 y2 y3 y4 y5) (spec_l04Edits.l0 (k + 1) y0 y1 y2 y3 y4 y5))
  | 0 => fun _ _ _ _ _ _ r h => by simp [spec_l04Edits.l0] at h
  | k + 1 => by
    have ih0 := spec_l04Edits.mono_l k
    ·intro y0 y1 y2 y3 y4 y5
     unfold spec_l04Edits.l0
     repeat' first
     | (with_reducible exact ih0 _ _ _ _ _ _)
     | (with_reducible exact spec_EditsOf.mono _ _ _)
     | (with_reducible exact spec_l04Two.mono _ _ _ _)
     | (with_reducible exact LeO.refl _)
     | (with_reducible exact LeO.none _)
     | (with_reducible refine LeO.ite ?_ ?_)
     | (with_reducible refine LeO.bind ?_ (fun _ => ?_))
     | exact ih0 _ _ _ _ _ _
     | exact spec_EditsOf.mono _ _ _
     | exact spec_l04Two.mono _ _ _ _
     | exact LeO.none _
     | refine LeO.ite ?_ ?_
     | refine LeO.bind ?_ (fun _ => ?_)
theorem spec_l04Edits.mono : ∀ a0 a1 a2 k, LeO (spec_l04Edits.f k a0 a1 a2) (spec_l04Edits.f (k + 1) a0 a1 a2) := by
  intro a0 a1 a2 k
  have ih0 := spec_l04Edits.mono_l k
  unfold spec_l04Edits.f
  repeat' first
     | (with_reducible exact ih0 _ _ _ _ _ _)
     | (with_reducible exact spec_EditsOf.mono _ _ _)
     | (with_reducible exact spec_l04Two.mono _ _ _ _)
     | (with_reducible exact LeO.refl _)
     | (with_reducible exact LeO.none _)
     | (with_reducible refine LeO.ite ?_ ?_)
     | (with_reducible refine LeO.bind ?_ (fun _ => ?_))
     | exact ih0 _ _ _ _ _ _
     | exact spec_EditsOf.mono _ _ _
     | exact spec_l04Two.mono _ _ _ _
     | exact LeO.none _
     | refine LeO.ite ?_ ?_
     | refine LeO.bind ?_ (fun _ => ?_)
set_option maxHeartbeats 8000000 in
set_option maxRecDepth 100000 in
theorem spec_l04Edits.calls (k : Nat) (g : Nat) (s0_0 : List Int) (s0_1 : Int) (s0_2 : Int) (r1 : List ByteArray) (r2 : List (S31)) (r3 : Int) (r4 : Int) (w0 w : World) (hI : IsS120 w0 w g s0_0 s0_1 s0_2) (hB : Below w0.heap.size w0 w) (h : spec_l04Edits.f k s0_0 s0_1 s0_2 = some (r1, r2, r3, r4)) :
    Calls Try.prog 53 #[.pointer (some ⟨g, 0, none⟩)] w fun e w' => ∃ v0_ v1_ : Value, e = .returned (.tuple #[v0_, v1_]) ∧ Kd.R Kd.string 9 w' w.heap.size (fun _ => True) v0_ r1 ∧ Kd.Q k31 31 w' w.heap.size (fun _ => True) v1_ r2 ∧ IsS120 w0 w' g s0_0 r3 r4 ∧ Below w0.heap.size w0 w' ∧ KeepBut w w' g none := by
  have hu31 := Try.underlying31
  have HI0 := Aside0.mk hI
  have HK := Aside0.mk (KeepBut.refl w g none)
  have HL := Aside0.mk hB.size
  clear hI
  have HW0 := Aside0.mk hB.size
  have HB := Aside0.mk hB
  clear hB
  have H : ((spec_l04Two.f k s0_0 s0_1 s0_2).bind fun bt296 => ((spec_EditsOf.f k bt296.1 bt296.2.1).bind fun t304 => ((spec_l01Below.f s0_0 bt296.2.2.1 bt296.2.2.2 24).bind fun bt307 => (if bt307.1 = 0 then ((spec_l01Below.f s0_0 bt307.2.1 bt307.2.2 5).bind fun bt310 => ((spec_l03Line.f s0_0 bt310.2.1 bt310.2.2).bind fun bt313 => (if t304.length < 5864062014805 then (some (bt296.1, (t304 ++ [(⟨bt310.1, bt313.1⟩ : S31)]), bt313.2.1, bt313.2.2)) else (none)))) else (if bt307.1 = 1 then (if (t304.length : Int) > 0 then (if 1 ≤ (t304.length : Int) then (some (bt296.1, (t304.drop (1 : Int).toNat), bt307.2.1, bt307.2.2)) else (none)) else (some (bt296.1, t304, bt307.2.1, bt307.2.2))) else (if bt307.1 = 2 then (if (t304.length : Int) > 0 then ((spec_l01Below.f s0_0 bt307.2.1 bt307.2.2 (t304.length : Int)).bind fun bt322 => (if 0 ≤ bt322.1 then (if bt322.1 < (t304.length : Int) then (some (bt296.1, (t304.set (bt322.1 : Int).toNat (⟨(rd_T31 t304 bt322.1).f0, (⟨#[10]⟩ : ByteArray)⟩ : S31)), bt322.2.1, bt322.2.2)) else (none)) else (none))) else (some (bt296.1, t304, bt307.2.1, bt307.2.2))) else (if bt307.1 = 3 then (spec_l04Edits.l0 k bt296.1 t304 0 s0_0 bt307.2.1 bt307.2.2) else (some (bt296.1, t304, bt307.2.1, bt307.2.2))))))))) = some (r1, r2, r3, r4) := h
  clear h
  replace H := Option.bind_eq_some_iff.mp H
  obtain ⟨⟨t296, t299, t302, t303⟩, A20, H⟩ := H
  replace H : ((spec_EditsOf.f k t296 t299).bind fun t304 => ((spec_l01Below.f s0_0 t302 t303 24).bind fun bt307 => (if bt307.1 = 0 then ((spec_l01Below.f s0_0 bt307.2.1 bt307.2.2 5).bind fun bt310 => ((spec_l03Line.f s0_0 bt310.2.1 bt310.2.2).bind fun bt313 => (if t304.length < 5864062014805 then (some (t296, (t304 ++ [(⟨bt310.1, bt313.1⟩ : S31)]), bt313.2.1, bt313.2.2)) else (none)))) else (if bt307.1 = 1 then (if (t304.length : Int) > 0 then (if 1 ≤ (t304.length : Int) then (some (t296, (t304.drop (1 : Int).toNat), bt307.2.1, bt307.2.2)) else (none)) else (some (t296, t304, bt307.2.1, bt307.2.2))) else (if bt307.1 = 2 then (if (t304.length : Int) > 0 then ((spec_l01Below.f s0_0 bt307.2.1 bt307.2.2 (t304.length : Int)).bind fun bt322 => (if 0 ≤ bt322.1 then (if bt322.1 < (t304.length : Int) then (some (t296, (t304.set (bt322.1 : Int).toNat (⟨(rd_T31 t304 bt322.1).f0, (⟨#[10]⟩ : ByteArray)⟩ : S31)), bt322.2.1, bt322.2.2)) else (none)) else (none))) else (some (t296, t304, bt307.2.1, bt307.2.2))) else (if bt307.1 = 3 then (spec_l04Edits.l0 k t296 t304 0 s0_0 bt307.2.1 bt307.2.2) else (some (t296, t304, bt307.2.1, bt307.2.2)))))))) = some (r1, r2, r3, r4) := H
  have A2 := Aside0.mk A20
  clear A20
  replace H := Option.bind_eq_some_iff.mp H
  obtain ⟨t304, A30, H⟩ := H
  replace H : ((spec_l01Below.f s0_0 t302 t303 24).bind fun bt307 => (if bt307.1 = 0 then ((spec_l01Below.f s0_0 bt307.2.1 bt307.2.2 5).bind fun bt310 => ((spec_l03Line.f s0_0 bt310.2.1 bt310.2.2).bind fun bt313 => (if t304.length < 5864062014805 then (some (t296, (t304 ++ [(⟨bt310.1, bt313.1⟩ : S31)]), bt313.2.1, bt313.2.2)) else (none)))) else (if bt307.1 = 1 then (if (t304.length : Int) > 0 then (if 1 ≤ (t304.length : Int) then (some (t296, (t304.drop (1 : Int).toNat), bt307.2.1, bt307.2.2)) else (none)) else (some (t296, t304, bt307.2.1, bt307.2.2))) else (if bt307.1 = 2 then (if (t304.length : Int) > 0 then ((spec_l01Below.f s0_0 bt307.2.1 bt307.2.2 (t304.length : Int)).bind fun bt322 => (if 0 ≤ bt322.1 then (if bt322.1 < (t304.length : Int) then (some (t296, (t304.set (bt322.1 : Int).toNat (⟨(rd_T31 t304 bt322.1).f0, (⟨#[10]⟩ : ByteArray)⟩ : S31)), bt322.2.1, bt322.2.2)) else (none)) else (none))) else (some (t296, t304, bt307.2.1, bt307.2.2))) else (if bt307.1 = 3 then (spec_l04Edits.l0 k t296 t304 0 s0_0 bt307.2.1 bt307.2.2) else (some (t296, t304, bt307.2.1, bt307.2.2))))))) = some (r1, r2, r3, r4) := H
  have A3 := Aside0.mk A30
  clear A30
  replace H := Option.bind_eq_some_iff.mp H
  obtain ⟨⟨t307, t308, t309⟩, A40, H⟩ := H
  replace H : (if t307 = 0 then ((spec_l01Below.f s0_0 t308 t309 5).bind fun bt310 => ((spec_l03Line.f s0_0 bt310.2.1 bt310.2.2).bind fun bt313 => (if t304.length < 5864062014805 then (some (t296, (t304 ++ [(⟨bt310.1, bt313.1⟩ : S31)]), bt313.2.1, bt313.2.2)) else (none)))) else (if t307 = 1 then (if (t304.length : Int) > 0 then (if 1 ≤ (t304.length : Int) then (some (t296, (t304.drop (1 : Int).toNat), t308, t309)) else (none)) else (some (t296, t304, t308, t309))) else (if t307 = 2 then (if (t304.length : Int) > 0 then ((spec_l01Below.f s0_0 t308 t309 (t304.length : Int)).bind fun bt322 => (if 0 ≤ bt322.1 then (if bt322.1 < (t304.length : Int) then (some (t296, (t304.set (bt322.1 : Int).toNat (⟨(rd_T31 t304 bt322.1).f0, (⟨#[10]⟩ : ByteArray)⟩ : S31)), bt322.2.1, bt322.2.2)) else (none)) else (none))) else (some (t296, t304, t308, t309))) else (if t307 = 3 then (spec_l04Edits.l0 k t296 t304 0 s0_0 t308 t309) else (some (t296, t304, t308, t309)))))) = some (r1, r2, r3, r4) := H
  have A4 := Aside0.mk A40
  clear A40
  by_cases c5 : t307 = 0
  · rw [if_pos c5] at H
    have c5b0 : (t307 == 0) = true := beq_iff_eq.mpr c5
    have c5b1 : (t307 != 0) = false := bne_eq_false_iff_eq.mpr c5
    clear c5
    replace H := Option.bind_eq_some_iff.mp H
    obtain ⟨⟨t310, t311, t312⟩, A60, H⟩ := H
    replace H : ((spec_l03Line.f s0_0 t311 t312).bind fun bt313 => (if t304.length < 5864062014805 then (some (t296, (t304 ++ [(⟨t310, bt313.1⟩ : S31)]), bt313.2.1, bt313.2.2)) else (none))) = some (r1, r2, r3, r4) := H
    have A6 := Aside0.mk A60
    clear A60
    replace H := Option.bind_eq_some_iff.mp H
    obtain ⟨⟨t313, t314, t315⟩, A70, H⟩ := H
    replace H : (if t304.length < 5864062014805 then (some (t296, (t304 ++ [(⟨t310, t313⟩ : S31)]), t314, t315)) else (none)) = some (r1, r2, r3, r4) := H
    have A7 := Aside0.mk A70
    clear A70
    by_cases c8 : t304.length < 5864062014805
    case neg =>
     rw [if_neg c8] at H
     exact absurd H (by simp)
    rw [if_pos c8] at H
    have LMc8 := Aside0.mk c8
    clear c8
    obtain ⟨y316, hy316⟩ : ∃ y_ : List (S31), y_ = (t304 ++ [(⟨t310, t313⟩ : S31)]) := ⟨_, rfl⟩
    replace H : (some (t296, y316, t314, t315)) = some (r1, r2, r3, r4) := by first | (rw [hy316]; with_reducible exact H) | (have H2_ := (Option.bind_some _ _).symm.trans H; rw [hy316]; with_reducible exact H2_) | (have H2_ := (Option.bind_some _ _).symm.trans H; with_reducible exact H2_) | with_reducible exact H | (rw [hy316]; exact H) | exact H
    have Ny316 := Aside0.mk hy316
    clear hy316
    simp only [Option.some.injEq, Prod.mk.injEq] at H
    obtain ⟨rfl, rfl, rfl, rfl⟩ := H
    go_enter Try.func53, Try.ntmps53
    go_wp2_with (first | ((with_reducible refine gate_callee (f := 101) rfl ?_); refine goesL_ (some 10) rfl rfl Try.func101 (by kernel_rfl) rfl #[.pointer (some ⟨g, 0, none⟩)] rfl q5_ ?_; (with_reducible refine (spec_l04Two.calls k g s0_0 s0_1 s0_2 t296 t299 t302 t303 w0 _ ?side1 ?side2 A2.out).mono ?_); (case side1 => exact q3_); (case side2 => exact q4_); rintro e w9 ⟨v297, v300, rfl, ho0, ho1, hi, hb, hk⟩; refine ⟨_, rfl, ?_⟩; have n0_ := Aside0.mk (Kd.R_lower ho0 (keep_size (w := w) (g := g) (row := none) q1_)); have n1_ := Aside0.mk (Kd.R_lower ho1 (keep_size (w := w) (g := g) (row := none) q1_)); have n2_ := Aside0.mk (KeepBut.trans q1_ hk (.inl rfl)); have n3_ := Aside0.mk (hb); have n4_ := Aside0.mk (hi); clear HK; clear HB; clear HI0; have HO298 := n0_; have HO301 := n1_; have HK := n2_; have HB := n3_; have HI0 := n4_; clear n0_ n1_ n2_ n3_ n4_; (try clear hb); (try clear hb2); (try clear hk); (try clear hi); (try clear ho0); (try clear ho1); obtain ⟨Ao10, co10, eo10⟩ := Kd.R_slice HO298.out; subst eo10; obtain ⟨Ao11, co11, eo11⟩ := Kd.R_slice HO301.out; subst eo11) | ((with_reducible refine gate_callee (f := 102) rfl ?_); refine goesL_ (some 15) rfl rfl Try.func102 (by kernel_rfl) rfl #[.slice Ao10 t296.length co10, .slice Ao11 t299.length co11] rfl q5_ ?_; (with_reducible refine (spec_EditsOf.calls k _ _ t296 _ _ t299 t304 _ ?side1 ?side2 ?side3 ?side4 A3.out).mono ?_); (case side1 => exact q21_); (case side2 => exact (Kd.R_reads' HO298.out).2.1); (case side3 => exact q22_); (case side4 => exact (Kd.R_reads' HO301.out).2.1); rintro e w12 ⟨v305, rfl, ho0, hb⟩; refine ⟨_, rfl, ?_⟩; have n0_ := Aside0.mk (Kd.R_below q11_ hb); have n1_ := Aside0.mk (Kd.R_below q12_ hb); have n2_ := Aside0.mk (Kd.R_lower ho0 (keep_size (w := w) (g := g) (row := none) q1_)); have n3_ := Aside0.mk (IsS120.below q3_ hb); have n4_ := Aside0.mk (KeepBut.trans q1_ (KeepBut.of_below hb g none) (.inl rfl)); have n5_ := Aside0.mk (below_step q4_ hb); clear HO298; clear HO301; clear HI0; clear HK; clear HB; have HO298 := n0_; have HO301 := n1_; have HO306 := n2_; have HI0 := n3_; have HK := n4_; have HB := n5_; clear n0_ n1_ n2_ n3_ n4_ n5_; (try clear hb); (try clear hb2); (try clear hk); (try clear hi); (try clear ho0)) | ((with_reducible refine gate_callee (f := 103) rfl ?_); refine goesL_ (some 17) rfl rfl Try.func103 (by kernel_rfl) rfl #[.pointer (some ⟨g, 0, none⟩), .int .i64 24] rfl q5_ ?_; (with_reducible refine (spec_l01Below.calls g s0_0 t302 t303 24 t307 t308 t309 w0 _ ?side1 ?side2 A4.out).mono ?_); (case side1 => exact q3_); (case side2 => exact q4_); rintro e w13 ⟨rfl, hi, hb, hk⟩; refine ⟨_, rfl, ?_⟩; have n0_ := Aside0.mk (Kd.R_mono (Kd.R_keep (IsS120.apart (show IsS120 w0 _ g s0_0 t302 t303 from by repeat (first | (with_reducible first | exact HI0.out | apply IsS120.alloc | apply IsS120.drewN | apply IsS120.drew | apply IsS120.set_1 | apply IsS120.set_2) | exact HI0.out)) q11_ (by decide)) hk (fun _ h => h.2)) (fun _ h => h.1)); have n1_ := Aside0.mk (Kd.R_mono (Kd.R_keep (IsS120.apart (show IsS120 w0 _ g s0_0 t302 t303 from by repeat (first | (with_reducible first | exact HI0.out | apply IsS120.alloc | apply IsS120.drewN | apply IsS120.drew | apply IsS120.set_1 | apply IsS120.set_2) | exact HI0.out)) q12_ (by decide)) hk (fun _ h => h.2)) (fun _ h => h.1)); have n2_ := Aside0.mk (Kd.R_mono (Kd.R_keep (IsS120.apart (show IsS120 w0 _ g s0_0 t302 t303 from by repeat (first | (with_reducible first | exact HI0.out | apply IsS120.alloc | apply IsS120.drewN | apply IsS120.drew | apply IsS120.set_1 | apply IsS120.set_2) | exact HI0.out)) q13_ (by decide)) hk (fun _ h => h.2)) (fun _ h => h.1)); have n3_ := Aside0.mk (KeepBut.trans q1_ hk (.inl rfl)); have n4_ := Aside0.mk (hb); have n5_ := Aside0.mk (hi); clear HO298; clear HO301; clear HO306; clear HK; clear HB; clear HI0; have HO298 := n0_; have HO301 := n1_; have HO306 := n2_; have HK := n3_; have HB := n4_; have HI0 := n5_; clear n0_ n1_ n2_ n3_ n4_ n5_; (try clear hb); (try clear hb2); (try clear hk); (try clear hi)) | ((with_reducible refine gate_callee (f := 103) rfl ?_); refine goesL_ (some 22) rfl rfl Try.func103 (by kernel_rfl) rfl #[.pointer (some ⟨g, 0, none⟩), .int .i64 5] rfl q5_ ?_; (with_reducible refine (spec_l01Below.calls g s0_0 t308 t309 5 t310 t311 t312 w0 _ ?side1 ?side2 A6.out).mono ?_); (case side1 => exact q3_); (case side2 => exact q4_); rintro e w14 ⟨rfl, hi, hb, hk⟩; refine ⟨_, rfl, ?_⟩; have n0_ := Aside0.mk (Kd.R_mono (Kd.R_keep (IsS120.apart (show IsS120 w0 _ g s0_0 t308 t309 from by repeat (first | (with_reducible first | exact HI0.out | apply IsS120.alloc | apply IsS120.drewN | apply IsS120.drew | apply IsS120.set_1 | apply IsS120.set_2) | exact HI0.out)) q11_ (by decide)) hk (fun _ h => h.2)) (fun _ h => h.1)); have n1_ := Aside0.mk (Kd.R_mono (Kd.R_keep (IsS120.apart (show IsS120 w0 _ g s0_0 t308 t309 from by repeat (first | (with_reducible first | exact HI0.out | apply IsS120.alloc | apply IsS120.drewN | apply IsS120.drew | apply IsS120.set_1 | apply IsS120.set_2) | exact HI0.out)) q12_ (by decide)) hk (fun _ h => h.2)) (fun _ h => h.1)); have n2_ := Aside0.mk (Kd.R_mono (Kd.R_keep (IsS120.apart (show IsS120 w0 _ g s0_0 t308 t309 from by repeat (first | (with_reducible first | exact HI0.out | apply IsS120.alloc | apply IsS120.drewN | apply IsS120.drew | apply IsS120.set_1 | apply IsS120.set_2) | exact HI0.out)) q13_ (by decide)) hk (fun _ h => h.2)) (fun _ h => h.1)); have n3_ := Aside0.mk (KeepBut.trans q1_ hk (.inl rfl)); have n4_ := Aside0.mk (hb); have n5_ := Aside0.mk (hi); clear HO298; clear HO301; clear HO306; clear HK; clear HB; clear HI0; have HO298 := n0_; have HO301 := n1_; have HO306 := n2_; have HK := n3_; have HB := n4_; have HI0 := n5_; clear n0_ n1_ n2_ n3_ n4_ n5_; (try clear hb); (try clear hb2); (try clear hk); (try clear hi)) | ((with_reducible refine gate_callee (f := 104) rfl ?_); refine goesL_ (some 24) rfl rfl Try.func104 (by kernel_rfl) rfl #[.pointer (some ⟨g, 0, none⟩)] rfl q5_ ?_; (with_reducible refine (spec_l03Line.calls g s0_0 t311 t312 t313 t314 t315 w0 _ ?side1 ?side2 A7.out).mono ?_); (case side1 => exact q3_); (case side2 => exact q4_); rintro e w15 ⟨rfl, hi, hb, hk⟩; refine ⟨_, rfl, ?_⟩; have n0_ := Aside0.mk (Kd.R_mono (Kd.R_keep (IsS120.apart (show IsS120 w0 _ g s0_0 t311 t312 from by repeat (first | (with_reducible first | exact HI0.out | apply IsS120.alloc | apply IsS120.drewN | apply IsS120.drew | apply IsS120.set_1 | apply IsS120.set_2) | exact HI0.out)) q11_ (by decide)) hk (fun _ h => h.2)) (fun _ h => h.1)); have n1_ := Aside0.mk (Kd.R_mono (Kd.R_keep (IsS120.apart (show IsS120 w0 _ g s0_0 t311 t312 from by repeat (first | (with_reducible first | exact HI0.out | apply IsS120.alloc | apply IsS120.drewN | apply IsS120.drew | apply IsS120.set_1 | apply IsS120.set_2) | exact HI0.out)) q12_ (by decide)) hk (fun _ h => h.2)) (fun _ h => h.1)); have n2_ := Aside0.mk (Kd.R_mono (Kd.R_keep (IsS120.apart (show IsS120 w0 _ g s0_0 t311 t312 from by repeat (first | (with_reducible first | exact HI0.out | apply IsS120.alloc | apply IsS120.drewN | apply IsS120.drew | apply IsS120.set_1 | apply IsS120.set_2) | exact HI0.out)) q13_ (by decide)) hk (fun _ h => h.2)) (fun _ h => h.1)); have n3_ := Aside0.mk (KeepBut.trans q1_ hk (.inl rfl)); have n4_ := Aside0.mk (hb); have n5_ := Aside0.mk (hi); clear HO298; clear HO301; clear HO306; clear HK; clear HB; clear HI0; have HO298 := n0_; have HO301 := n1_; have HO306 := n2_; have HK := n3_; have HB := n4_; have HI0 := n5_; clear n0_ n1_ n2_ n3_ n4_ n5_; (try clear hb); (try clear hb2); (try clear hk); (try clear hi)) | ((with_reducible refine gate_builtin (b := .append) (xs := #[.tmp 20, .tmp 26]) rfl ?_); at_builtin; refine Kd.R_append k31 w.heap.size rfl (.tmp 20) (.tmp 26) 25 31 (.agg #[(.int .i64 0), (.string ⟨#[]⟩)]) 24 rfl Try.underlying25 info31 rfl (by decide) (by omega) v305 t304 (⟨t310, t313⟩ : S31) [.int .i64 t310, .string t313] (fun _ => True) (fun _ => False) rfl rfl ?aP (fun _ hk => hk.elim) ?aF ?aO (Below.refl _ _) ?aS ?aL ?_; (case aP => exact k31_mkM _ _ _ (⟨t310, t313⟩ : S31)); (case aF => exact (fun _ _ => trivial)); (case aO => exact q13_); (case aS => exact (keep_size (w := w) (g := g) (row := none) q1_)); (case aL => have := LMc8.out; omega); intro v317 w16 ho hb hg hat; rw [← Ny316.out] at ho; have n0_ := Aside0.mk (IsS120.grown q3_ hg (IsS120.own_ne HI0.out HO306.out (by decide))); have n1_ := Aside0.mk (Kd.R_over' q11_ (Kd.R_typed q13_) (by decide) hg); have n2_ := Aside0.mk (Kd.R_over' q12_ (Kd.R_typed q13_) (by decide) hg); have n3_ := Aside0.mk (below_weaken q4_ HL.out hb); have n4_ := Aside0.mk (KeepBut.trans q1_ (KeepBut.of_grown hg g) (Kd.R_base2 HO306.out)); have n5_ := Aside0.mk (ho); clear HI0; clear HO298; clear HO301; clear HB; clear HK; clear HO306; have HI0 := n0_; have HO298 := n1_; have HO301 := n2_; have HB := n3_; have HK := n4_; have HO318 := n5_; clear n0_ n1_ n2_ n3_ n4_ n5_; clear ho hb hg hat))
    go_ret2
    exact ⟨_, _, by first | rfl | (simp [errW_none, errW_some] <;> rfl) | (simp [*, errW_none, errW_some] <;> rfl), by (with_reducible repeat (first | apply Kd.R_alloc | apply Kd.R_drewN | apply Kd.R_drew)); exact Kd.R_mono HO298.out (fun _ hk => trivial), Kd.Q_of_R (by (with_reducible repeat (first | apply Kd.R_alloc | apply Kd.R_drewN | apply Kd.R_drew)); exact HO318.out), by repeat (first | (with_reducible first | exact HI0.out | apply IsS120.alloc | apply IsS120.drewN | apply IsS120.drew | apply IsS120.set_1 | apply IsS120.set_2) | exact HI0.out), by repeat (first | (with_reducible first | exact HB.out | apply below_alloc | apply pw_below_drewN | apply below_drew1 | refine below_set ?_ (IsS120.ge HI0.out)) | exact HB.out), by repeat (first | (with_reducible first | exact HK.out | apply KeepBut.set_ | apply keep_drewN | apply keep_drew | apply keep_alloc) | exact HK.out)⟩
  · rw [if_neg c5] at H
    have c5b0 : (t307 == 0) = false := beq_eq_false_iff_ne.mpr c5
    have c5b1 : (t307 != 0) = true := bne_iff_ne.mpr c5
    by_cases c17 : t307 = 1
    ·rw [if_pos c17] at H
     have c17b0 : (t307 == 1) = true := beq_iff_eq.mpr c17
     have c17b1 : (t307 != 1) = false := bne_eq_false_iff_eq.mpr c17
     clear c17
     by_cases c18 : (t304.length : Int) > 0
     ·rw [if_pos c18] at H
      have c18b0 : decide (0 < (t304.length : Int)) = true := decide_eq_true c18
      have c18b1 : decide (0 < t304.length) = true := decide_eq_true (by omega)
      clear c18
      by_cases c19 : 1 ≤ (t304.length : Int)
      case neg =>
       rw [if_neg c19] at H
       exact absurd H (by simp)
      rw [if_pos c19] at H
      have c19b0 := eq_true c19
      have c19b1 : decide (1 ≤ (t304.length : Int)) = true := decide_eq_true c19
      clear c19
      obtain ⟨y319, hy319⟩ : ∃ y_ : List (S31), y_ = (t304.drop (1 : Int).toNat) := ⟨_, rfl⟩
      replace H : (some (t296, y319, t308, t309)) = some (r1, r2, r3, r4) := by first | (rw [hy319]; with_reducible exact H) | (have H2_ := (Option.bind_some _ _).symm.trans H; rw [hy319]; with_reducible exact H2_) | (have H2_ := (Option.bind_some _ _).symm.trans H; with_reducible exact H2_) | with_reducible exact H | (rw [hy319]; exact H) | exact H
      have Ny319 := Aside0.mk hy319
      clear hy319
      simp only [Option.some.injEq, Prod.mk.injEq] at H
      obtain ⟨rfl, rfl, rfl, rfl⟩ := H
      go_enter Try.func53, Try.ntmps53
      go_wp2_with (first | ((with_reducible refine gate_callee (f := 101) rfl ?_); refine goesL_ (some 10) rfl rfl Try.func101 (by kernel_rfl) rfl #[.pointer (some ⟨g, 0, none⟩)] rfl q5_ ?_; (with_reducible refine (spec_l04Two.calls k g s0_0 s0_1 s0_2 t296 t299 t302 t303 w0 _ ?side1 ?side2 A2.out).mono ?_); (case side1 => exact q3_); (case side2 => exact q4_); rintro e w20 ⟨v297, v300, rfl, ho0, ho1, hi, hb, hk⟩; refine ⟨_, rfl, ?_⟩; have n0_ := Aside0.mk (Kd.R_lower ho0 (keep_size (w := w) (g := g) (row := none) q1_)); have n1_ := Aside0.mk (Kd.R_lower ho1 (keep_size (w := w) (g := g) (row := none) q1_)); have n2_ := Aside0.mk (KeepBut.trans q1_ hk (.inl rfl)); have n3_ := Aside0.mk (hb); have n4_ := Aside0.mk (hi); clear HK; clear HB; clear HI0; have HO298 := n0_; have HO301 := n1_; have HK := n2_; have HB := n3_; have HI0 := n4_; clear n0_ n1_ n2_ n3_ n4_; (try clear hb); (try clear hb2); (try clear hk); (try clear hi); (try clear ho0); (try clear ho1); obtain ⟨Ao21, co21, eo21⟩ := Kd.R_slice HO298.out; subst eo21; obtain ⟨Ao22, co22, eo22⟩ := Kd.R_slice HO301.out; subst eo22) | ((with_reducible refine gate_callee (f := 102) rfl ?_); refine goesL_ (some 15) rfl rfl Try.func102 (by kernel_rfl) rfl #[.slice Ao21 t296.length co21, .slice Ao22 t299.length co22] rfl q5_ ?_; (with_reducible refine (spec_EditsOf.calls k _ _ t296 _ _ t299 t304 _ ?side1 ?side2 ?side3 ?side4 A3.out).mono ?_); (case side1 => exact q21_); (case side2 => exact (Kd.R_reads' HO298.out).2.1); (case side3 => exact q22_); (case side4 => exact (Kd.R_reads' HO301.out).2.1); rintro e w23 ⟨v305, rfl, ho0, hb⟩; refine ⟨_, rfl, ?_⟩; have n0_ := Aside0.mk (Kd.R_below q11_ hb); have n1_ := Aside0.mk (Kd.R_below q12_ hb); have n2_ := Aside0.mk (Kd.R_lower ho0 (keep_size (w := w) (g := g) (row := none) q1_)); have n3_ := Aside0.mk (IsS120.below q3_ hb); have n4_ := Aside0.mk (KeepBut.trans q1_ (KeepBut.of_below hb g none) (.inl rfl)); have n5_ := Aside0.mk (below_step q4_ hb); clear HO298; clear HO301; clear HI0; clear HK; clear HB; have HO298 := n0_; have HO301 := n1_; have HO306 := n2_; have HI0 := n3_; have HK := n4_; have HB := n5_; clear n0_ n1_ n2_ n3_ n4_ n5_; (try clear hb); (try clear hb2); (try clear hk); (try clear hi); (try clear ho0)) | ((with_reducible refine gate_callee (f := 103) rfl ?_); refine goesL_ (some 17) rfl rfl Try.func103 (by kernel_rfl) rfl #[.pointer (some ⟨g, 0, none⟩), .int .i64 24] rfl q5_ ?_; (with_reducible refine (spec_l01Below.calls g s0_0 t302 t303 24 t307 t308 t309 w0 _ ?side1 ?side2 A4.out).mono ?_); (case side1 => exact q3_); (case side2 => exact q4_); rintro e w24 ⟨rfl, hi, hb, hk⟩; refine ⟨_, rfl, ?_⟩; have n0_ := Aside0.mk (Kd.R_mono (Kd.R_keep (IsS120.apart (show IsS120 w0 _ g s0_0 t302 t303 from by repeat (first | (with_reducible first | exact HI0.out | apply IsS120.alloc | apply IsS120.drewN | apply IsS120.drew | apply IsS120.set_1 | apply IsS120.set_2) | exact HI0.out)) q11_ (by decide)) hk (fun _ h => h.2)) (fun _ h => h.1)); have n1_ := Aside0.mk (Kd.R_mono (Kd.R_keep (IsS120.apart (show IsS120 w0 _ g s0_0 t302 t303 from by repeat (first | (with_reducible first | exact HI0.out | apply IsS120.alloc | apply IsS120.drewN | apply IsS120.drew | apply IsS120.set_1 | apply IsS120.set_2) | exact HI0.out)) q12_ (by decide)) hk (fun _ h => h.2)) (fun _ h => h.1)); have n2_ := Aside0.mk (Kd.R_mono (Kd.R_keep (IsS120.apart (show IsS120 w0 _ g s0_0 t302 t303 from by repeat (first | (with_reducible first | exact HI0.out | apply IsS120.alloc | apply IsS120.drewN | apply IsS120.drew | apply IsS120.set_1 | apply IsS120.set_2) | exact HI0.out)) q13_ (by decide)) hk (fun _ h => h.2)) (fun _ h => h.1)); have n3_ := Aside0.mk (KeepBut.trans q1_ hk (.inl rfl)); have n4_ := Aside0.mk (hb); have n5_ := Aside0.mk (hi); clear HO298; clear HO301; clear HO306; clear HK; clear HB; clear HI0; have HO298 := n0_; have HO301 := n1_; have HO306 := n2_; have HK := n3_; have HB := n4_; have HI0 := n5_; clear n0_ n1_ n2_ n3_ n4_ n5_; (try clear hb); (try clear hb2); (try clear hk); (try clear hi); obtain ⟨Ao25, co25, eo25⟩ := Kd.R_slice HO306.out; subst eo25; have q26 : (1 : Int) ≤ ((t304.length : Int) : Int) := of_decide_eq_true q0_; obtain ⟨i026, hi026, _, hsz26, _⟩ := info_parts info31; have hcut26 := cut_from (P := Try.prog) 25 31 .i64 Try.underlying25 hi026 2 hsz26 Ao25 t304.length co25 1 (by omega) q26; have hr26 := Kd.Q_drop (k := (1 : Int).toNat) (Kd.Q_of_R HO306.out) (by omega); obtain ⟨A26, hA26⟩ : ∃ A1, A1 = (if co25 = (1 : Int).toNat then Ao25 else (Ao25 : Option Addr).map (·.add ((1 : Int).toNat * 2))) := ⟨_, rfl⟩; obtain ⟨c26, hc26⟩ : ∃ c1, c1 = co25 - (1 : Int).toNat := ⟨_, rfl⟩; have hy26 : y319.length = t304.length - (1 : Int).toNat := (by rw [Ny319.out, List.length_drop]); rw [← Ny319.out] at hr26; rw [← hy26, ← hA26, ← hc26] at hcut26; replace hr26 : Kd.Q k31 31 w24 w.heap.size (fun _ => True) (.slice A26 y319.length c26) y319 := (by rw [hA26, hc26, hy26]; exact hr26); have HE26 : Aside0 ((Value.slice A26 y319.length c26).ownBlock = (.slice Ao25 t304.length co25 : Value).ownBlock) := ⟨by rw [hA26]; split <;> (cases (Ao25 : Option Addr) <;> rfl)⟩; clear hy26 hi026 hsz26 HO306 hA26 hc26; have HO321 := Aside0.mk hr26; clear hr26; replace q26 := eq_true q26))
      go_ret2
      exact ⟨_, _, by first | rfl | (simp [errW_none, errW_some] <;> rfl) | (simp [*, errW_none, errW_some] <;> rfl), by (with_reducible repeat (first | apply Kd.R_alloc | apply Kd.R_drewN | apply Kd.R_drew)); exact Kd.R_mono HO298.out (fun _ hk => trivial), by (with_reducible repeat (first | apply Kd.Q_alloc | apply Kd.Q_drewN | apply Kd.Q_drew)); exact HO321.out, by repeat (first | (with_reducible first | exact HI0.out | apply IsS120.alloc | apply IsS120.drewN | apply IsS120.drew | apply IsS120.set_1 | apply IsS120.set_2) | exact HI0.out), by repeat (first | (with_reducible first | exact HB.out | apply below_alloc | apply pw_below_drewN | apply below_drew1 | refine below_set ?_ (IsS120.ge HI0.out)) | exact HB.out), by repeat (first | (with_reducible first | exact HK.out | apply KeepBut.set_ | apply keep_drewN | apply keep_drew | apply keep_alloc) | exact HK.out)⟩
     ·rw [if_neg c18] at H
      have c18b0 : decide (0 < (t304.length : Int)) = false := decide_eq_false c18
      have c18b1 : decide (0 < t304.length) = false := decide_eq_false (by omega)
      clear c18
      simp only [Option.some.injEq, Prod.mk.injEq] at H
      obtain ⟨rfl, rfl, rfl, rfl⟩ := H
      go_enter Try.func53, Try.ntmps53
      go_wp2_with (first | ((with_reducible refine gate_callee (f := 101) rfl ?_); refine goesL_ (some 10) rfl rfl Try.func101 (by kernel_rfl) rfl #[.pointer (some ⟨g, 0, none⟩)] rfl q5_ ?_; (with_reducible refine (spec_l04Two.calls k g s0_0 s0_1 s0_2 t296 t299 t302 t303 w0 _ ?side1 ?side2 A2.out).mono ?_); (case side1 => exact q3_); (case side2 => exact q4_); rintro e w27 ⟨v297, v300, rfl, ho0, ho1, hi, hb, hk⟩; refine ⟨_, rfl, ?_⟩; have n0_ := Aside0.mk (Kd.R_lower ho0 (keep_size (w := w) (g := g) (row := none) q1_)); have n1_ := Aside0.mk (Kd.R_lower ho1 (keep_size (w := w) (g := g) (row := none) q1_)); have n2_ := Aside0.mk (KeepBut.trans q1_ hk (.inl rfl)); have n3_ := Aside0.mk (hb); have n4_ := Aside0.mk (hi); clear HK; clear HB; clear HI0; have HO298 := n0_; have HO301 := n1_; have HK := n2_; have HB := n3_; have HI0 := n4_; clear n0_ n1_ n2_ n3_ n4_; (try clear hb); (try clear hb2); (try clear hk); (try clear hi); (try clear ho0); (try clear ho1); obtain ⟨Ao28, co28, eo28⟩ := Kd.R_slice HO298.out; subst eo28; obtain ⟨Ao29, co29, eo29⟩ := Kd.R_slice HO301.out; subst eo29) | ((with_reducible refine gate_callee (f := 102) rfl ?_); refine goesL_ (some 15) rfl rfl Try.func102 (by kernel_rfl) rfl #[.slice Ao28 t296.length co28, .slice Ao29 t299.length co29] rfl q5_ ?_; (with_reducible refine (spec_EditsOf.calls k _ _ t296 _ _ t299 t304 _ ?side1 ?side2 ?side3 ?side4 A3.out).mono ?_); (case side1 => exact q21_); (case side2 => exact (Kd.R_reads' HO298.out).2.1); (case side3 => exact q22_); (case side4 => exact (Kd.R_reads' HO301.out).2.1); rintro e w30 ⟨v305, rfl, ho0, hb⟩; refine ⟨_, rfl, ?_⟩; have n0_ := Aside0.mk (Kd.R_below q11_ hb); have n1_ := Aside0.mk (Kd.R_below q12_ hb); have n2_ := Aside0.mk (Kd.R_lower ho0 (keep_size (w := w) (g := g) (row := none) q1_)); have n3_ := Aside0.mk (IsS120.below q3_ hb); have n4_ := Aside0.mk (KeepBut.trans q1_ (KeepBut.of_below hb g none) (.inl rfl)); have n5_ := Aside0.mk (below_step q4_ hb); clear HO298; clear HO301; clear HI0; clear HK; clear HB; have HO298 := n0_; have HO301 := n1_; have HO306 := n2_; have HI0 := n3_; have HK := n4_; have HB := n5_; clear n0_ n1_ n2_ n3_ n4_ n5_; (try clear hb); (try clear hb2); (try clear hk); (try clear hi); (try clear ho0)) | ((with_reducible refine gate_callee (f := 103) rfl ?_); refine goesL_ (some 17) rfl rfl Try.func103 (by kernel_rfl) rfl #[.pointer (some ⟨g, 0, none⟩), .int .i64 24] rfl q5_ ?_; (with_reducible refine (spec_l01Below.calls g s0_0 t302 t303 24 t307 t308 t309 w0 _ ?side1 ?side2 A4.out).mono ?_); (case side1 => exact q3_); (case side2 => exact q4_); rintro e w31 ⟨rfl, hi, hb, hk⟩; refine ⟨_, rfl, ?_⟩; have n0_ := Aside0.mk (Kd.R_mono (Kd.R_keep (IsS120.apart (show IsS120 w0 _ g s0_0 t302 t303 from by repeat (first | (with_reducible first | exact HI0.out | apply IsS120.alloc | apply IsS120.drewN | apply IsS120.drew | apply IsS120.set_1 | apply IsS120.set_2) | exact HI0.out)) q11_ (by decide)) hk (fun _ h => h.2)) (fun _ h => h.1)); have n1_ := Aside0.mk (Kd.R_mono (Kd.R_keep (IsS120.apart (show IsS120 w0 _ g s0_0 t302 t303 from by repeat (first | (with_reducible first | exact HI0.out | apply IsS120.alloc | apply IsS120.drewN | apply IsS120.drew | apply IsS120.set_1 | apply IsS120.set_2) | exact HI0.out)) q12_ (by decide)) hk (fun _ h => h.2)) (fun _ h => h.1)); have n2_ := Aside0.mk (Kd.R_mono (Kd.R_keep (IsS120.apart (show IsS120 w0 _ g s0_0 t302 t303 from by repeat (first | (with_reducible first | exact HI0.out | apply IsS120.alloc | apply IsS120.drewN | apply IsS120.drew | apply IsS120.set_1 | apply IsS120.set_2) | exact HI0.out)) q13_ (by decide)) hk (fun _ h => h.2)) (fun _ h => h.1)); have n3_ := Aside0.mk (KeepBut.trans q1_ hk (.inl rfl)); have n4_ := Aside0.mk (hb); have n5_ := Aside0.mk (hi); clear HO298; clear HO301; clear HO306; clear HK; clear HB; clear HI0; have HO298 := n0_; have HO301 := n1_; have HO306 := n2_; have HK := n3_; have HB := n4_; have HI0 := n5_; clear n0_ n1_ n2_ n3_ n4_ n5_; (try clear hb); (try clear hb2); (try clear hk); (try clear hi); obtain ⟨Ao32, co32, eo32⟩ := Kd.R_slice HO306.out; subst eo32))
      go_ret2
      exact ⟨_, _, by first | rfl | (simp [errW_none, errW_some] <;> rfl) | (simp [*, errW_none, errW_some] <;> rfl), by (with_reducible repeat (first | apply Kd.R_alloc | apply Kd.R_drewN | apply Kd.R_drew)); exact Kd.R_mono HO298.out (fun _ hk => trivial), Kd.Q_of_R q13_, by repeat (first | (with_reducible first | exact HI0.out | apply IsS120.alloc | apply IsS120.drewN | apply IsS120.drew | apply IsS120.set_1 | apply IsS120.set_2) | exact HI0.out), by repeat (first | (with_reducible first | exact HB.out | apply below_alloc | apply pw_below_drewN | apply below_drew1 | refine below_set ?_ (IsS120.ge HI0.out)) | exact HB.out), by repeat (first | (with_reducible first | exact HK.out | apply KeepBut.set_ | apply keep_drewN | apply keep_drew | apply keep_alloc) | exact HK.out)⟩
    ·rw [if_neg c17] at H
     have c17b0 : (t307 == 1) = false := beq_eq_false_iff_ne.mpr c17
     have c17b1 : (t307 != 1) = true := bne_iff_ne.mpr c17
     by_cases c33 : t307 = 2
     ·rw [if_pos c33] at H
      have c33b0 : (t307 == 2) = true := beq_iff_eq.mpr c33
      have c33b1 : (t307 != 2) = false := bne_eq_false_iff_eq.mpr c33
      clear c33
      by_cases c34 : (t304.length : Int) > 0
      ·rw [if_pos c34] at H
       have c34b0 : decide (0 < (t304.length : Int)) = true := decide_eq_true c34
       have c34b1 : decide (0 < t304.length) = true := decide_eq_true (by omega)
       clear c34
       replace H := Option.bind_eq_some_iff.mp H
       obtain ⟨⟨t322, t323, t324⟩, A350, H⟩ := H
       replace H : (if 0 ≤ t322 then (if t322 < (t304.length : Int) then (some (t296, (t304.set (t322 : Int).toNat (⟨(rd_T31 t304 t322).f0, (⟨#[10]⟩ : ByteArray)⟩ : S31)), t323, t324)) else (none)) else (none)) = some (r1, r2, r3, r4) := H
       have A35 := Aside0.mk A350
       clear A350
       by_cases c36 : 0 ≤ t322
       case neg =>
        rw [if_neg c36] at H
        exact absurd H (by simp)
       rw [if_pos c36] at H
       have c36b0 : decide (0 ≤ t322) = true := decide_eq_true c36
       clear c36
       by_cases c37 : t322 < (t304.length : Int)
       case neg =>
        rw [if_neg c37] at H
        exact absurd H (by simp)
       rw [if_pos c37] at H
       have c37b0 : decide (t322 < (t304.length : Int)) = true := decide_eq_true c37
       clear c37
       obtain ⟨y325, hy325⟩ : ∃ y_ : List (S31), y_ = (t304.set (t322 : Int).toNat (⟨(rd_T31 t304 t322).f0, (⟨#[10]⟩ : ByteArray)⟩ : S31)) := ⟨_, rfl⟩
       replace H : (some (t296, y325, t323, t324)) = some (r1, r2, r3, r4) := by first | (rw [hy325]; with_reducible exact H) | (have H2_ := (Option.bind_some _ _).symm.trans H; rw [hy325]; with_reducible exact H2_) | (have H2_ := (Option.bind_some _ _).symm.trans H; with_reducible exact H2_) | with_reducible exact H | (rw [hy325]; exact H) | exact H
       have Ny325 := Aside0.mk hy325
       clear hy325
       simp only [Option.some.injEq, Prod.mk.injEq] at H
       obtain ⟨rfl, rfl, rfl, rfl⟩ := H
       go_enter Try.func53, Try.ntmps53
       go_wp2_with (first | ((with_reducible refine gate_callee (f := 101) rfl ?_); refine goesL_ (some 10) rfl rfl Try.func101 (by kernel_rfl) rfl #[.pointer (some ⟨g, 0, none⟩)] rfl q5_ ?_; (with_reducible refine (spec_l04Two.calls k g s0_0 s0_1 s0_2 t296 t299 t302 t303 w0 _ ?side1 ?side2 A2.out).mono ?_); (case side1 => exact q3_); (case side2 => exact q4_); rintro e w39 ⟨v297, v300, rfl, ho0, ho1, hi, hb, hk⟩; refine ⟨_, rfl, ?_⟩; have n0_ := Aside0.mk (Kd.R_lower ho0 (keep_size (w := w) (g := g) (row := none) q1_)); have n1_ := Aside0.mk (Kd.R_lower ho1 (keep_size (w := w) (g := g) (row := none) q1_)); have n2_ := Aside0.mk (KeepBut.trans q1_ hk (.inl rfl)); have n3_ := Aside0.mk (hb); have n4_ := Aside0.mk (hi); clear HK; clear HB; clear HI0; have HO298 := n0_; have HO301 := n1_; have HK := n2_; have HB := n3_; have HI0 := n4_; clear n0_ n1_ n2_ n3_ n4_; (try clear hb); (try clear hb2); (try clear hk); (try clear hi); (try clear ho0); (try clear ho1); obtain ⟨Ao40, co40, eo40⟩ := Kd.R_slice HO298.out; subst eo40; obtain ⟨Ao41, co41, eo41⟩ := Kd.R_slice HO301.out; subst eo41) | ((with_reducible refine gate_callee (f := 102) rfl ?_); refine goesL_ (some 15) rfl rfl Try.func102 (by kernel_rfl) rfl #[.slice Ao40 t296.length co40, .slice Ao41 t299.length co41] rfl q5_ ?_; (with_reducible refine (spec_EditsOf.calls k _ _ t296 _ _ t299 t304 _ ?side1 ?side2 ?side3 ?side4 A3.out).mono ?_); (case side1 => exact q21_); (case side2 => exact (Kd.R_reads' HO298.out).2.1); (case side3 => exact q22_); (case side4 => exact (Kd.R_reads' HO301.out).2.1); rintro e w42 ⟨v305, rfl, ho0, hb⟩; refine ⟨_, rfl, ?_⟩; have n0_ := Aside0.mk (Kd.R_below q11_ hb); have n1_ := Aside0.mk (Kd.R_below q12_ hb); have n2_ := Aside0.mk (Kd.R_lower ho0 (keep_size (w := w) (g := g) (row := none) q1_)); have n3_ := Aside0.mk (IsS120.below q3_ hb); have n4_ := Aside0.mk (KeepBut.trans q1_ (KeepBut.of_below hb g none) (.inl rfl)); have n5_ := Aside0.mk (below_step q4_ hb); clear HO298; clear HO301; clear HI0; clear HK; clear HB; have HO298 := n0_; have HO301 := n1_; have HO306 := n2_; have HI0 := n3_; have HK := n4_; have HB := n5_; clear n0_ n1_ n2_ n3_ n4_ n5_; (try clear hb); (try clear hb2); (try clear hk); (try clear hi); (try clear ho0)) | ((with_reducible refine gate_callee (f := 103) rfl ?_); refine goesL_ (some 17) rfl rfl Try.func103 (by kernel_rfl) rfl #[.pointer (some ⟨g, 0, none⟩), .int .i64 24] rfl q5_ ?_; (with_reducible refine (spec_l01Below.calls g s0_0 t302 t303 24 t307 t308 t309 w0 _ ?side1 ?side2 A4.out).mono ?_); (case side1 => exact q3_); (case side2 => exact q4_); rintro e w43 ⟨rfl, hi, hb, hk⟩; refine ⟨_, rfl, ?_⟩; have n0_ := Aside0.mk (Kd.R_mono (Kd.R_keep (IsS120.apart (show IsS120 w0 _ g s0_0 t302 t303 from by repeat (first | (with_reducible first | exact HI0.out | apply IsS120.alloc | apply IsS120.drewN | apply IsS120.drew | apply IsS120.set_1 | apply IsS120.set_2) | exact HI0.out)) q11_ (by decide)) hk (fun _ h => h.2)) (fun _ h => h.1)); have n1_ := Aside0.mk (Kd.R_mono (Kd.R_keep (IsS120.apart (show IsS120 w0 _ g s0_0 t302 t303 from by repeat (first | (with_reducible first | exact HI0.out | apply IsS120.alloc | apply IsS120.drewN | apply IsS120.drew | apply IsS120.set_1 | apply IsS120.set_2) | exact HI0.out)) q12_ (by decide)) hk (fun _ h => h.2)) (fun _ h => h.1)); have n2_ := Aside0.mk (Kd.R_mono (Kd.R_keep (IsS120.apart (show IsS120 w0 _ g s0_0 t302 t303 from by repeat (first | (with_reducible first | exact HI0.out | apply IsS120.alloc | apply IsS120.drewN | apply IsS120.drew | apply IsS120.set_1 | apply IsS120.set_2) | exact HI0.out)) q13_ (by decide)) hk (fun _ h => h.2)) (fun _ h => h.1)); have n3_ := Aside0.mk (KeepBut.trans q1_ hk (.inl rfl)); have n4_ := Aside0.mk (hb); have n5_ := Aside0.mk (hi); clear HO298; clear HO301; clear HO306; clear HK; clear HB; clear HI0; have HO298 := n0_; have HO301 := n1_; have HO306 := n2_; have HK := n3_; have HB := n4_; have HI0 := n5_; clear n0_ n1_ n2_ n3_ n4_ n5_; (try clear hb); (try clear hb2); (try clear hk); (try clear hi); obtain ⟨Ao44, co44, eo44⟩ := Kd.R_slice HO306.out; subst eo44) | ((with_reducible refine gate_callee (f := 103) rfl ?_); refine goesL_ (some 44) rfl rfl Try.func103 (by kernel_rfl) rfl #[.pointer (some ⟨g, 0, none⟩), .int .i64 (t304.length : Int)] rfl q5_ ?_; (with_reducible refine (spec_l01Below.calls g s0_0 t308 t309 (t304.length : Int) t322 t323 t324 w0 _ ?side1 ?side2 A35.out).mono ?_); (case side1 => exact q3_); (case side2 => exact q4_); rintro e w45 ⟨rfl, hi, hb, hk⟩; refine ⟨_, rfl, ?_⟩; have n0_ := Aside0.mk (Kd.R_mono (Kd.R_keep (IsS120.apart (show IsS120 w0 _ g s0_0 t308 t309 from by repeat (first | (with_reducible first | exact HI0.out | apply IsS120.alloc | apply IsS120.drewN | apply IsS120.drew | apply IsS120.set_1 | apply IsS120.set_2) | exact HI0.out)) q11_ (by decide)) hk (fun _ h => h.2)) (fun _ h => h.1)); have n1_ := Aside0.mk (Kd.R_mono (Kd.R_keep (IsS120.apart (show IsS120 w0 _ g s0_0 t308 t309 from by repeat (first | (with_reducible first | exact HI0.out | apply IsS120.alloc | apply IsS120.drewN | apply IsS120.drew | apply IsS120.set_1 | apply IsS120.set_2) | exact HI0.out)) q12_ (by decide)) hk (fun _ h => h.2)) (fun _ h => h.1)); have n2_ := Aside0.mk (Kd.R_mono (Kd.R_keep (IsS120.apart (show IsS120 w0 _ g s0_0 t308 t309 from by repeat (first | (with_reducible first | exact HI0.out | apply IsS120.alloc | apply IsS120.drewN | apply IsS120.drew | apply IsS120.set_1 | apply IsS120.set_2) | exact HI0.out)) q13_ (by decide)) hk (fun _ h => h.2)) (fun _ h => h.1)); have n3_ := Aside0.mk (KeepBut.trans q1_ hk (.inl rfl)); have n4_ := Aside0.mk (hb); have n5_ := Aside0.mk (hi); clear HO298; clear HO301; clear HO306; clear HK; clear HB; clear HI0; have HO298 := n0_; have HO301 := n1_; have HO306 := n2_; have HK := n3_; have HB := n4_; have HI0 := n5_; clear n0_ n1_ n2_ n3_ n4_ n5_; (try clear hb); (try clear hb2); (try clear hk); (try clear hi); have p38 : 0 ≤ (t322 : Int) := of_decide_eq_true q0_; have q38 : (t322 : Int) < ((t304.length : Int) : Int) := of_decide_eq_true q0_; obtain ⟨go38, co38, eo38, gb38, gl38, cl38, HG38⟩ := Kd.R_form HO306.out (by omega); (first | cases eo38 | (injection eo38 with ea_ en_ ec_; (first | subst ea_ | (injection ea_ with ea_; subst ea_)); subst ec_; clear en_)); have GB38 := Aside0.mk gb38; have GG38 := Aside0.mk HG38; clear gb38 gl38 HG38; obtain ⟨ce38, hcl38, hM38, hcc38, hfr38⟩ := Kd.R_elem HO306.out z31 (t322 : Int) p38 q38; obtain rfl := k31_openM hM38; have hx38_0 : w45.cell? ⟨go38, (t322 : Int).toNat * 2, none⟩ = some (.int .i64 ((rd_T31 t304 t322).f0)) := hcc38 0 _ rfl; have hx38_1 : w45.cell? ⟨go38, (t322 : Int).toNat * 2 + 1, none⟩ = some (.string ((rd_T31 t304 t322).f1)) := hcc38 1 _ rfl; have hf38_0 : w45.frozen? ⟨go38, (t322 : Int).toNat * 2, none⟩ = false := hfr38 0; have hf38_1 : w45.frozen? ⟨go38, (t322 : Int).toNat * 2 + 1, none⟩ = false := hfr38 1; (try clear hcl38); (try clear hcc38); (try clear hfr38); (try clear hM38); replace p38 := eq_true p38; replace q38 := eq_true q38; have HX46 := Aside0.mk (show Kd.R k31 31 w45 w.heap.size (fun _ => True) (.slice (some ⟨go38, 0, none⟩) t304.length co44) t304 from q13_); obtain ⟨ce46, hcl46, hM46, hcc46, hfr46⟩ := Kd.R_elem HX46.out z31 (t322 : Int) (of_decide_eq_true q0_) (by have h_ : (t322 : Int) < ((t304.length : Int) : Int) := of_decide_eq_true q0_; first | exact h_ | (have e_ := (Kd.R_reads' HO306.out).1; omega) | simpa using h_); obtain rfl := k31_openM hM46; have HP46 := Kd.R_seg HX46.out (t322 : Int) (of_decide_eq_true q0_) (by have h_ : (t322 : Int) < ((t304.length : Int) : Int) := of_decide_eq_true q0_; first | exact h_ | (have e_ := (Kd.R_reads' HO306.out).1; omega) | simpa using h_) (seg := [.string (⟨#[10]⟩ : ByteArray)]) (j := 1) hcl46 hcc46 (show 2 ≤ 2 from by decide) (x' := (⟨(rd_T31 t304 t322).f0, (⟨#[10]⟩ : ByteArray)⟩ : S31)) (k31_mkM _ _ _ (⟨(rd_T31 t304 t322).f0, (⟨#[10]⟩ : ByteArray)⟩ : S31) ) (fun _ hk => hk); have hx46_1 := hcc46 1 _ rfl; (try simp only [show (k31).sz = 2 from rfl, Nat.mul_one, Nat.add_zero] at hx46_1); have hf46_1 := hfr46 1; (try simp only [show (k31).sz = 2 from rfl, Nat.mul_one, Nat.add_zero] at hf46_1); (try clear hcl46); (try clear hcc46); (try clear hfr46); (try clear hM46)) | ((with_reducible refine gate_store (t := 9) (p := 46) rfl ?_); refine store_event (t := 9) (p := 46) (v := ?vo_w47) (w1 := (w45.setCell ⟨go38, (t322 : Int).toNat * 2 + 1, none⟩ (.string (⟨#[10]⟩ : ByteArray)))) ?hg ?ho ?hn ?hr ?_; (case ho => rfl); (case hg => rfl); (case hn => rfl); (case hr => first | (go_simp; done) | (go_simp; rfl)); intro w47 hw; have hg : w45.grownBy w47 (some go38) := (by rw [hw]; exact HP46.2); have hp_ : Kd.R k31 31 w47 w.heap.size (fun _ => True) (.slice (some ⟨go38, 0, none⟩) t304.length co44) y325 := (by rw [hw, Ny325.out]; exact HP46.1); clear HP46; have n0_ := Aside0.mk (IsS120.grown q3_ hg (IsS120.own_ne HI0.out HO306.out (by decide))); have n1_ := Aside0.mk (Kd.R_over' (v := (.slice (some ⟨go38, 0, none⟩) t304.length co44)) q11_ (Kd.R_typed HO306.out) (by decide) hg); have n2_ := Aside0.mk (Kd.R_over' (v := (.slice (some ⟨go38, 0, none⟩) t304.length co44)) q12_ (Kd.R_typed HO306.out) (by decide) hg); have n3_ := Aside0.mk (hp_); have n4_ := Aside0.mk ((by rw [hw]; exact below_set (HB.out) (Nat.le_trans HL.out GB38.out) : Below w0.heap.size w0 w47)); have n5_ := Aside0.mk (KeepBut.trans q1_ (KeepBut.of_grown hg g) (Kd.R_base2 HO306.out)); clear HI0; clear HO298; clear HO301; clear HO306; clear HB; clear HK; have HI0 := n0_; have HO298 := n1_; have HO301 := n2_; have HO306 := n3_; have HB := n4_; have HK := n5_; clear n0_ n1_ n2_ n3_ n4_ n5_; clear hg hw hp_))
       go_ret2
       exact ⟨_, _, by first | rfl | (simp [errW_none, errW_some] <;> rfl) | (simp [*, errW_none, errW_some] <;> rfl), by (with_reducible repeat (first | apply Kd.R_alloc | apply Kd.R_drewN | apply Kd.R_drew)); exact Kd.R_mono HO298.out (fun _ hk => trivial), Kd.Q_of_R q13_, by repeat (first | (with_reducible first | exact HI0.out | apply IsS120.alloc | apply IsS120.drewN | apply IsS120.drew | apply IsS120.set_1 | apply IsS120.set_2) | exact HI0.out), by repeat (first | (with_reducible first | exact HB.out | apply below_alloc | apply pw_below_drewN | apply below_drew1 | refine below_set ?_ (IsS120.ge HI0.out)) | exact HB.out), by repeat (first | (with_reducible first | exact HK.out | apply KeepBut.set_ | apply keep_drewN | apply keep_drew | apply keep_alloc) | exact HK.out)⟩
      ·rw [if_neg c34] at H
       have c34b0 : decide (0 < (t304.length : Int)) = false := decide_eq_false c34
       have c34b1 : decide (0 < t304.length) = false := decide_eq_false (by omega)
       clear c34
       simp only [Option.some.injEq, Prod.mk.injEq] at H
       obtain ⟨rfl, rfl, rfl, rfl⟩ := H
       go_enter Try.func53, Try.ntmps53
       go_wp2_with (first | ((with_reducible refine gate_callee (f := 101) rfl ?_); refine goesL_ (some 10) rfl rfl Try.func101 (by kernel_rfl) rfl #[.pointer (some ⟨g, 0, none⟩)] rfl q5_ ?_; (with_reducible refine (spec_l04Two.calls k g s0_0 s0_1 s0_2 t296 t299 t302 t303 w0 _ ?side1 ?side2 A2.out).mono ?_); (case side1 => exact q3_); (case side2 => exact q4_); rintro e w48 ⟨v297, v300, rfl, ho0, ho1, hi, hb, hk⟩; refine ⟨_, rfl, ?_⟩; have n0_ := Aside0.mk (Kd.R_lower ho0 (keep_size (w := w) (g := g) (row := none) q1_)); have n1_ := Aside0.mk (Kd.R_lower ho1 (keep_size (w := w) (g := g) (row := none) q1_)); have n2_ := Aside0.mk (KeepBut.trans q1_ hk (.inl rfl)); have n3_ := Aside0.mk (hb); have n4_ := Aside0.mk (hi); clear HK; clear HB; clear HI0; have HO298 := n0_; have HO301 := n1_; have HK := n2_; have HB := n3_; have HI0 := n4_; clear n0_ n1_ n2_ n3_ n4_; (try clear hb); (try clear hb2); (try clear hk); (try clear hi); (try clear ho0); (try clear ho1); obtain ⟨Ao49, co49, eo49⟩ := Kd.R_slice HO298.out; subst eo49; obtain ⟨Ao50, co50, eo50⟩ := Kd.R_slice HO301.out; subst eo50) | ((with_reducible refine gate_callee (f := 102) rfl ?_); refine goesL_ (some 15) rfl rfl Try.func102 (by kernel_rfl) rfl #[.slice Ao49 t296.length co49, .slice Ao50 t299.length co50] rfl q5_ ?_; (with_reducible refine (spec_EditsOf.calls k _ _ t296 _ _ t299 t304 _ ?side1 ?side2 ?side3 ?side4 A3.out).mono ?_); (case side1 => exact q21_); (case side2 => exact (Kd.R_reads' HO298.out).2.1); (case side3 => exact q22_); (case side4 => exact (Kd.R_reads' HO301.out).2.1); rintro e w51 ⟨v305, rfl, ho0, hb⟩; refine ⟨_, rfl, ?_⟩; have n0_ := Aside0.mk (Kd.R_below q11_ hb); have n1_ := Aside0.mk (Kd.R_below q12_ hb); have n2_ := Aside0.mk (Kd.R_lower ho0 (keep_size (w := w) (g := g) (row := none) q1_)); have n3_ := Aside0.mk (IsS120.below q3_ hb); have n4_ := Aside0.mk (KeepBut.trans q1_ (KeepBut.of_below hb g none) (.inl rfl)); have n5_ := Aside0.mk (below_step q4_ hb); clear HO298; clear HO301; clear HI0; clear HK; clear HB; have HO298 := n0_; have HO301 := n1_; have HO306 := n2_; have HI0 := n3_; have HK := n4_; have HB := n5_; clear n0_ n1_ n2_ n3_ n4_ n5_; (try clear hb); (try clear hb2); (try clear hk); (try clear hi); (try clear ho0)) | ((with_reducible refine gate_callee (f := 103) rfl ?_); refine goesL_ (some 17) rfl rfl Try.func103 (by kernel_rfl) rfl #[.pointer (some ⟨g, 0, none⟩), .int .i64 24] rfl q5_ ?_; (with_reducible refine (spec_l01Below.calls g s0_0 t302 t303 24 t307 t308 t309 w0 _ ?side1 ?side2 A4.out).mono ?_); (case side1 => exact q3_); (case side2 => exact q4_); rintro e w52 ⟨rfl, hi, hb, hk⟩; refine ⟨_, rfl, ?_⟩; have n0_ := Aside0.mk (Kd.R_mono (Kd.R_keep (IsS120.apart (show IsS120 w0 _ g s0_0 t302 t303 from by repeat (first | (with_reducible first | exact HI0.out | apply IsS120.alloc | apply IsS120.drewN | apply IsS120.drew | apply IsS120.set_1 | apply IsS120.set_2) | exact HI0.out)) q11_ (by decide)) hk (fun _ h => h.2)) (fun _ h => h.1)); have n1_ := Aside0.mk (Kd.R_mono (Kd.R_keep (IsS120.apart (show IsS120 w0 _ g s0_0 t302 t303 from by repeat (first | (with_reducible first | exact HI0.out | apply IsS120.alloc | apply IsS120.drewN | apply IsS120.drew | apply IsS120.set_1 | apply IsS120.set_2) | exact HI0.out)) q12_ (by decide)) hk (fun _ h => h.2)) (fun _ h => h.1)); have n2_ := Aside0.mk (Kd.R_mono (Kd.R_keep (IsS120.apart (show IsS120 w0 _ g s0_0 t302 t303 from by repeat (first | (with_reducible first | exact HI0.out | apply IsS120.alloc | apply IsS120.drewN | apply IsS120.drew | apply IsS120.set_1 | apply IsS120.set_2) | exact HI0.out)) q13_ (by decide)) hk (fun _ h => h.2)) (fun _ h => h.1)); have n3_ := Aside0.mk (KeepBut.trans q1_ hk (.inl rfl)); have n4_ := Aside0.mk (hb); have n5_ := Aside0.mk (hi); clear HO298; clear HO301; clear HO306; clear HK; clear HB; clear HI0; have HO298 := n0_; have HO301 := n1_; have HO306 := n2_; have HK := n3_; have HB := n4_; have HI0 := n5_; clear n0_ n1_ n2_ n3_ n4_ n5_; (try clear hb); (try clear hb2); (try clear hk); (try clear hi); obtain ⟨Ao53, co53, eo53⟩ := Kd.R_slice HO306.out; subst eo53))
       go_ret2
       exact ⟨_, _, by first | rfl | (simp [errW_none, errW_some] <;> rfl) | (simp [*, errW_none, errW_some] <;> rfl), by (with_reducible repeat (first | apply Kd.R_alloc | apply Kd.R_drewN | apply Kd.R_drew)); exact Kd.R_mono HO298.out (fun _ hk => trivial), Kd.Q_of_R q13_, by repeat (first | (with_reducible first | exact HI0.out | apply IsS120.alloc | apply IsS120.drewN | apply IsS120.drew | apply IsS120.set_1 | apply IsS120.set_2) | exact HI0.out), by repeat (first | (with_reducible first | exact HB.out | apply below_alloc | apply pw_below_drewN | apply below_drew1 | refine below_set ?_ (IsS120.ge HI0.out)) | exact HB.out), by repeat (first | (with_reducible first | exact HK.out | apply KeepBut.set_ | apply keep_drewN | apply keep_drew | apply keep_alloc) | exact HK.out)⟩
     ·rw [if_neg c33] at H
      have c33b0 : (t307 == 2) = false := beq_eq_false_iff_ne.mpr c33
      have c33b1 : (t307 != 2) = true := bne_iff_ne.mpr c33
      by_cases c54 : t307 = 3
      ·rw [if_pos c54] at H
       have c54b0 : (t307 == 3) = true := beq_iff_eq.mpr c54
       have c54b1 : (t307 != 3) = false := bne_eq_false_iff_eq.mpr c54
       clear c54
       have H' := Aside0.mk H
       clear H
       go_enter Try.func53, Try.ntmps53
       go_wp2_with (first | ((with_reducible refine gate_callee (f := 101) rfl ?_); refine goesL_ (some 10) rfl rfl Try.func101 (by kernel_rfl) rfl #[.pointer (some ⟨g, 0, none⟩)] rfl q5_ ?_; (with_reducible refine (spec_l04Two.calls k g s0_0 s0_1 s0_2 t296 t299 t302 t303 w0 _ ?side1 ?side2 A2.out).mono ?_); (case side1 => exact q3_); (case side2 => exact q4_); rintro e w55 ⟨v297, v300, rfl, ho0, ho1, hi, hb, hk⟩; refine ⟨_, rfl, ?_⟩; have n0_ := Aside0.mk (Kd.R_lower ho0 (keep_size (w := w) (g := g) (row := none) q1_)); have n1_ := Aside0.mk (Kd.R_lower ho1 (keep_size (w := w) (g := g) (row := none) q1_)); have n2_ := Aside0.mk (KeepBut.trans q1_ hk (.inl rfl)); have n3_ := Aside0.mk (hb); have n4_ := Aside0.mk (hi); clear HK; clear HB; clear HI0; have HO298 := n0_; have HO301 := n1_; have HK := n2_; have HB := n3_; have HI0 := n4_; clear n0_ n1_ n2_ n3_ n4_; (try clear hb); (try clear hb2); (try clear hk); (try clear hi); (try clear ho0); (try clear ho1); obtain ⟨Ao56, co56, eo56⟩ := Kd.R_slice HO298.out; subst eo56; obtain ⟨Ao57, co57, eo57⟩ := Kd.R_slice HO301.out; subst eo57) | ((with_reducible refine gate_callee (f := 102) rfl ?_); refine goesL_ (some 15) rfl rfl Try.func102 (by kernel_rfl) rfl #[.slice Ao56 t296.length co56, .slice Ao57 t299.length co57] rfl q5_ ?_; (with_reducible refine (spec_EditsOf.calls k _ _ t296 _ _ t299 t304 _ ?side1 ?side2 ?side3 ?side4 A3.out).mono ?_); (case side1 => exact q21_); (case side2 => exact (Kd.R_reads' HO298.out).2.1); (case side3 => exact q22_); (case side4 => exact (Kd.R_reads' HO301.out).2.1); rintro e w58 ⟨v305, rfl, ho0, hb⟩; refine ⟨_, rfl, ?_⟩; have n0_ := Aside0.mk (Kd.R_below q11_ hb); have n1_ := Aside0.mk (Kd.R_below q12_ hb); have n2_ := Aside0.mk (Kd.R_lower ho0 (keep_size (w := w) (g := g) (row := none) q1_)); have n3_ := Aside0.mk (IsS120.below q3_ hb); have n4_ := Aside0.mk (KeepBut.trans q1_ (KeepBut.of_below hb g none) (.inl rfl)); have n5_ := Aside0.mk (below_step q4_ hb); clear HO298; clear HO301; clear HI0; clear HK; clear HB; have HO298 := n0_; have HO301 := n1_; have HO306 := n2_; have HI0 := n3_; have HK := n4_; have HB := n5_; clear n0_ n1_ n2_ n3_ n4_ n5_; (try clear hb); (try clear hb2); (try clear hk); (try clear hi); (try clear ho0)) | ((with_reducible refine gate_callee (f := 103) rfl ?_); refine goesL_ (some 17) rfl rfl Try.func103 (by kernel_rfl) rfl #[.pointer (some ⟨g, 0, none⟩), .int .i64 24] rfl q5_ ?_; (with_reducible refine (spec_l01Below.calls g s0_0 t302 t303 24 t307 t308 t309 w0 _ ?side1 ?side2 A4.out).mono ?_); (case side1 => exact q3_); (case side2 => exact q4_); rintro e w59 ⟨rfl, hi, hb, hk⟩; refine ⟨_, rfl, ?_⟩; have n0_ := Aside0.mk (Kd.R_mono (Kd.R_keep (IsS120.apart (show IsS120 w0 _ g s0_0 t302 t303 from by repeat (first | (with_reducible first | exact HI0.out | apply IsS120.alloc | apply IsS120.drewN | apply IsS120.drew | apply IsS120.set_1 | apply IsS120.set_2) | exact HI0.out)) q11_ (by decide)) hk (fun _ h => h.2)) (fun _ h => h.1)); have n1_ := Aside0.mk (Kd.R_mono (Kd.R_keep (IsS120.apart (show IsS120 w0 _ g s0_0 t302 t303 from by repeat (first | (with_reducible first | exact HI0.out | apply IsS120.alloc | apply IsS120.drewN | apply IsS120.drew | apply IsS120.set_1 | apply IsS120.set_2) | exact HI0.out)) q12_ (by decide)) hk (fun _ h => h.2)) (fun _ h => h.1)); have n2_ := Aside0.mk (Kd.R_mono (Kd.R_keep (IsS120.apart (show IsS120 w0 _ g s0_0 t302 t303 from by repeat (first | (with_reducible first | exact HI0.out | apply IsS120.alloc | apply IsS120.drewN | apply IsS120.drew | apply IsS120.set_1 | apply IsS120.set_2) | exact HI0.out)) q13_ (by decide)) hk (fun _ h => h.2)) (fun _ h => h.1)); have n3_ := Aside0.mk (KeepBut.trans q1_ hk (.inl rfl)); have n4_ := Aside0.mk (hb); have n5_ := Aside0.mk (hi); clear HO298; clear HO301; clear HO306; clear HK; clear HB; clear HI0; have HO298 := n0_; have HO301 := n1_; have HO306 := n2_; have HK := n3_; have HB := n4_; have HI0 := n5_; clear n0_ n1_ n2_ n3_ n4_ n5_; (try clear hb); (try clear hb2); (try clear hk); (try clear hi)))
       go_loopg [6, 7] k (fun kq v6 v7 w' => ∃ (x6_1 : List (S31)) (x7_1 : Int), v7 = .int .i64 x7_1 ∧ Aside0 (spec_l04Edits.l0 kq t296 x6_1 x7_1 s0_0 t308 t309 = some (r1, r2, r3, r4)) ∧ Aside0 (kq ≤ k) ∧ Aside0 (Kd.R Kd.string 9 w' w.heap.size (fun _ => True) (.slice Ao56 t296.length co56) t296) ∧ Aside0 (Kd.Q k31 31 w' w.heap.size (fun _ => True) v6 x6_1) ∧ Aside0 (IsS120 w0 w' g s0_0 t308 t309) ∧ Aside0 (KeepBut w w' g none) ∧ Aside0 (Below w0.heap.size w0 w'))
       case atStart => exact ⟨(t304), (0), q7_, H', ⟨Nat.le_refl _⟩, ⟨by (with_reducible repeat (first | apply Kd.R_alloc | apply Kd.R_drewN | apply Kd.R_drew)); exact Kd.R_mono HO298.out (fun _ hk => trivial)⟩, ⟨Kd.Q_of_R q13_⟩, ⟨by repeat (first | (with_reducible first | exact HI0.out | apply IsS120.alloc | apply IsS120.drewN | apply IsS120.drew | apply IsS120.set_1 | apply IsS120.set_2) | exact HI0.out)⟩, ⟨by repeat (first | (with_reducible first | exact HK.out | apply KeepBut.set_ | apply keep_drewN | apply keep_drew | apply keep_alloc) | exact HK.out)⟩, ⟨by repeat (first | (with_reducible first | exact HB.out | apply below_alloc | apply pw_below_drewN | apply below_drew1 | refine below_set ?_ (IsS120.ge HI0.out)) | exact HB.out)⟩⟩
       case round =>
        clear H'
        try clear c1
        try clear c2
        try clear p2
        try clear q2
        try clear c3
        try clear p3
        try clear q3
        try clear hx3
        try clear hf3
        try clear c4
        try clear hx4
        try clear hf4
        try clear c5
        try clear c5b0
        try clear c5b1
        try clear c8
        try clear c10
        try clear c17
        try clear c17b0
        try clear c17b1
        try clear c18
        try clear c18b0
        try clear c18b1
        try clear c19
        try clear c19b0
        try clear c19b1
        try clear c26
        try clear q26
        try clear c33
        try clear c33b0
        try clear c33b1
        try clear c34
        try clear c34b0
        try clear c34b1
        try clear c36
        try clear c36b0
        try clear c37
        try clear c37b0
        try clear c38
        try clear p38
        try clear q38
        try clear hx38
        try clear hf38
        try clear c46
        try clear hx46
        try clear hf46
        try clear c53
        try clear c54
        try clear c54b0
        try clear c54b1
        try clear hx38_0
        try clear hx38_1
        try clear hx46_1
        try clear p38
        try clear q26
        try clear q38
        obtain ⟨x6_1, x7_1, rfl, HA, HK1, HO_4, HO_6, HI0, HK, HB⟩ := hrel
        cases gk with
        | zero => exact absurd HA.out (by simp [spec_l04Edits.l0])
        | succ k1 =>
         have H := HA.out
         clear HA
         simp only [spec_l04Edits.l0] at H
         by_cases c60 : x7_1 < 300
         ·rw [if_pos c60] at H
          have c60b0 : decide (x7_1 < 300) = true := decide_eq_true c60
          clear c60
          by_cases c61 : x6_1.length < 5864062014805
          case neg =>
           rw [if_neg c61] at H
           exact absurd H (by simp)
          rw [if_pos c61] at H
          have LMc61 := Aside0.mk c61
          clear c61
          obtain ⟨y326, hy326⟩ : ∃ y_ : List (S31), y_ = (x6_1 ++ [(⟨3, (⟨#[122]⟩ : ByteArray)⟩ : S31)]) := ⟨_, rfl⟩
          replace H : (spec_l04Edits.l0 k1 t296 y326 (wrap64 (x7_1 + 1)) s0_0 t308 t309) = some (r1, r2, r3, r4) := by first | (rw [hy326]; with_reducible exact H) | (have H2_ := (Option.bind_some _ _).symm.trans H; rw [hy326]; with_reducible exact H2_) | (have H2_ := (Option.bind_some _ _).symm.trans H; with_reducible exact H2_) | with_reducible exact H | (rw [hy326]; exact H) | exact H
          have Ny326 := Aside0.mk hy326
          clear hy326
          have H' := Aside0.mk H
          clear H
          go_wp2_with (first | ((with_reducible refine gate_builtin (b := .append) (xs := #[.tmp 53, .tmp 55]) rfl ?_); at_builtin; refine Kd.Q_append k31 w.heap.size rfl (.tmp 53) (.tmp 55) 25 31 (.agg #[(.int .i64 0), (.string ⟨#[]⟩)]) 24 rfl Try.underlying25 info31 rfl (by decide) (by omega) u6 x6_1 (⟨3, (⟨#[122]⟩ : ByteArray)⟩ : S31) [.int .i64 3, .string (⟨#[122]⟩ : ByteArray)] (fun _ => True) (fun _ => False) rfl rfl ?aP (fun _ hk => hk.elim) ?aF ?aO (Below.refl _ _) ?aS ?aL ?_; (case aP => exact k31_mkM _ _ _ (⟨3, (⟨#[122]⟩ : ByteArray)⟩ : S31)); (case aF => exact (fun _ _ => trivial)); (case aO => exact (by (with_reducible repeat (first | apply Kd.Q_alloc | apply Kd.Q_drewN | apply Kd.Q_drew)); exact HO_6.out)); (case aS => exact (keep_size (w := w) (g := g) (row := none) q1_)); (case aL => have := LMc61.out; omega); intro v327 w62 ho hb hg hat; rw [← Ny326.out] at ho; have n0_ := Aside0.mk (Kd.R_over' q19_ (Kd.Q_typed (by (with_reducible repeat (first | apply Kd.Q_alloc | apply Kd.Q_drewN | apply Kd.Q_drew)); exact HO_6.out)) (by decide) hg); have n1_ := Aside0.mk (IsS120.grown q3_ hg (IsS120.own_neQ HI0.out HO_6.out (by decide))); have n2_ := Aside0.mk (below_weaken q4_ HL.out hb); have n3_ := Aside0.mk (KeepBut.trans q1_ (KeepBut.of_grown hg g) (Kd.Q_base2 HO_6.out)); have n4_ := Aside0.mk (ho); clear HO_4; clear HI0; clear HB; clear HK; clear HO_6; have HO_4 := n0_; have HI0 := n1_; have HB := n2_; have HK := n3_; have HO328 := n4_; clear n0_ n1_ n2_ n3_ n4_; clear ho hb hg hat))
          go_roundg k1
          case measure => have := HK1.out; omega
          case rel => exact ⟨(y326), (wrap64 (x7_1 + 1)), q7_, H', ⟨by have := HK1.out; omega⟩, ⟨by (with_reducible repeat (first | apply Kd.R_alloc | apply Kd.R_drewN | apply Kd.R_drew)); exact HO_4.out⟩, ⟨by (with_reducible repeat (first | apply Kd.Q_alloc | apply Kd.Q_drewN | apply Kd.Q_drew)); exact HO328.out⟩, ⟨by repeat (first | (with_reducible first | exact HI0.out | apply IsS120.alloc | apply IsS120.drewN | apply IsS120.drew | apply IsS120.set_1 | apply IsS120.set_2) | exact HI0.out)⟩, ⟨by repeat (first | (with_reducible first | exact HK.out | apply KeepBut.set_ | apply keep_drewN | apply keep_drew | apply keep_alloc) | exact HK.out)⟩, ⟨by repeat (first | (with_reducible first | exact HB.out | apply below_alloc | apply pw_below_drewN | apply below_drew1 | refine below_set ?_ (IsS120.ge HI0.out)) | exact HB.out)⟩⟩
         ·rw [if_neg c60] at H
          have c60b0 : decide (x7_1 < 300) = false := decide_eq_false c60
          clear c60
          simp only [Option.some.injEq, Prod.mk.injEq] at H
          obtain ⟨rfl, rfl, rfl, rfl⟩ := H
          go_wp2
          go_ret2
          exact ⟨_, _, by first | rfl | (simp [errW_none, errW_some] <;> rfl) | (simp [*, errW_none, errW_some] <;> rfl), by (with_reducible repeat (first | apply Kd.R_alloc | apply Kd.R_drewN | apply Kd.R_drew)); exact HO_4.out, by (with_reducible repeat (first | apply Kd.Q_alloc | apply Kd.Q_drewN | apply Kd.Q_drew)); exact HO_6.out, by repeat (first | (with_reducible first | exact HI0.out | apply IsS120.alloc | apply IsS120.drewN | apply IsS120.drew | apply IsS120.set_1 | apply IsS120.set_2) | exact HI0.out), by repeat (first | (with_reducible first | exact HB.out | apply below_alloc | apply pw_below_drewN | apply below_drew1 | refine below_set ?_ (IsS120.ge HI0.out)) | exact HB.out), by repeat (first | (with_reducible first | exact HK.out | apply KeepBut.set_ | apply keep_drewN | apply keep_drew | apply keep_alloc) | exact HK.out)⟩
      ·rw [if_neg c54] at H
       have c54b0 : (t307 == 3) = false := beq_eq_false_iff_ne.mpr c54
       have c54b1 : (t307 != 3) = true := bne_iff_ne.mpr c54
       simp only [Option.some.injEq, Prod.mk.injEq] at H
       obtain ⟨rfl, rfl, rfl, rfl⟩ := H
       go_enter Try.func53, Try.ntmps53
       go_wp2_with (first | ((with_reducible refine gate_callee (f := 101) rfl ?_); refine goesL_ (some 10) rfl rfl Try.func101 (by kernel_rfl) rfl #[.pointer (some ⟨g, 0, none⟩)] rfl q5_ ?_; (with_reducible refine (spec_l04Two.calls k g s0_0 s0_1 s0_2 t296 t299 t302 t303 w0 _ ?side1 ?side2 A2.out).mono ?_); (case side1 => exact q3_); (case side2 => exact q4_); rintro e w63 ⟨v297, v300, rfl, ho0, ho1, hi, hb, hk⟩; refine ⟨_, rfl, ?_⟩; have n0_ := Aside0.mk (Kd.R_lower ho0 (keep_size (w := w) (g := g) (row := none) q1_)); have n1_ := Aside0.mk (Kd.R_lower ho1 (keep_size (w := w) (g := g) (row := none) q1_)); have n2_ := Aside0.mk (KeepBut.trans q1_ hk (.inl rfl)); have n3_ := Aside0.mk (hb); have n4_ := Aside0.mk (hi); clear HK; clear HB; clear HI0; have HO298 := n0_; have HO301 := n1_; have HK := n2_; have HB := n3_; have HI0 := n4_; clear n0_ n1_ n2_ n3_ n4_; (try clear hb); (try clear hb2); (try clear hk); (try clear hi); (try clear ho0); (try clear ho1); obtain ⟨Ao64, co64, eo64⟩ := Kd.R_slice HO298.out; subst eo64; obtain ⟨Ao65, co65, eo65⟩ := Kd.R_slice HO301.out; subst eo65) | ((with_reducible refine gate_callee (f := 102) rfl ?_); refine goesL_ (some 15) rfl rfl Try.func102 (by kernel_rfl) rfl #[.slice Ao64 t296.length co64, .slice Ao65 t299.length co65] rfl q5_ ?_; (with_reducible refine (spec_EditsOf.calls k _ _ t296 _ _ t299 t304 _ ?side1 ?side2 ?side3 ?side4 A3.out).mono ?_); (case side1 => exact q21_); (case side2 => exact (Kd.R_reads' HO298.out).2.1); (case side3 => exact q22_); (case side4 => exact (Kd.R_reads' HO301.out).2.1); rintro e w66 ⟨v305, rfl, ho0, hb⟩; refine ⟨_, rfl, ?_⟩; have n0_ := Aside0.mk (Kd.R_below q11_ hb); have n1_ := Aside0.mk (Kd.R_below q12_ hb); have n2_ := Aside0.mk (Kd.R_lower ho0 (keep_size (w := w) (g := g) (row := none) q1_)); have n3_ := Aside0.mk (IsS120.below q3_ hb); have n4_ := Aside0.mk (KeepBut.trans q1_ (KeepBut.of_below hb g none) (.inl rfl)); have n5_ := Aside0.mk (below_step q4_ hb); clear HO298; clear HO301; clear HI0; clear HK; clear HB; have HO298 := n0_; have HO301 := n1_; have HO306 := n2_; have HI0 := n3_; have HK := n4_; have HB := n5_; clear n0_ n1_ n2_ n3_ n4_ n5_; (try clear hb); (try clear hb2); (try clear hk); (try clear hi); (try clear ho0)) | ((with_reducible refine gate_callee (f := 103) rfl ?_); refine goesL_ (some 17) rfl rfl Try.func103 (by kernel_rfl) rfl #[.pointer (some ⟨g, 0, none⟩), .int .i64 24] rfl q5_ ?_; (with_reducible refine (spec_l01Below.calls g s0_0 t302 t303 24 t307 t308 t309 w0 _ ?side1 ?side2 A4.out).mono ?_); (case side1 => exact q3_); (case side2 => exact q4_); rintro e w67 ⟨rfl, hi, hb, hk⟩; refine ⟨_, rfl, ?_⟩; have n0_ := Aside0.mk (Kd.R_mono (Kd.R_keep (IsS120.apart (show IsS120 w0 _ g s0_0 t302 t303 from by repeat (first | (with_reducible first | exact HI0.out | apply IsS120.alloc | apply IsS120.drewN | apply IsS120.drew | apply IsS120.set_1 | apply IsS120.set_2) | exact HI0.out)) q11_ (by decide)) hk (fun _ h => h.2)) (fun _ h => h.1)); have n1_ := Aside0.mk (Kd.R_mono (Kd.R_keep (IsS120.apart (show IsS120 w0 _ g s0_0 t302 t303 from by repeat (first | (with_reducible first | exact HI0.out | apply IsS120.alloc | apply IsS120.drewN | apply IsS120.drew | apply IsS120.set_1 | apply IsS120.set_2) | exact HI0.out)) q12_ (by decide)) hk (fun _ h => h.2)) (fun _ h => h.1)); have n2_ := Aside0.mk (Kd.R_mono (Kd.R_keep (IsS120.apart (show IsS120 w0 _ g s0_0 t302 t303 from by repeat (first | (with_reducible first | exact HI0.out | apply IsS120.alloc | apply IsS120.drewN | apply IsS120.drew | apply IsS120.set_1 | apply IsS120.set_2) | exact HI0.out)) q13_ (by decide)) hk (fun _ h => h.2)) (fun _ h => h.1)); have n3_ := Aside0.mk (KeepBut.trans q1_ hk (.inl rfl)); have n4_ := Aside0.mk (hb); have n5_ := Aside0.mk (hi); clear HO298; clear HO301; clear HO306; clear HK; clear HB; clear HI0; have HO298 := n0_; have HO301 := n1_; have HO306 := n2_; have HK := n3_; have HB := n4_; have HI0 := n5_; clear n0_ n1_ n2_ n3_ n4_ n5_; (try clear hb); (try clear hb2); (try clear hk); (try clear hi)))
       go_ret2
       exact ⟨_, _, by first | rfl | (simp [errW_none, errW_some] <;> rfl) | (simp [*, errW_none, errW_some] <;> rfl), by (with_reducible repeat (first | apply Kd.R_alloc | apply Kd.R_drewN | apply Kd.R_drew)); exact Kd.R_mono HO298.out (fun _ hk => trivial), Kd.Q_of_R q13_, by repeat (first | (with_reducible first | exact HI0.out | apply IsS120.alloc | apply IsS120.drewN | apply IsS120.drew | apply IsS120.set_1 | apply IsS120.set_2) | exact HI0.out), by repeat (first | (with_reducible first | exact HB.out | apply below_alloc | apply pw_below_drewN | apply below_drew1 | refine below_set ?_ (IsS120.ge HI0.out)) | exact HB.out), by repeat (first | (with_reducible first | exact HK.out | apply KeepBut.set_ | apply keep_drewN | apply keep_drew | apply keep_alloc) | exact HK.out)⟩

/-! ### spec_l01New: function 54 -/
def spec_l01New.l0 : Nat → List Int → Int → Int → Option (List Int × Int × Int)
  | 0, _, _, _ => none
  | k + 1, x0, x3, x4 => if x4 < (x0.length : Int) then (if x4 < 4000 then (if 0 ≤ x4 then (spec_l01New.l0 k x0 (Go.bits .and .i64 (wrap64 ((wrap64 ((wrap64 (x3 * 131)) + (wrap64 (rd x0 x4)))) + 7)) 1073741823) (wrap64 (x4 + 1))) else (none)) else (some (x0, 0, x3))) else (some (x0, 0, x3))
def spec_l01New.f (k : Nat) (l0 : List Int) : Option (List Int × Int × Int) := spec_l01New.l0 k l0 (wrap64 (73073 + (l0.length : Int))) 0
theorem spec_l01New.mono_l : ∀ k, (∀ y0 y1 y2, LeO (spec_l01New.l0 k y0 y1 y2) (spec_l01New.l0 (k + 1) y0 y1 y2))
  | 0 => fun _ _ _ r h => by simp [spec_l01New.l0] at h
  | k + 1 => by
    have ih0 := spec_l01New.mono_l k
    ·intro y0 y1 y2
     unfold spec_l01New.l0
     repeat' first
     | (with_reducible exact ih0 _ _ _)
     | (with_reducible exact LeO.refl _)
     | (with_reducible exact LeO.none _)
     | (with_reducible refine LeO.ite ?_ ?_)
     | (with_reducible refine LeO.bind ?_ (fun _ => ?_))
     | exact ih0 _ _ _
     | exact LeO.none _
     | refine LeO.ite ?_ ?_
     | refine LeO.bind ?_ (fun _ => ?_)
theorem spec_l01New.mono : ∀ a0 k, LeO (spec_l01New.f k a0) (spec_l01New.f (k + 1) a0) := by
  intro a0 k
  have ih0 := spec_l01New.mono_l k
  unfold spec_l01New.f
  repeat' first
     | (with_reducible exact ih0 _ _ _)
     | (with_reducible exact LeO.refl _)
     | (with_reducible exact LeO.none _)
     | (with_reducible refine LeO.ite ?_ ?_)
     | (with_reducible refine LeO.bind ?_ (fun _ => ?_))
     | exact ih0 _ _ _
     | exact LeO.none _
     | refine LeO.ite ?_ ?_
     | refine LeO.bind ?_ (fun _ => ?_)
set_option maxHeartbeats 8000000 in
set_option maxRecDepth 100000 in
theorem spec_l01New.calls (k : Nat) (A0 : Option Addr) (c0 : Nat) (l0 : List Int) (r1 : List Int) (r2 : Int) (r3 : Int) (w0 w : World) (hB : Below w0.heap.size w0 w) (hr0 : Kd.C (Kd.int .u8) w0 A0 l0.length l0) (hc0 : l0.length ≤ c0) (h : spec_l01New.f k l0 = some (r1, r2, r3)) :
    Calls Try.prog 54 #[.slice A0 l0.length c0] w fun e w' => ∃ g_ : Nat, e = .returned (.pointer (some ⟨g_, 0, none⟩)) ∧ IsS120 w0 w' g_ r1 r2 r3 ∧ Below w0.heap.size w0 w' ∧ Below w.heap.size w w' := by
  have hu120 := Try.underlying120
  have HR0 := Aside0.mk hr0
  have HC0 := Aside0.mk hc0
  clear hr0 hc0
  have HBW := Aside0.mk (Below.refl w.heap.size w)
  have HW0 := Aside0.mk hB.size
  have HB := Aside0.mk hB
  clear hB
  have H : (spec_l01New.l0 k l0 (wrap64 (73073 + (l0.length : Int))) 0) = some (r1, r2, r3) := h
  clear h
  have H' := Aside0.mk H
  clear H
  go_enter Try.func54, Try.ntmps54
  go_wp2
  go_loopg [3, 4] k (fun kq v3 v4 w' => ∃ (x3_1 : Int) (x4_1 : Int), v3 = .int .i64 x3_1 ∧ v4 = .int .i64 x4_1 ∧ Aside0 (spec_l01New.l0 kq l0 x3_1 x4_1 = some (r1, r2, r3)) ∧ Aside0 (kq ≤ k) ∧ Aside0 (Below w0.heap.size w0 w') ∧ Aside0 (Below w.heap.size w w'))
  case atStart => exact ⟨(wrap64 (73073 + (l0.length : Int))), (0), q7_, q7_, H', ⟨Nat.le_refl _⟩, ⟨by repeat (first | (with_reducible first | exact HB.out | apply below_alloc | apply pw_below_drewN | apply below_drew1) | exact HB.out)⟩, ⟨by repeat (first | (with_reducible first | exact HBW.out | apply below_alloc | apply pw_below_drewN | apply below_drew1) | exact HBW.out)⟩⟩
  case round =>
    clear H'
    obtain ⟨x3_1, x4_1, rfl, rfl, HA, HK1, HB, HBW⟩ := hrel
    cases gk with
    | zero => exact absurd HA.out (by simp [spec_l01New.l0])
    | succ k1 =>
     have H := HA.out
     clear HA
     simp only [spec_l01New.l0] at H
     by_cases c2 : x4_1 < (l0.length : Int)
     ·rw [if_pos c2] at H
      have c2b0 : decide (x4_1 < (l0.length : Int)) = true := decide_eq_true c2
      clear c2
      by_cases c3 : x4_1 < 4000
      ·rw [if_pos c3] at H
       have c3b0 : decide (x4_1 < 4000) = true := decide_eq_true c3
       clear c3
       by_cases c4 : 0 ≤ x4_1
       case neg =>
        rw [if_neg c4] at H
        exact absurd H (by simp)
       rw [if_pos c4] at H
       have c4b0 : decide (0 ≤ x4_1) = true := decide_eq_true c4
       clear c4
       have H' := Aside0.mk H
       clear H
       have p329 : 0 ≤ (x4_1 : Int) := of_decide_eq_true q0_
       have q329 : x4_1 < (l0.length : Int) := of_decide_eq_true q0_
       obtain ⟨ad329, e329, hx329_0⟩ := Kd.at_int HR0.out x4_1 p329 q329
       cases e329
       replace hx329_0 := pw_cell_below HB.out hx329_0
       replace p329 := eq_true p329
       replace q329 := eq_true q329
       go_wp2
       go_roundg k1
       case measure => have := HK1.out; omega
       case rel => exact ⟨(Go.bits .and .i64 (wrap64 ((wrap64 ((wrap64 (x3_1 * 131)) + (wrap64 (rd l0 x4_1)))) + 7)) 1073741823), (wrap64 (x4_1 + 1)), q7_, q7_, H', ⟨by have := HK1.out; omega⟩, ⟨by repeat (first | (with_reducible first | exact HB.out | apply below_alloc | apply pw_below_drewN | apply below_drew1) | exact HB.out)⟩, ⟨by repeat (first | (with_reducible first | exact HBW.out | apply below_alloc | apply pw_below_drewN | apply below_drew1) | exact HBW.out)⟩⟩
      ·rw [if_neg c3] at H
       have c3b0 : decide (x4_1 < 4000) = false := decide_eq_false c3
       clear c3
       simp only [Option.some.injEq, Prod.mk.injEq] at H
       obtain ⟨rfl, rfl, rfl⟩ := H
       go_wp2_with (first | ((with_reducible refine gate_dst (N := 31) rfl ?_); refine box_event ?hg (N := 31) ?hd (cs := #[.slice A0 l0.length c0, .int .i64 0, .int .i64 x3_1]) (t := 120) ?hr ?_; (case hd => rfl); (case hg => rfl); (case hr => first | (go_simp; done) | (go_simp; rfl)); intro gb330 hg w5 hbox hb; have n0_ := Aside0.mk (below_step q29_ hb); have n1_ := Aside0.mk (below_step q2_ hb); have n2_ := Aside0.mk (hbox); have n3_ := Aside0.mk ((by rw [hg]; exact (below_size q29_) : w.heap.size ≤ gb330)); have n4_ := Aside0.mk ((Nat.le_trans HW0.out (by rw [hg]; exact (below_size q29_) : w.heap.size ≤ gb330) : w0.heap.size ≤ gb330)); clear HBW; clear HB; have HBW := n0_; have HB := n1_; have BK330 := n2_; have GW330 := n3_; have GE330 := n4_; clear n0_ n1_ n2_ n3_ n4_; clear hb hbox hg))
       go_ret
       exact ⟨_, rfl, (show IsS120 w0 _ gb330 l0 0 x3_1 from ⟨_, _, by (with_reducible repeat (first | refine blk_drewN ?_ _ | refine blk_drew ?_ | refine blk_alloc ?_ _)); exact BK330.out, GE330.out, HR0.out⟩), by repeat (first | (with_reducible first | exact HB.out | apply below_alloc | apply pw_below_drewN | apply below_drew1 | refine below_set ?_ GE330.out) | exact HB.out), by repeat (first | (with_reducible first | exact HBW.out | apply below_alloc | apply pw_below_drewN | apply below_drew1 | refine below_set ?_ GW330.out) | exact HBW.out)⟩
     ·rw [if_neg c2] at H
      have c2b0 : decide (x4_1 < (l0.length : Int)) = false := decide_eq_false c2
      clear c2
      simp only [Option.some.injEq, Prod.mk.injEq] at H
      obtain ⟨rfl, rfl, rfl⟩ := H
      go_wp2_with (first | ((with_reducible refine gate_dst (N := 31) rfl ?_); refine box_event ?hg (N := 31) ?hd (cs := #[.slice A0 l0.length c0, .int .i64 0, .int .i64 x3_1]) (t := 120) ?hr ?_; (case hd => rfl); (case hg => rfl); (case hr => first | (go_simp; done) | (go_simp; rfl)); intro gb331 hg w6 hbox hb; have n0_ := Aside0.mk (below_step q29_ hb); have n1_ := Aside0.mk (below_step q2_ hb); have n2_ := Aside0.mk (hbox); have n3_ := Aside0.mk ((by rw [hg]; exact (below_size q29_) : w.heap.size ≤ gb331)); have n4_ := Aside0.mk ((Nat.le_trans HW0.out (by rw [hg]; exact (below_size q29_) : w.heap.size ≤ gb331) : w0.heap.size ≤ gb331)); clear HBW; clear HB; have HBW := n0_; have HB := n1_; have BK331 := n2_; have GW331 := n3_; have GE331 := n4_; clear n0_ n1_ n2_ n3_ n4_; clear hb hbox hg))
      go_ret
      exact ⟨_, rfl, (show IsS120 w0 _ gb331 l0 0 x3_1 from ⟨_, _, by (with_reducible repeat (first | refine blk_drewN ?_ _ | refine blk_drew ?_ | refine blk_alloc ?_ _)); exact BK331.out, GE331.out, HR0.out⟩), by repeat (first | (with_reducible first | exact HB.out | apply below_alloc | apply pw_below_drewN | apply below_drew1 | refine below_set ?_ GE331.out) | exact HB.out), by repeat (first | (with_reducible first | exact HBW.out | apply below_alloc | apply pw_below_drewN | apply below_drew1 | refine below_set ?_ GW331.out) | exact HBW.out)⟩

/-! ### spec_DrawApply: function 15 -/
def spec_DrawApply.f (k : Nat) (l0 : List Int) : Option (List ByteArray × (List (S31))) := (spec_l01New.f k l0).bind fun bt332 => ((spec_l04Edits.f k bt332.1 bt332.2.1 bt332.2.2).bind fun bt336 => (some (bt336.1, bt336.2.1)))
theorem spec_DrawApply.mono : ∀ a0 k, LeO (spec_DrawApply.f k a0) (spec_DrawApply.f (k + 1) a0) := by
  intro a0 k
  unfold spec_DrawApply.f
  repeat' first
     | (with_reducible exact spec_l01New.mono _ _)
     | (with_reducible exact spec_l04Edits.mono _ _ _ _)
     | (with_reducible exact LeO.refl _)
     | (with_reducible exact LeO.none _)
     | (with_reducible refine LeO.ite ?_ ?_)
     | (with_reducible refine LeO.bind ?_ (fun _ => ?_))
     | exact spec_l01New.mono _ _
     | exact spec_l04Edits.mono _ _ _ _
     | exact LeO.none _
     | refine LeO.ite ?_ ?_
     | refine LeO.bind ?_ (fun _ => ?_)
set_option maxHeartbeats 8000000 in
set_option maxRecDepth 100000 in
theorem spec_DrawApply.calls (k : Nat) (A0 : Option Addr) (c0 : Nat) (l0 : List Int) (r1 : List ByteArray) (r2 : List (S31)) (w : World) (hr0 : Kd.C (Kd.int .u8) w A0 l0.length l0) (hc0 : l0.length ≤ c0) (h : spec_DrawApply.f k l0 = some (r1, r2)) :
    Calls Try.prog 15 #[.slice A0 l0.length c0] w fun e w' => ∃ v0_ v1_ : Value, e = .returned (.tuple #[v0_, v1_]) ∧ Kd.R Kd.string 9 w' w.heap.size (fun _ => True) v0_ r1 ∧ Kd.Q k31 31 w' w.heap.size (fun _ => True) v1_ r2 ∧ Below w.heap.size w w' := by
  have HR0 := Aside0.mk hr0
  have HC0 := Aside0.mk hc0
  clear hr0 hc0
  have HB := Aside0.mk (Below.refl w.heap.size w)
  have H : ((spec_l01New.f k l0).bind fun bt332 => ((spec_l04Edits.f k bt332.1 bt332.2.1 bt332.2.2).bind fun bt336 => (some (bt336.1, bt336.2.1)))) = some (r1, r2) := h
  clear h
  replace H := Option.bind_eq_some_iff.mp H
  obtain ⟨⟨t332, t333, t334⟩, A20, H⟩ := H
  replace H : ((spec_l04Edits.f k t332 t333 t334).bind fun bt336 => (some (bt336.1, bt336.2.1))) = some (r1, r2) := H
  have A2 := Aside0.mk A20
  clear A20
  replace H := Option.bind_eq_some_iff.mp H
  obtain ⟨⟨t336, t339, t342, t343⟩, A30, H⟩ := H
  replace H : (some (t336, t339)) = some (r1, r2) := H
  have A3 := Aside0.mk A30
  clear A30
  simp only [Option.some.injEq, Prod.mk.injEq] at H
  obtain ⟨rfl, rfl⟩ := H
  go_enter Try.func15, Try.ntmps15
  go_wp2_with (first | ((with_reducible refine gate_callee (f := 54) rfl ?_); refine goesL_ (some 5) rfl rfl Try.func54 (by kernel_rfl) rfl #[.slice A0 l0.length c0] rfl q5_ ?_; (with_reducible refine (spec_l01New.calls k _ _ l0 t332 t333 t334 w _ ?side1 ?side2 ?side3 A2.out).mono ?_); (case side1 => exact q2_); (case side2 => exact HR0.out); (case side3 => exact HC0.out); rintro e w4 ⟨g335, rfl, hi, hb, hb2⟩; refine ⟨_, rfl, ?_⟩; have n0_ := Aside0.mk (hb); have n1_ := Aside0.mk (hi); clear HB; have HB := n0_; have HI335 := n1_; clear n0_ n1_; (try clear hb); (try clear hb2); (try clear hk); (try clear hi)) | ((with_reducible refine gate_callee (f := 53) rfl ?_); refine goesL_ (some 6) rfl rfl Try.func53 (by kernel_rfl) rfl #[.pointer (some ⟨g335, 0, none⟩)] rfl q5_ ?_; (with_reducible refine (spec_l04Edits.calls k g335 t332 t333 t334 t336 t339 t342 t343 w _ ?side1 ?side2 A3.out).mono ?_); (case side1 => exact (by repeat (first | (with_reducible first | exact HI335.out | apply IsS120.alloc | apply IsS120.drewN | apply IsS120.drew | apply IsS120.set_1 | apply IsS120.set_2) | exact HI335.out))); (case side2 => exact (by repeat (first | (with_reducible first | exact HB.out | apply below_alloc | apply pw_below_drewN | apply below_drew1 | refine below_set ?_ (IsS120.ge HI335.out)) | exact HB.out))); rintro e w5 ⟨v337, v340, rfl, ho0, ho1, hi, hb, hk⟩; refine ⟨_, rfl, ?_⟩; have n0_ := Aside0.mk (Kd.R_lower ho0 (below_size (by repeat (first | (with_reducible first | exact HB.out | apply below_alloc | apply pw_below_drewN | apply below_drew1 | refine below_set ?_ (IsS120.ge HI335.out)) | exact HB.out)))); have n1_ := Aside0.mk (Kd.Q_lower ho1 (below_size (by repeat (first | (with_reducible first | exact HB.out | apply below_alloc | apply pw_below_drewN | apply below_drew1 | refine below_set ?_ (IsS120.ge HI335.out)) | exact HB.out)))); have n2_ := Aside0.mk (hb); have n3_ := Aside0.mk (hi); clear HB; clear HI335; have HO338 := n0_; have HO341 := n1_; have HB := n2_; have HI335 := n3_; clear n0_ n1_ n2_ n3_; (try clear hb); (try clear hb2); (try clear hk); (try clear hi); (try clear ho0); (try clear ho1)))
  go_ret2
  exact ⟨_, _, by first | rfl | (simp [errW_none, errW_some] <;> rfl) | (simp [*, errW_none, errW_some] <;> rfl), by (with_reducible repeat (first | apply Kd.R_alloc | apply Kd.R_drewN | apply Kd.R_drew)); exact HO338.out, by (with_reducible repeat (first | apply Kd.Q_alloc | apply Kd.Q_drewN | apply Kd.Q_drew)); exact HO341.out, by repeat (first | (with_reducible first | exact HB.out | apply below_alloc | apply pw_below_drewN | apply below_drew1 | refine below_set ?_ (IsS120.ge HI335.out)) | exact HB.out)⟩

/-! ### spec_l01In: function 65 -/
def spec_l01In.f (a0 : Int) (a1 : Int) (a2 : Int) : Option (Bool) := if a0 ≥ a1 then (some (decide (a0 ≤ a2))) else (some false)
set_option maxHeartbeats 8000000 in
set_option maxRecDepth 100000 in
theorem spec_l01In.calls (a0 : Int) (a1 : Int) (a2 : Int) (r : Bool) (w : World) (h : spec_l01In.f a0 a1 a2 = some r) :
    Calls Try.prog 65 #[.int .i64 a0, .int .i64 a1, .int .i64 a2] w fun e w' => e = .returned (.bool r) ∧ Drawn0 w w' := by
  have H : (if a0 ≥ a1 then (some (decide (a0 ≤ a2))) else (some false)) = some r := h
  clear h
  by_cases c4 : a0 ≥ a1
  · rw [if_pos c4] at H
    have c4b0 : decide (a1 ≤ a0) = true := decide_eq_true c4
    clear c4
    obtain rfl := Option.some.inj H
    go_enter Try.func65, Try.ntmps65
    go_wp2
    go_ret
    exact ⟨by first | rfl | (simp; done) | (simp [*]; done), by repeat (first | exact Drawn0.refl _ | apply Drawn0.step)⟩
  · rw [if_neg c4] at H
    have c4b0 : decide (a1 ≤ a0) = false := decide_eq_false c4
    clear c4
    obtain rfl := Option.some.inj H
    go_enter Try.func65, Try.ntmps65
    go_wp2
    go_ret
    exact ⟨by first | rfl | (simp; done) | (simp [*]; done), by repeat (first | exact Drawn0.refl _ | apply Drawn0.step)⟩

/-! ### spec_EditsOk: function 56 -/
mutual
def spec_EditsOk.l0 : Nat → List (S31) → Int → Int → Int → Option (Bool)
  | 0, _, _, _, _ => none
  | k + 1, x0, x3, x4, x5 => if x5 < (x0.length : Int) then (if 0 ≤ x5 then ((spec_l01In.f ((rd_T31 x0 x5).f0) 1 3).bind fun t345 => (if t345 = true then ((spec_LineOk.f k ((rd_T31 x0 x5).f1)).bind fun t347 => (spec_EditsOk.j1 k x0 x3 x4 x5 (!t347))) else (spec_EditsOk.j1 k x0 x3 x4 x5 true))) else (none)) else (if x3 ≤ 300 then (some (decide (x4 ≤ 300))) else (some false))
def spec_EditsOk.j1 : Nat → List (S31) → Int → Int → Int → Bool → Option (Bool)
  | 0, _, _, _, _, _ => none
  | k + 1, x0, x3, x4, x5, x27 => if x27 = true then (some false) else (if 0 ≤ x5 then (if x5 < (x0.length : Int) then (if ((rd_T31 x0 x5).f0) = 3 then (if ((rd_T31 x0 x5).f0) = 2 then (spec_EditsOk.l0 k x0 x3 x4 (wrap64 (x5 + 1))) else (spec_EditsOk.l0 k x0 x3 (wrap64 (x4 + 1)) (wrap64 (x5 + 1)))) else (if ((rd_T31 x0 x5).f0) = 2 then (spec_EditsOk.l0 k x0 (wrap64 (x3 + 1)) x4 (wrap64 (x5 + 1))) else (spec_EditsOk.l0 k x0 (wrap64 (x3 + 1)) (wrap64 (x4 + 1)) (wrap64 (x5 + 1))))) else (none)) else (none))
end
def spec_EditsOk.f (k : Nat) (l0 : List (S31)) : Option (Bool) := spec_EditsOk.l0 k l0 0 0 0
theorem spec_EditsOk.mono_l : ∀ k, (∀ y0 y1 y2 y3, LeO (spec_EditsOk.l0 k y0 y1 y2 y3) (spec_EditsOk.l0 (k + 1) y0 y1 y2 y3)) ∧ (∀ y0 y1 y2 y3 y4, LeO (spec_EditsOk.j1 k y0 y1 y2 y3 y4) (spec_EditsOk.j1 (k + 1) y0 y1 y2 y3 y4))
  | 0 => ⟨fun _ _ _ _ r h => by simp [spec_EditsOk.l0] at h, fun _ _ _ _ _ r h => by simp [spec_EditsOk.j1] at h⟩
  | k + 1 => by
    obtain ⟨ih0, ih1⟩ := spec_EditsOk.mono_l k
    refine ⟨?_, ?_⟩
    ·intro y0 y1 y2 y3
     unfold spec_EditsOk.l0
     repeat' first
     | (with_reducible exact ih0 _ _ _ _)
     | (with_reducible exact ih1 _ _ _ _ _)
     | (with_reducible exact spec_LineOk.mono _ _)
     | (with_reducible exact LeO.refl _)
     | (with_reducible exact LeO.none _)
     | (with_reducible refine LeO.ite ?_ ?_)
     | (with_reducible refine LeO.bind ?_ (fun _ => ?_))
     | exact ih0 _ _ _ _
     | exact ih1 _ _ _ _ _
     | exact spec_LineOk.mono _ _
     | exact LeO.none _
     | refine LeO.ite ?_ ?_
     | refine LeO.bind ?_ (fun _ => ?_)
    ·intro y0 y1 y2 y3 y4
     unfold spec_EditsOk.j1
     repeat' first
     | (with_reducible exact ih0 _ _ _ _)
     | (with_reducible exact ih1 _ _ _ _ _)
     | (with_reducible exact spec_LineOk.mono _ _)
     | (with_reducible exact LeO.refl _)
     | (with_reducible exact LeO.none _)
     | (with_reducible refine LeO.ite ?_ ?_)
     | (with_reducible refine LeO.bind ?_ (fun _ => ?_))
     | exact ih0 _ _ _ _
     | exact ih1 _ _ _ _ _
     | exact spec_LineOk.mono _ _
     | exact LeO.none _
     | refine LeO.ite ?_ ?_
     | refine LeO.bind ?_ (fun _ => ?_)
theorem spec_EditsOk.mono : ∀ a0 k, LeO (spec_EditsOk.f k a0) (spec_EditsOk.f (k + 1) a0) := by
  intro a0 k
  obtain ⟨ih0, ih1⟩ := spec_EditsOk.mono_l k
  unfold spec_EditsOk.f
  repeat' first
     | (with_reducible exact ih0 _ _ _ _)
     | (with_reducible exact ih1 _ _ _ _ _)
     | (with_reducible exact spec_LineOk.mono _ _)
     | (with_reducible exact LeO.refl _)
     | (with_reducible exact LeO.none _)
     | (with_reducible refine LeO.ite ?_ ?_)
     | (with_reducible refine LeO.bind ?_ (fun _ => ?_))
     | exact ih0 _ _ _ _
     | exact ih1 _ _ _ _ _
     | exact spec_LineOk.mono _ _
     | exact LeO.none _
     | refine LeO.ite ?_ ?_
     | refine LeO.bind ?_ (fun _ => ?_)
set_option maxHeartbeats 8000000 in
set_option maxRecDepth 100000 in
theorem spec_EditsOk.calls (k : Nat) (A0 : Option Addr) (c0 : Nat) (l0 : List (S31)) (r : Bool) (w : World) (hr0 : Kd.C k31 w A0 l0.length l0) (hc0 : l0.length ≤ c0) (h : spec_EditsOk.f k l0 = some r) :
    Calls Try.prog 56 #[.slice A0 l0.length c0] w fun e w' => e = .returned (.bool r) ∧ Drawn0 w w' := by
  have HR0 := Aside0.mk hr0
  have HC0 := Aside0.mk hc0
  clear hr0 hc0
  have H : (spec_EditsOk.l0 k l0 0 0 0) = some r := h
  clear h
  have H' := Aside0.mk H
  clear H
  go_enter Try.func56, Try.ntmps56
  go_wp2
  go_loopg [3, 4, 5] k (fun kq v3 v4 v5 w' => ∃ (x3_1 : Int) (x4_1 : Int) (x5_1 : Int), v3 = .int .i64 x3_1 ∧ v4 = .int .i64 x4_1 ∧ v5 = .int .i64 x5_1 ∧ Aside0 (spec_EditsOk.l0 kq l0 x3_1 x4_1 x5_1 = some r) ∧ Aside0 (kq ≤ k) ∧ Drawn0 w w')
  case atStart => exact ⟨(0), (0), (0), q7_, q7_, q7_, H', ⟨Nat.le_refl _⟩, by repeat (first | exact Drawn0.refl _ | apply Drawn0.step)⟩
  case round =>
    clear H'
    obtain ⟨x3_1, x4_1, x5_1, rfl, rfl, rfl, HA, HK1, ⟨m1, rfl⟩⟩ := hrel
    cases gk with
    | zero => exact absurd HA.out (by simp [spec_EditsOk.l0])
    | succ k1 =>
     have H := HA.out
     clear HA
     simp only [spec_EditsOk.l0] at H
     by_cases c2 : x5_1 < (l0.length : Int)
     ·rw [if_pos c2] at H
      have c2b0 : decide (x5_1 < (l0.length : Int)) = true := decide_eq_true c2
      clear c2
      have HC3 := Aside0.mk H
      clear H
      go_upto_region 6 with (fail)
      go_cut [27] (fun v27 wc => ∃ (kq : Nat) (x27_2 : Bool), v27 = .bool x27_2 ∧ Aside0 (spec_EditsOk.j1 kq l0 x3_1 x4_1 x5_1 x27_2 = some r) ∧ Aside0 (kq ≤ k1) ∧ Drawn0 w wc)
      case first =>
       have H := HC3.out
       clear HC3
       by_cases c4 : 0 ≤ x5_1
       case neg =>
        rw [if_neg c4] at H
        exact absurd H (by simp)
       rw [if_pos c4] at H
       have c4b0 : decide (0 ≤ x5_1) = true := decide_eq_true c4
       clear c4
       (first | rw [c4b0] | (simp only [i64_w, i32_w]; rw [c4b0]) | skip)
       replace H := Option.bind_eq_some_iff.mp H
       obtain ⟨t345, A50, H⟩ := H
       replace H : (if t345 = true then ((spec_LineOk.f k1 ((rd_T31 l0 x5_1).f1)).bind fun t347 => (spec_EditsOk.j1 k1 l0 x3_1 x4_1 x5_1 (!t347))) else (spec_EditsOk.j1 k1 l0 x3_1 x4_1 x5_1 true)) = some r := H
       have A5 := Aside0.mk A50
       clear A50
       by_cases c6 : t345 = true
       ·subst c6
        have H1 : ((spec_LineOk.f k1 ((rd_T31 l0 x5_1).f1)).bind fun t347 => (spec_EditsOk.j1 k1 l0 x3_1 x4_1 x5_1 (!t347))) = some r := by rw [if_pos rfl] at H; exact H
        clear H
        have H := H1
        clear H1
        replace H := Option.bind_eq_some_iff.mp H
        obtain ⟨t347, A70, H⟩ := H
        replace H : (spec_EditsOk.j1 k1 l0 x3_1 x4_1 x5_1 (!t347)) = some r := H
        have A7 := Aside0.mk A70
        clear A70
        have H' := Aside0.mk H
        clear H
        have p344 : 0 ≤ (x5_1 : Int) := of_decide_eq_true q0_
        have q344 : x5_1 < (l0.length : Int) := of_decide_eq_true q0_
        obtain ⟨ad344, e344, hx344_0, hx344_1⟩ := at_T31 HR0.out x5_1 p344 q344
        cases e344
        replace p344 := eq_true p344
        replace q344 := eq_true q344
        go_wp2_with (first | ((with_reducible refine gate_callee (f := 65) rfl ?_); refine goesL_ (some 17) rfl rfl Try.func65 (by kernel_rfl) rfl #[.int .i64 ((rd_T31 l0 x5_1).f0), .int .i64 1, .int .i64 3] rfl q5_ ?_; (with_reducible refine (spec_l01In.calls ((rd_T31 l0 x5_1).f0) 1 3 true _ A5.out).mono ?_); rintro e w' ⟨rfl, ⟨nd, rfl⟩⟩; refine ⟨_, rfl, ?_⟩; have p346 : 0 ≤ (x5_1 : Int) := of_decide_eq_true q0_; have q346 : x5_1 < (l0.length : Int) := of_decide_eq_true q0_; obtain ⟨ad346, e346, hx346_0, hx346_1⟩ := at_T31 HR0.out x5_1 p346 q346; obtain rfl : ad344 = ad346 := (by injection e346); replace p346 := eq_true p346; replace q346 := eq_true q346) | (go_at_call 64; (try simp only [i64_w]); (with_reducible refine (spec_LineOk.calls k1 ((rd_T31 l0 x5_1).f1) t347 _ A7.out).mono ?_); rintro e w' ⟨rfl, ⟨nd, rfl⟩⟩))
        go_meet
        case rel => exact ⟨_, (!t347), q7_, H', ⟨by have := HK1.out; first | omega | exact Nat.le_refl _⟩, by repeat (first | exact Drawn0.refl _ | apply Drawn0.step)⟩
       ·replace c6 := Bool.eq_false_iff.mpr c6
        subst c6
        have H1 : (spec_EditsOk.j1 k1 l0 x3_1 x4_1 x5_1 true) = some r := by rw [if_neg (show ¬ (false = true) by decide)] at H; exact H
        clear H
        have H := H1
        clear H1
        have H' := Aside0.mk H
        clear H
        have p344 : 0 ≤ (x5_1 : Int) := of_decide_eq_true q0_
        have q344 : x5_1 < (l0.length : Int) := of_decide_eq_true q0_
        obtain ⟨ad344, e344, hx344_0, hx344_1⟩ := at_T31 HR0.out x5_1 p344 q344
        cases e344
        replace p344 := eq_true p344
        replace q344 := eq_true q344
        go_wp2_with (first | ((with_reducible refine gate_callee (f := 65) rfl ?_); refine goesL_ (some 17) rfl rfl Try.func65 (by kernel_rfl) rfl #[.int .i64 ((rd_T31 l0 x5_1).f0), .int .i64 1, .int .i64 3] rfl q5_ ?_; (with_reducible refine (spec_l01In.calls ((rd_T31 l0 x5_1).f0) 1 3 false _ A5.out).mono ?_); rintro e w' ⟨rfl, ⟨nd, rfl⟩⟩; refine ⟨_, rfl, ?_⟩))
        go_meet
        case rel => exact ⟨_, (true), q7_, H', ⟨by have := HK1.out; first | omega | exact Nat.le_refl _⟩, by repeat (first | exact Drawn0.refl _ | apply Drawn0.step)⟩
      case rest =>
       clear HC3
       try clear c2
       try clear c2b0
       try clear p2
       try clear p3
       try clear q3
       try clear hx3
       try clear c4
       try clear c4b0
       try clear c5
       try clear c6
       try clear hx344_0
       try clear hx344_1
       try clear hx346_0
       try clear hx346_1
       try clear p344
       try clear p346
       try clear q344
       try clear q346
       obtain ⟨kq, x27_2, rfl, HA, HJ2, ⟨mc2, rfl⟩⟩ := hcut
       cases kq with
       | zero => exact absurd HA.out (by simp [spec_EditsOk.j1])
       | succ kj2 =>
        have H := HA.out
        clear HA
        simp only [spec_EditsOk.j1] at H
        by_cases c8 : x27_2 = true
        ·subst c8
         have H1 : (some false) = some r := by rw [if_pos rfl] at H; exact H
         clear H
         have H := H1
         clear H1
         obtain rfl := Option.some.inj H
         go_wp2
         go_ret
         exact ⟨by first | rfl | (simp; done) | (simp [*]; done), by repeat (first | exact Drawn0.refl _ | apply Drawn0.step)⟩
        ·replace c8 := Bool.eq_false_iff.mpr c8
         subst c8
         have H1 : (if 0 ≤ x5_1 then (if x5_1 < (l0.length : Int) then (if ((rd_T31 l0 x5_1).f0) = 3 then (if ((rd_T31 l0 x5_1).f0) = 2 then (spec_EditsOk.l0 kj2 l0 x3_1 x4_1 (wrap64 (x5_1 + 1))) else (spec_EditsOk.l0 kj2 l0 x3_1 (wrap64 (x4_1 + 1)) (wrap64 (x5_1 + 1)))) else (if ((rd_T31 l0 x5_1).f0) = 2 then (spec_EditsOk.l0 kj2 l0 (wrap64 (x3_1 + 1)) x4_1 (wrap64 (x5_1 + 1))) else (spec_EditsOk.l0 kj2 l0 (wrap64 (x3_1 + 1)) (wrap64 (x4_1 + 1)) (wrap64 (x5_1 + 1))))) else (none)) else (none)) = some r := by rw [if_neg (show ¬ (false = true) by decide)] at H; exact H
         clear H
         have H := H1
         clear H1
         by_cases c9 : 0 ≤ x5_1
         case neg =>
          rw [if_neg c9] at H
          exact absurd H (by simp)
         rw [if_pos c9] at H
         have c9b0 : decide (0 ≤ x5_1) = true := decide_eq_true c9
         clear c9
         by_cases c10 : x5_1 < (l0.length : Int)
         case neg =>
          rw [if_neg c10] at H
          exact absurd H (by simp)
         rw [if_pos c10] at H
         have c10b0 : decide (x5_1 < (l0.length : Int)) = true := decide_eq_true c10
         clear c10
         by_cases c11 : ((rd_T31 l0 x5_1).f0) = 3
         ·rw [if_pos c11] at H
          have c11b0 : (((rd_T31 l0 x5_1).f0) == 3) = true := beq_iff_eq.mpr c11
          have c11b1 : (((rd_T31 l0 x5_1).f0) != 3) = false := bne_eq_false_iff_eq.mpr c11
          clear c11
          by_cases c12 : ((rd_T31 l0 x5_1).f0) = 2
          ·rw [if_pos c12] at H
           have c12b0 : (((rd_T31 l0 x5_1).f0) == 2) = true := beq_iff_eq.mpr c12
           have c12b1 : (((rd_T31 l0 x5_1).f0) != 2) = false := bne_eq_false_iff_eq.mpr c12
           clear c12
           have H' := Aside0.mk H
           clear H
           have p348 : 0 ≤ (x5_1 : Int) := of_decide_eq_true q0_
           have q348 : x5_1 < (l0.length : Int) := of_decide_eq_true q0_
           obtain ⟨ad348, e348, hx348_0, hx348_1⟩ := at_T31 HR0.out x5_1 p348 q348
           cases e348
           replace p348 := eq_true p348
           replace q348 := eq_true q348
           have p349 : 0 ≤ (x5_1 : Int) := of_decide_eq_true q0_
           have q349 : x5_1 < (l0.length : Int) := of_decide_eq_true q0_
           obtain ⟨ad349, e349, hx349_0, hx349_1⟩ := at_T31 HR0.out x5_1 p349 q349
           obtain rfl : ad348 = ad349 := (by injection e349)
           replace p349 := eq_true p349
           replace q349 := eq_true q349
           go_wp2
           go_roundg kj2
           case measure => have := HK1.out; have := HJ2.out; omega
           case rel => exact ⟨(x3_1), (x4_1), (wrap64 (x5_1 + 1)), q7_, q7_, q7_, H', ⟨by have := HK1.out; have := HJ2.out; omega⟩, by repeat (first | exact Drawn0.refl _ | apply Drawn0.step)⟩
          ·rw [if_neg c12] at H
           have c12b0 : (((rd_T31 l0 x5_1).f0) == 2) = false := beq_eq_false_iff_ne.mpr c12
           have c12b1 : (((rd_T31 l0 x5_1).f0) != 2) = true := bne_iff_ne.mpr c12
           have H' := Aside0.mk H
           clear H
           have p348 : 0 ≤ (x5_1 : Int) := of_decide_eq_true q0_
           have q348 : x5_1 < (l0.length : Int) := of_decide_eq_true q0_
           obtain ⟨ad348, e348, hx348_0, hx348_1⟩ := at_T31 HR0.out x5_1 p348 q348
           cases e348
           replace p348 := eq_true p348
           replace q348 := eq_true q348
           have p349 : 0 ≤ (x5_1 : Int) := of_decide_eq_true q0_
           have q349 : x5_1 < (l0.length : Int) := of_decide_eq_true q0_
           obtain ⟨ad349, e349, hx349_0, hx349_1⟩ := at_T31 HR0.out x5_1 p349 q349
           obtain rfl : ad348 = ad349 := (by injection e349)
           replace p349 := eq_true p349
           replace q349 := eq_true q349
           go_wp2
           go_roundg kj2
           case measure => have := HK1.out; have := HJ2.out; omega
           case rel => exact ⟨(x3_1), (wrap64 (x4_1 + 1)), (wrap64 (x5_1 + 1)), q7_, q7_, q7_, H', ⟨by have := HK1.out; have := HJ2.out; omega⟩, by repeat (first | exact Drawn0.refl _ | apply Drawn0.step)⟩
         ·rw [if_neg c11] at H
          have c11b0 : (((rd_T31 l0 x5_1).f0) == 3) = false := beq_eq_false_iff_ne.mpr c11
          have c11b1 : (((rd_T31 l0 x5_1).f0) != 3) = true := bne_iff_ne.mpr c11
          by_cases c13 : ((rd_T31 l0 x5_1).f0) = 2
          ·rw [if_pos c13] at H
           have c13b0 : (((rd_T31 l0 x5_1).f0) == 2) = true := beq_iff_eq.mpr c13
           have c13b1 : (((rd_T31 l0 x5_1).f0) != 2) = false := bne_eq_false_iff_eq.mpr c13
           clear c13
           have H' := Aside0.mk H
           clear H
           have p348 : 0 ≤ (x5_1 : Int) := of_decide_eq_true q0_
           have q348 : x5_1 < (l0.length : Int) := of_decide_eq_true q0_
           obtain ⟨ad348, e348, hx348_0, hx348_1⟩ := at_T31 HR0.out x5_1 p348 q348
           cases e348
           replace p348 := eq_true p348
           replace q348 := eq_true q348
           have p350 : 0 ≤ (x5_1 : Int) := of_decide_eq_true q0_
           have q350 : x5_1 < (l0.length : Int) := of_decide_eq_true q0_
           obtain ⟨ad350, e350, hx350_0, hx350_1⟩ := at_T31 HR0.out x5_1 p350 q350
           obtain rfl : ad348 = ad350 := (by injection e350)
           replace p350 := eq_true p350
           replace q350 := eq_true q350
           go_wp2
           go_roundg kj2
           case measure => have := HK1.out; have := HJ2.out; omega
           case rel => exact ⟨(wrap64 (x3_1 + 1)), (x4_1), (wrap64 (x5_1 + 1)), q7_, q7_, q7_, H', ⟨by have := HK1.out; have := HJ2.out; omega⟩, by repeat (first | exact Drawn0.refl _ | apply Drawn0.step)⟩
          ·rw [if_neg c13] at H
           have c13b0 : (((rd_T31 l0 x5_1).f0) == 2) = false := beq_eq_false_iff_ne.mpr c13
           have c13b1 : (((rd_T31 l0 x5_1).f0) != 2) = true := bne_iff_ne.mpr c13
           have H' := Aside0.mk H
           clear H
           have p348 : 0 ≤ (x5_1 : Int) := of_decide_eq_true q0_
           have q348 : x5_1 < (l0.length : Int) := of_decide_eq_true q0_
           obtain ⟨ad348, e348, hx348_0, hx348_1⟩ := at_T31 HR0.out x5_1 p348 q348
           cases e348
           replace p348 := eq_true p348
           replace q348 := eq_true q348
           have p350 : 0 ≤ (x5_1 : Int) := of_decide_eq_true q0_
           have q350 : x5_1 < (l0.length : Int) := of_decide_eq_true q0_
           obtain ⟨ad350, e350, hx350_0, hx350_1⟩ := at_T31 HR0.out x5_1 p350 q350
           obtain rfl : ad348 = ad350 := (by injection e350)
           replace p350 := eq_true p350
           replace q350 := eq_true q350
           go_wp2
           go_roundg kj2
           case measure => have := HK1.out; have := HJ2.out; omega
           case rel => exact ⟨(wrap64 (x3_1 + 1)), (wrap64 (x4_1 + 1)), (wrap64 (x5_1 + 1)), q7_, q7_, q7_, H', ⟨by have := HK1.out; have := HJ2.out; omega⟩, by repeat (first | exact Drawn0.refl _ | apply Drawn0.step)⟩
     ·rw [if_neg c2] at H
      have c2b0 : decide (x5_1 < (l0.length : Int)) = false := decide_eq_false c2
      clear c2
      by_cases c14 : x3_1 ≤ 300
      ·rw [if_pos c14] at H
       have c14b0 : decide (x3_1 ≤ 300) = true := decide_eq_true c14
       clear c14
       obtain rfl := Option.some.inj H
       go_wp2
       go_ret
       exact ⟨by first | rfl | (simp; done) | (simp [*]; done), by repeat (first | exact Drawn0.refl _ | apply Drawn0.step)⟩
      ·rw [if_neg c14] at H
       have c14b0 : decide (x3_1 ≤ 300) = false := decide_eq_false c14
       clear c14
       obtain rfl := Option.some.inj H
       go_wp2
       go_ret
       exact ⟨by first | rfl | (simp; done) | (simp [*]; done), by repeat (first | exact Drawn0.refl _ | apply Drawn0.step)⟩

end Go.Proofs.Ytjdjcbjeklliaaa.PFnLeast
-- (flat)
-- (thin)
