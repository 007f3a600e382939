-- Made by a program (the kit's print with additions of this session: wip/tools/patch_print.py, ext.py).
-- (turned)
import Derived.Test.YtcgelllmdcnmfaaPFnExactLivesInx0
import Derived.Test.YtcgelllmdcnmfaaPFnExactLivesInx7
import Derived.Test.YtcgelllmdcnmfaaPFnExactLivesInx8
namespace Go.Proofs.Ytcgelllmdcnmfaa.PFnExactLivesIn
open Go.RowKit Go.Proofs.YtcgelllmdcnmfaaW.PrintWords Go.Proofs.YtcgelllmdcnmfaaW.PrintLast Go.Proofs.YtcgelllmdcnmfaaW.PrintMore
attribute [local go_sem] max2_int min2_int max_two min_two max_three min_three max_four min_four   -- for this text's walks alone
set_option linter.unusedVariables false
set_option linter.unusedSimpArgs false

def bv9_0 : Array Bool := #[false, false, false, false, false, false, false, false, false, false, false, false, false, false, false, false, false, false, false, false, false, false, false, false, false, false, false, false, false, false]
def bv9_1 : Array Bool := #[true, false, false, false, false, false, false, false, false, false, false, false, false, false, false, false, false, false, false, false, false, false, false, false, false, false, false, false, false, false]
def bv9_2 : Array Bool := #[true, true, false, false, false, false, false, false, false, false, false, false, false, false, false, false, false, false, false, false, false, false, false, false, false, false, false, false, false, false]
def bv9_3 : Array Bool := #[true, true, true, false, false, false, false, false, false, false, false, false, false, false, false, false, false, false, false, false, false, false, false, false, false, false, false, false, false, false]
def bv9_4 : Array Bool := #[true, true, true, true, false, false, false, false, false, false, false, false, false, false, false, false, false, false, false, false, false, false, false, false, false, false, false, false, false, false]
def bv9_5 : Array Bool := #[true, true, true, true, true, false, false, false, false, false, false, false, false, false, false, false, false, false, false, false, false, false, false, false, false, false, false, false, false, false]
def bv9_6 : Array Bool := #[true, true, true, true, true, true, false, false, false, false, false, false, false, false, false, false, false, false, false, false, false, false, false, false, false, false, false, false, false, false]
def bv9_7 : Array Bool := #[true, true, true, true, true, true, false, true, false, false, false, false, false, false, false, false, false, false, false, false, false, false, false, false, false, false, false, false, false, false]
def bv9_8 : Array Bool := #[true, true, true, true, true, true, false, true, true, false, false, false, false, false, false, false, false, false, false, false, false, false, false, false, false, false, false, false, false, false]
def bv9_9 : Array Bool := #[true, true, true, true, true, true, true, true, true, false, false, false, false, false, false, false, false, false, false, false, false, false, false, false, false, false, false, false, false, false]
def bv9_10 : Array Bool := #[true, true, true, true, true, true, true, true, true, true, false, false, false, false, false, false, false, false, false, false, false, false, false, false, false, false, false, false, false, false]
def bv9_11 : Array Bool := #[true, true, true, true, true, true, true, true, true, true, true, false, false, false, false, false, false, false, false, false, false, false, false, false, false, false, false, false, false, false]
def bv9_12 : Array Bool := #[true, true, true, true, true, true, true, true, true, true, true, true, false, false, false, false, false, false, false, false, false, false, false, false, false, false, false, false, false, false]
def bv9_13 : Array Bool := #[true, true, true, true, true, true, true, true, true, true, true, true, true, false, false, false, false, false, false, false, false, false, false, false, false, false, false, false, false, false]
def bv9_14 : Array Bool := #[true, true, true, true, true, true, true, true, true, true, true, true, true, true, false, false, false, false, false, false, false, false, false, false, false, false, false, false, false, false]
def bv9_15 : Array Bool := #[true, true, true, true, true, true, true, true, true, true, true, true, true, true, false, true, false, false, false, false, false, false, false, false, false, false, false, false, false, false]
def bv9_16 : Array Bool := #[true, true, true, true, true, true, true, true, true, true, true, true, true, true, false, true, true, false, false, false, false, false, false, false, false, false, false, false, false, false]
def bv9_17 : Array Bool := #[true, true, true, true, true, true, true, true, true, true, true, true, true, true, true, true, true, false, false, false, false, false, false, false, false, false, false, false, false, false]
def bv9_18 : Array Bool := #[true, true, true, true, true, true, true, true, true, true, true, true, true, true, true, true, true, true, false, false, false, false, false, false, false, false, false, false, false, false]
def bv9_19 : Array Bool := #[true, true, true, true, true, true, true, true, true, true, true, true, true, true, true, true, true, true, true, false, false, false, false, false, false, false, false, false, false, false]
def bv9_20 : Array Bool := #[true, true, true, true, true, true, true, true, true, true, true, true, true, true, true, true, true, true, true, true, false, false, false, false, false, false, false, false, false, false]
def bv9_21 : Array Bool := #[true, true, true, true, true, true, true, true, true, true, true, true, true, true, true, true, true, true, true, true, true, false, false, false, false, false, false, false, false, false]
def bv9_22 : Array Bool := #[true, true, true, true, true, true, true, true, true, true, true, true, true, true, true, true, true, true, true, true, true, true, false, false, false, false, false, false, false, false]
def bv9_23 : Array Bool := #[true, true, true, true, true, true, true, true, true, true, true, true, true, true, true, true, true, true, true, true, true, true, true, false, false, false, false, false, false, false]
def bv9_24 : Array Bool := #[true, true, true, true, true, true, true, true, true, true, true, true, true, true, true, true, true, true, true, true, true, true, true, true, false, false, false, false, false, false]
def bv9_25 : Array Bool := #[true, true, true, true, true, true, true, true, true, true, true, true, true, true, true, true, true, true, true, true, true, true, true, true, true, true, true, false, false, false]
def bv9_26 : Array Bool := #[true, true, true, true, true, true, true, true, true, true, true, true, true, true, true, true, true, true, true, true, true, true, true, true, true, true, true, true, false, false]
def bv9_27 : Array Bool := #[true, true, true, true, true, true, true, true, true, true, true, true, true, true, true, true, true, true, true, true, true, true, true, true, true, true, true, true, true, false]
def bv9_28 : Array Bool := #[true, true, true, true, true, true, true, true, true, true, true, true, true, true, true, true, true, true, true, true, true, true, true, true, true, true, true, true, true, true]
def bv9_29 : Array Bool := #[true, true, true, true, true, true, true, true, true, true, true, true, true, true, true, true, true, true, true, true, true, true, true, true, true, false, false, false, false, false]
def bv9_30 : Array Bool := #[true, true, true, true, true, true, true, true, true, true, true, true, true, true, true, true, true, true, true, true, true, true, true, true, true, true, false, false, false, false]
def bv9_31 : Array Bool := #[true, true, true, true, true, true, true, true, true, true, true, true, true, true, true, false, false, false, false, false, false, false, false, false, false, false, false, false, false, false]
def bv9_32 : Array Bool := #[true, true, true, true, true, true, true, true, true, true, true, true, true, true, true, true, false, false, false, false, false, false, false, false, false, false, false, false, false, false]
/-! ### impl_bodiesOk: function 62 -/
mutual
def impl_bodiesOk.l0 : Nat → List Int → List Int → List (S68) → Int → Int → List (List Int) → List (S68) → Option (Bool)
  | 0, _, _, _, _, _, _, _ => none
  | k + 1, x1, x5, x16, x17, x18, x280000, x280001 => if x18 < x17 then (if 0 ≤ x18 then (if x18 < (x16.length : Int) then ((impl_LineOk.f ((rd_T68 x16 x18).f0)).bind fun t285 => (if t285 = true then ((impl_isPlace.f ((rd_T68 x16 x18).f1) (x1.length : Int)).bind fun t286 => (if t286 = true then (if 0 ≤ ((rd_T68 x16 x18).f1) then (if ((rd_T68 x16 x18).f1) < (x5.length : Int) then (if ((rd_T68 x16 x18).f2) = (rd x5 ((rd_T68 x16 x18).f1)) then ((impl_ascends.f k ((rd_T68 x16 x18).f3) (x1.length : Int)).bind fun t288 => (impl_bodiesOk.j1 k x1 x5 x16 x17 x18 (!t288) x280000 x280001 ((rd_T68 x16 x18).f0) ((rd_T68 x16 x18).f1) ((rd_T68 x16 x18).f2) ((rd_T68 x16 x18).f3))) else (impl_bodiesOk.j1 k x1 x5 x16 x17 x18 true x280000 x280001 ((rd_T68 x16 x18).f0) ((rd_T68 x16 x18).f1) ((rd_T68 x16 x18).f2) ((rd_T68 x16 x18).f3))) else (none)) else (none)) else (impl_bodiesOk.j1 k x1 x5 x16 x17 x18 true x280000 x280001 ((rd_T68 x16 x18).f0) ((rd_T68 x16 x18).f1) ((rd_T68 x16 x18).f2) ((rd_T68 x16 x18).f3)))) else (impl_bodiesOk.j1 k x1 x5 x16 x17 x18 true x280000 x280001 ((rd_T68 x16 x18).f0) ((rd_T68 x16 x18).f1) ((rd_T68 x16 x18).f2) ((rd_T68 x16 x18).f3)))) else (none)) else (none)) else (impl_bodiesOk.l2 k x5 x1 (x1.length : Int) 0 x280000 x280001)
def impl_bodiesOk.j1 : Nat → List Int → List Int → List (S68) → Int → Int → Bool → List (List Int) → List (S68) → ByteArray → Int → Int → List Int → Option (Bool)
  | 0, _, _, _, _, _, _, _, _, _, _, _, _ => none
  | k + 1, x1, x5, x16, x17, x18, x51, x280000, x280001, x285000, x285001, x285002, x285003 => if x51 = true then (some false) else (if 0 ≤ x285001 then (if x285001 < (x5.length : Int) then (impl_bodiesOk.l1 k x1 (x5.set (x285001 : Int).toNat (wrap64 ((rd x5 x285001) + 1))) x16 x17 x18 x285003 (x285003.length : Int) 0 x280000 x280001 x285000 x285001 x285002 x285003) else (none)) else (none))
def impl_bodiesOk.l1 : Nat → List Int → List Int → List (S68) → Int → Int → List Int → Int → Int → List (List Int) → List (S68) → ByteArray → Int → Int → List Int → Option (Bool)
  | 0, _, _, _, _, _, _, _, _, _, _, _, _, _, _ => none
  | k + 1, x1, x5, x16, x17, x18, x60, x61, x62, x280000, x280001, x285000, x285001, x285002, x285003 => if x62 < x61 then (if 0 ≤ x62 then (if x62 < (x60.length : Int) then (if 0 ≤ (rd x60 x62) then (if (rd x60 x62) < (x280000.length : Int) then ((impl_unionOf.f k x1 (rd_L1 x280000 (rd x60 x62))).bind fun t293 => ((impl_Body_isLive.f k x285000 x285001 x285002 x285003 t293).bind fun t294 => (if t294 = true then (impl_bodiesOk.l1 k x1 x5 x16 x17 x18 x60 x61 (wrap64 (x62 + 1)) x280000 x280001 x285000 x285001 x285002 x285003) else (some false)))) else (none)) else (none)) else (none)) else (none)) else (impl_bodiesOk.l0 k x1 x5 x16 x17 (wrap64 (x18 + 1)) x280000 x280001)
def impl_bodiesOk.l2 : Nat → List Int → List Int → Int → Int → List (List Int) → List (S68) → Option (Bool)
  | 0, _, _, _, _, _, _ => none
  | k + 1, x5, x78, x79, x80, x280000, x280001 => if x80 < x79 then (if 0 ≤ x80 then (if x80 < (x78.length : Int) then (if x80 < (x5.length : Int) then (if (rd x5 x80) > 80 then (some false) else ((impl_Weave_liveIn.f k x280000 x280001 (rd x78 x80)).bind fun t297 => (if (t297.length : Int) > 80 then (some false) else (impl_bodiesOk.l2 k x5 x78 x79 (wrap64 (x80 + 1)) x280000 x280001)))) else (none)) else (none)) else (none)) else (some true)
end
def impl_bodiesOk.f (k : Nat) (l0_0 : List (List Int)) (l0_1 : List (S68)) (l1 : List Int) : Option (Bool) := if 0 ≤ (l1.length : Int) then (if ((l1.length : Int) : Int).toNat ≤ 35184372088832 then (impl_bodiesOk.l0 k l1 (List.replicate ((l1.length : Int) : Int).toNat 0) l0_1 (l0_1.length : Int) 0 l0_0 l0_1) else (none)) else (none)
theorem impl_bodiesOk.mono_l : ∀ k, (∀ y0 y1 y2 y3 y4 y5 y6, LeO (impl_bodiesOk.l0 k y0 y1 y2 y3 y4 y5 y6) (impl_bodiesOk.l0 (k + 1) y0 y1 y2 y3 y4 y5 y6)) ∧ (∀ y0 y1 y2 y3 y4 y5 y6 y7 y8 y9 y10 y11, LeO (impl_bodiesOk.j1 k y0 y1 y2 y3 y4 y5 y6 y7 y8 y9 y10 y11) (impl_bodiesOk.j1 (k + 1) y0 y1 y2 y3 y4 y5 y6 y7 y8 y9 y10 y11)) ∧ (∀ y0 y1 y2 y3 y4 y5 y6 y7 y8 y9 y10 y11 y12 y13, LeO (impl_bodiesOk.l1 k y0 y1 y2 y3 y4 y5 y6 y7 y8 y9 y10 y11 y12 y13) (impl_bodiesOk.l1 (k + 1) y0 y1 y2 y3 y4 y5 y6 y7 y8 y9 y10 y11 y12 y13)) ∧ (∀ y0 y1 y2 y3 y4 y5, LeO (impl_bodiesOk.l2 k y0 y1 y2 y3 y4 y5) (impl_bodiesOk.l2 (k + 1) y0 y1 y2 y3 y4 y5))
  | 0 => ⟨fun _ _ _ _ _ _ _ r h => by simp [impl_bodiesOk.l0] at h, fun _ _ _ _ _ _ _ _ _ _ _ _ r h => by simp [impl_bodiesOk.j1] at h, fun _ _ _ _ _ _ _ _ _ _ _ _ _ _ r h => by simp [impl_bodiesOk.l1] at h, fun _ _ _ _ _ _ r h => by simp [impl_bodiesOk.l2] at h⟩
  | k + 1 => by
    obtain ⟨ih0, ih1, ih2, ih3⟩ := impl_bodiesOk.mono_l k
    refine ⟨?_, ?_, ?_, ?_⟩
    ·intro y0 y1 y2 y3 y4 y5 y6
     unfold impl_bodiesOk.l0
     repeat' first
     | (with_reducible exact ih0 _ _ _ _ _ _ _)
     | (with_reducible exact ih1 _ _ _ _ _ _ _ _ _ _ _ _)
     | (with_reducible exact ih2 _ _ _ _ _ _ _ _ _ _ _ _ _ _)
     | (with_reducible exact ih3 _ _ _ _ _ _)
     | (with_reducible exact impl_Body_isLive.mono _ _ _ _ _ _)
     | (with_reducible exact impl_Weave_liveIn.mono _ _ _ _)
     | (with_reducible exact impl_ascends.mono _ _ _)
     | (with_reducible exact impl_unionOf.mono _ _ _)
     | (with_reducible exact LeO.refl _)
     | (with_reducible exact LeO.none _)
     | (with_reducible refine LeO.ite ?_ ?_)
     | (with_reducible refine LeO.bind ?_ (fun _ => ?_))
     | exact ih0 _ _ _ _ _ _ _
     | exact ih1 _ _ _ _ _ _ _ _ _ _ _ _
     | exact ih2 _ _ _ _ _ _ _ _ _ _ _ _ _ _
     | exact ih3 _ _ _ _ _ _
     | exact impl_Body_isLive.mono _ _ _ _ _ _
     | exact impl_Weave_liveIn.mono _ _ _ _
     | exact impl_ascends.mono _ _ _
     | exact impl_unionOf.mono _ _ _
     | exact LeO.none _
     | refine LeO.ite ?_ ?_
     | refine LeO.bind ?_ (fun _ => ?_)
    ·intro y0 y1 y2 y3 y4 y5 y6 y7 y8 y9 y10 y11
     unfold impl_bodiesOk.j1
     repeat' first
     | (with_reducible exact ih0 _ _ _ _ _ _ _)
     | (with_reducible exact ih1 _ _ _ _ _ _ _ _ _ _ _ _)
     | (with_reducible exact ih2 _ _ _ _ _ _ _ _ _ _ _ _ _ _)
     | (with_reducible exact ih3 _ _ _ _ _ _)
     | (with_reducible exact impl_Body_isLive.mono _ _ _ _ _ _)
     | (with_reducible exact impl_Weave_liveIn.mono _ _ _ _)
     | (with_reducible exact impl_ascends.mono _ _ _)
     | (with_reducible exact impl_unionOf.mono _ _ _)
     | (with_reducible exact LeO.refl _)
     | (with_reducible exact LeO.none _)
     | (with_reducible refine LeO.ite ?_ ?_)
     | (with_reducible refine LeO.bind ?_ (fun _ => ?_))
     | exact ih0 _ _ _ _ _ _ _
     | exact ih1 _ _ _ _ _ _ _ _ _ _ _ _
     | exact ih2 _ _ _ _ _ _ _ _ _ _ _ _ _ _
     | exact ih3 _ _ _ _ _ _
     | exact impl_Body_isLive.mono _ _ _ _ _ _
     | exact impl_Weave_liveIn.mono _ _ _ _
     | exact impl_ascends.mono _ _ _
     | exact impl_unionOf.mono _ _ _
     | exact LeO.none _
     | refine LeO.ite ?_ ?_
     | refine LeO.bind ?_ (fun _ => ?_)
    ·intro y0 y1 y2 y3 y4 y5 y6 y7 y8 y9 y10 y11 y12 y13
     unfold impl_bodiesOk.l1
     repeat' first
     | (with_reducible exact ih0 _ _ _ _ _ _ _)
     | (with_reducible exact ih1 _ _ _ _ _ _ _ _ _ _ _ _)
     | (with_reducible exact ih2 _ _ _ _ _ _ _ _ _ _ _ _ _ _)
     | (with_reducible exact ih3 _ _ _ _ _ _)
     | (with_reducible exact impl_Body_isLive.mono _ _ _ _ _ _)
     | (with_reducible exact impl_Weave_liveIn.mono _ _ _ _)
     | (with_reducible exact impl_ascends.mono _ _ _)
     | (with_reducible exact impl_unionOf.mono _ _ _)
     | (with_reducible exact LeO.refl _)
     | (with_reducible exact LeO.none _)
     | (with_reducible refine LeO.ite ?_ ?_)
     | (with_reducible refine LeO.bind ?_ (fun _ => ?_))
     | exact ih0 _ _ _ _ _ _ _
     | exact ih1 _ _ _ _ _ _ _ _ _ _ _ _
     | exact ih2 _ _ _ _ _ _ _ _ _ _ _ _ _ _
     | exact ih3 _ _ _ _ _ _
     | exact impl_Body_isLive.mono _ _ _ _ _ _
     | exact impl_Weave_liveIn.mono _ _ _ _
     | exact impl_ascends.mono _ _ _
     | exact impl_unionOf.mono _ _ _
     | exact LeO.none _
     | refine LeO.ite ?_ ?_
     | refine LeO.bind ?_ (fun _ => ?_)
    ·intro y0 y1 y2 y3 y4 y5
     unfold impl_bodiesOk.l2
     repeat' first
     | (with_reducible exact ih0 _ _ _ _ _ _ _)
     | (with_reducible exact ih1 _ _ _ _ _ _ _ _ _ _ _ _)
     | (with_reducible exact ih2 _ _ _ _ _ _ _ _ _ _ _ _ _ _)
     | (with_reducible exact ih3 _ _ _ _ _ _)
     | (with_reducible exact impl_Body_isLive.mono _ _ _ _ _ _)
     | (with_reducible exact impl_Weave_liveIn.mono _ _ _ _)
     | (with_reducible exact impl_ascends.mono _ _ _)
     | (with_reducible exact impl_unionOf.mono _ _ _)
     | (with_reducible exact LeO.refl _)
     | (with_reducible exact LeO.none _)
     | (with_reducible refine LeO.ite ?_ ?_)
     | (with_reducible refine LeO.bind ?_ (fun _ => ?_))
     | exact ih0 _ _ _ _ _ _ _
     | exact ih1 _ _ _ _ _ _ _ _ _ _ _ _
     | exact ih2 _ _ _ _ _ _ _ _ _ _ _ _ _ _
     | exact ih3 _ _ _ _ _ _
     | exact impl_Body_isLive.mono _ _ _ _ _ _
     | exact impl_Weave_liveIn.mono _ _ _ _
     | exact impl_ascends.mono _ _ _
     | exact impl_unionOf.mono _ _ _
     | exact LeO.none _
     | refine LeO.ite ?_ ?_
     | refine LeO.bind ?_ (fun _ => ?_)
theorem impl_bodiesOk.mono : ∀ a0 a1 a2 k, LeO (impl_bodiesOk.f k a0 a1 a2) (impl_bodiesOk.f (k + 1) a0 a1 a2) := by
  intro a0 a1 a2 k
  obtain ⟨ih0, ih1, ih2, ih3⟩ := impl_bodiesOk.mono_l k
  unfold impl_bodiesOk.f
  repeat' first
     | (with_reducible exact ih0 _ _ _ _ _ _ _)
     | (with_reducible exact ih1 _ _ _ _ _ _ _ _ _ _ _ _)
     | (with_reducible exact ih2 _ _ _ _ _ _ _ _ _ _ _ _ _ _)
     | (with_reducible exact ih3 _ _ _ _ _ _)
     | (with_reducible exact impl_Body_isLive.mono _ _ _ _ _ _)
     | (with_reducible exact impl_Weave_liveIn.mono _ _ _ _)
     | (with_reducible exact impl_ascends.mono _ _ _)
     | (with_reducible exact impl_unionOf.mono _ _ _)
     | (with_reducible exact LeO.refl _)
     | (with_reducible exact LeO.none _)
     | (with_reducible refine LeO.ite ?_ ?_)
     | (with_reducible refine LeO.bind ?_ (fun _ => ?_))
     | exact ih0 _ _ _ _ _ _ _
     | exact ih1 _ _ _ _ _ _ _ _ _ _ _ _
     | exact ih2 _ _ _ _ _ _ _ _ _ _ _ _ _ _
     | exact ih3 _ _ _ _ _ _
     | exact impl_Body_isLive.mono _ _ _ _ _ _
     | exact impl_Weave_liveIn.mono _ _ _ _
     | exact impl_ascends.mono _ _ _
     | exact impl_unionOf.mono _ _ _
     | exact LeO.none _
     | refine LeO.ite ?_ ?_
     | refine LeO.bind ?_ (fun _ => ?_)
def impl_bodiesOk.T5 : Bool × List (List Nat × List Nat) := (true, [([], []), ([0], [0]), ([1], [1]), ([2], [2]), ([3, 2], [3]), ([4], [4]), ([5, 4], [4, 5]), ([4], [4]), ([7, 4], [4, 7]), ([6, 8, 4, 4], [4, 6, 8]), ([9, 4], [4, 9]), ([4, 10], [4, 10]), ([11, 9], [11]), ([12], [12]), ([13, 12], [12, 13]), ([12], [12]), ([12], [12]), ([16, 12], [12, 16]), ([15, 17, 12], [12, 15, 17]), ([18, 12], [12, 18]), ([14, 19, 12], [12, 14, 19]), ([12, 20], [12, 20]), ([21, 12], [21]), ([22], [22]), ([23, 22], [22, 23]), ([22], [22]), ([25, 22], [22, 25]), ([24, 26, 22, 22], [22, 24, 26]), ([27, 22], [22, 27]), ([22, 28], [22, 28])])
def impl_bodiesOk.B5 : List Nat := [0, 1, 3, 7, 15, 31, 63, 31, 159, 511, 1023, 2047, 4095, 8191, 16383, 8191, 8191, 73727, 237567, 499711, 1048575, 2097151, 4194303, 8388607, 16777215, 8388607, 41943039, 134217727, 268435455, 536870911]
theorem impl_bodiesOk.tab5 : rtab .any (opsOf Try.f62 5) = impl_bodiesOk.T5 := by kernel_rfl
theorem impl_bodiesOk.bits5 : waitsOk impl_bodiesOk.T5.2 impl_bodiesOk.B5 = true := by kernel_rfl
def impl_bodiesOk.T11 : Bool × List (List Nat × List Nat) := (true, [([], []), ([], []), ([], []), ([2], [2]), ([], []), ([3, 4], [3, 4]), ([5], [5]), ([1, 6], [1, 6]), ([0, 7, 7], [0, 7]), ([8], [8])])
def impl_bodiesOk.B11 : List Nat := [0, 0, 0, 4, 0, 28, 60, 126, 255, 511]
theorem impl_bodiesOk.tab11 : rtab .any (opsOf Try.f62 11) = impl_bodiesOk.T11 := by kernel_rfl
theorem impl_bodiesOk.bits11 : waitsOk impl_bodiesOk.T11.2 impl_bodiesOk.B11 = true := by kernel_rfl
set_option maxHeartbeats 8000000 in
set_option maxRecDepth 100000 in
theorem impl_bodiesOk.calls (k : Nat) (A0_0 : Option Addr) (c0_0 : Nat) (l0_0 : List (List Int)) (A0_1 : Option Addr) (c0_1 : Nat) (l0_1 : List (S68)) (A1 : Option Addr) (c1 : Nat) (l1 : List Int) (r : Bool) (w : World) (hr0_0 : Kd.C (Kd.slice 3 (Kd.int .i64)) w A0_0 l0_0.length l0_0) (hc0_0 : l0_0.length ≤ c0_0) (hr0_1 : Kd.C k68 w A0_1 l0_1.length l0_1) (hc0_1 : l0_1.length ≤ c0_1) (hr1 : Kd.C (Kd.int .u64) w A1 l1.length l1) (hc1 : l1.length ≤ c1) (h : impl_bodiesOk.f k l0_0 l0_1 l1 = some r) :
    Calls Try.prog 62 #[.agg #[.slice A0_0 l0_0.length c0_0, .slice A0_1 l0_1.length c0_1], .slice A1 l1.length c1] w fun e w' => e = .returned (.bool r) ∧ Below w.heap.size w w' := by
  have hu30 := Try.underlying30
  have hu68 := Try.underlying68
  have HR0_0 := Aside0.mk hr0_0
  have HC0_0 := Aside0.mk hc0_0
  clear hr0_0 hc0_0
  have HR0_1 := Aside0.mk hr0_1
  have HC0_1 := Aside0.mk hc0_1
  clear hr0_1 hc0_1
  have HR1 := Aside0.mk hr1
  have HC1 := Aside0.mk hc1
  clear hr1 hc1
  have HB := Aside0.mk (Below.refl w.heap.size w)
  have H : (if 0 ≤ (l1.length : Int) then (if ((l1.length : Int) : Int).toNat ≤ 35184372088832 then (impl_bodiesOk.l0 k l1 (List.replicate ((l1.length : Int) : Int).toNat 0) l0_1 (l0_1.length : Int) 0 l0_0 l0_1) else (none)) else (none)) = some r := h
  clear h
  by_cases c3 : 0 ≤ (l1.length : Int)
  case neg =>
    rw [if_neg c3] at H
    exact absurd H (by simp)

  rw [if_pos c3] at H
  have c3b0 := eq_true c3
  have c3b1 : decide (0 ≤ (l1.length : Int)) = true := decide_eq_true c3
  clear c3
  by_cases c4 : ((l1.length : Int) : Int).toNat ≤ 35184372088832
  case neg =>
    rw [if_neg c4] at H
    exact absurd H (by simp)
  rw [if_pos c4] at H
  have c4b0 := eq_true c4
  have c4b1 : decide (((l1.length : Int) : Int).toNat ≤ 35184372088832) = true := decide_eq_true c4
  clear c4
  obtain ⟨y280, hy280⟩ : ∃ y_ : List Int, y_ = (List.replicate ((l1.length : Int) : Int).toNat 0) := ⟨_, rfl⟩
  replace H : (impl_bodiesOk.l0 k l1 y280 l0_1 (l0_1.length : Int) 0 l0_0 l0_1) = some r := by first | (rw [hy280]; with_reducible exact H) | (have H2_ := (Option.bind_some _ _).symm.trans H; rw [hy280]; with_reducible exact H2_) | (have H2_ := (Option.bind_some _ _).symm.trans H; with_reducible exact H2_) | with_reducible exact H | (rw [hy280]; exact H) | exact H
  have Ny280 := Aside0.mk hy280
  clear hy280
  have H' := Aside0.mk H
  clear H
  go_enter Try.func62, Try.ntmps62
  go_wp2_with (first | ((with_reducible refine gate_dst (N := 2) rfl ?_); (try (refine gate_guard (by rfl) ?_; dsimp only)); refine box_event ?hg (N := 2) ?hd (cs := #[.slice A0_0 l0_0.length c0_0, .slice A0_1 l0_1.length c0_1]) (t := 30) ?hr ?_; (case hd => rfl); (case hg => rfl); (case hr => first | (go_simp; done) | (go_simp; rfl)); intro gb279 hg w5 hbox hb; have n0_ := Aside0.mk (below_step q1_ hb); have n1_ := Aside0.mk (hbox); have n2_ := Aside0.mk ((by rw [hg]; exact (below_size q1_) : w.heap.size ≤ gb279)); have n3_ := Aside0.mk ((by rw [hg]; exact (below_size q1_) : w.heap.size ≤ gb279)); clear HB; have HB := n0_; have BK279 := n1_; have GW279 := n2_; have GE279 := n3_; clear n0_ n1_ n2_ n3_; clear hb hbox hg) | ((with_reducible refine gate_dst (N := 14) rfl ?_); (try (refine gate_guard (by rfl) ?_; dsimp only)); refine Kd.R_make (Kd.int .i64) _ 3 rfl (N := 14) rfl 36 _ _ rfl (l1.length : Int) rfl rfl Try.underlying36 (.int .i64 0) 8 info3 rfl (by decide) (by omega) 0 (ok := fun _ => True) (okp := fun _ => True) rfl (fun _ hk => hk) trivial (of_decide_eq_true q2_) (Nat.le_trans (Nat.mul_le_mul_right _ (of_decide_eq_true q2_ : (l1.length : Int).toNat ≤ 35184372088832)) (by omega)) (Below.refl _ _) (Nat.le_refl _) ?_; intro v281 w6 ho7 hb hg_ hnew_; clear hg_ hnew_; (first | rw [← Ny280.out] at ho7 | (simp only [Int.reduceToNat] at ho7; rw [← Ny280.out] at ho7)); have n0_ := Aside0.mk (Kd.R_lower ho7 (below_size q24_)); have n1_ := Aside0.mk (blk_below (g := gb279) (o := .cells #[.slice A0_0 l0_0.length c0_0, .slice A0_1 l0_1.length c0_1] 30 (0, 0)) q29_ hb); have n2_ := Aside0.mk (below_step q24_ hb); clear BK279; clear HB; have HO282 := n0_; have BK279 := n1_; have HB := n2_; clear n0_ n1_ n2_; clear hb ho7; have hcz8_0 : w6.cell? ⟨gb279, 0, none⟩ = some (.slice A0_0 l0_0.length c0_0) := (blk_cell BK279.out 0).trans rfl; have hcz8_1 : w6.cell? ⟨gb279, 1, none⟩ = some (.slice A0_1 l0_1.length c0_1) := (blk_cell BK279.out 1).trans rfl; have hfz8_0 := blk_frozen BK279.out 0; have hfz8_1 := blk_frozen BK279.out 1))
  go_loopg [18] k (fun kq v18 w' => ∃ (x5_1 : List Int) (x18_1 : Int), v18 = .int .i64 x18_1 ∧ Aside0 (impl_bodiesOk.l0 kq l1 x5_1 l0_1 (l0_1.length : Int) x18_1 l0_0 l0_1 = some r) ∧ Aside0 (kq ≤ k) ∧ Aside0 (Kd.R (Kd.int .i64) 3 w' w.heap.size (fun _ => True) v281 x5_1) ∧ Aside0 (w'.heap[gb279]? = some (.cells #[(.slice A0_0 l0_0.length c0_0), (.slice A0_1 l0_1.length c0_1)] 30 (0, 0))) ∧ Aside0 (Below w.heap.size w w'))
  case atStart => exact ⟨(y280), (0), q5_, H', ⟨Nat.le_refl _⟩, ⟨by (with_reducible repeat (first | apply Kd.R_alloc | apply Kd.R_drewN | apply Kd.R_drew)); exact HO282.out⟩, ⟨by (with_reducible repeat (first | refine blk_drewN ?_ _ | refine blk_drew ?_ | refine blk_alloc ?_ _)); exact BK279.out⟩, ⟨by repeat (first | (with_reducible first | exact HB.out | apply below_alloc | apply pw_below_drewN | apply below_drew1 | refine below_set ?_ GE279.out) | exact HB.out)⟩⟩
  case round =>
    clear H'
    try clear c1
    try clear p2
    try clear c3
    try clear c3b0
    try clear c3b1
    try clear c4
    try clear c4b0
    try clear c4b1
    try clear c6
    try clear hcz8_0
    try clear hcz8_1
    try clear hfz8_0
    try clear hfz8_1
    obtain ⟨x5_1, x18_1, rfl, HA, HK1, HO_5, BK279, HB⟩ := hrel
    cases gk with
    | zero => exact absurd HA.out (by simp [impl_bodiesOk.l0])
    | succ k1 =>
     have H := HA.out
     clear HA
     simp only [impl_bodiesOk.l0] at H
     by_cases c9 : x18_1 < (l0_1.length : Int)
     ·rw [if_pos c9] at H
      have c9b0 : decide (x18_1 < (l0_1.length : Int)) = true := decide_eq_true c9
      clear c9
      by_cases c10 : 0 ≤ x18_1
      case neg =>
       rw [if_neg c10] at H
       exact absurd H (by simp)
      rw [if_pos c10] at H
      have c10b0 : decide (0 ≤ x18_1) = true := decide_eq_true c10
      clear c10
      by_cases c11 : x18_1 < (l0_1.length : Int)
      case neg =>
       rw [if_neg c11] at H
       exact absurd H (by simp)
      rw [if_pos c11] at H
      have c11b0 : decide (x18_1 < (l0_1.length : Int)) = true := decide_eq_true c11
      clear c11
      have HC12 := Aside0.mk H
      clear H
      have p283 : 0 ≤ (x18_1 : Int) := of_decide_eq_true q2_
      have q283 : x18_1 < (l0_1.length : Int) := of_decide_eq_true q2_
      obtain ⟨ad283, A283_3, c283_3, e283, hx283_0, hx283_1, hx283_2, hx283_3, hl283_3, hi283_3⟩ := at_T68 HR0_1.out x18_1 p283 q283
      cases e283
      replace hx283_0 := (HB.out.cell (World.block_lt_of_cell? w _ hx283_0)).trans hx283_0
      replace hx283_1 := (HB.out.cell (World.block_lt_of_cell? w _ hx283_1)).trans hx283_1
      replace hx283_2 := (HB.out.cell (World.block_lt_of_cell? w _ hx283_2)).trans hx283_2
      replace hx283_3 := (HB.out.cell (World.block_lt_of_cell? w _ hx283_3)).trans hx283_3
      have HR283_3 := Aside0.mk hi283_3
      have HC283_3 := Aside0.mk hl283_3
      clear hi283_3 hl283_3
      replace p283 := eq_true p283
      replace q283 := eq_true q283
      go_upto_region 5 with (first | ((with_reducible refine gate_dst (N := 7) rfl ?_); (try (refine gate_guard (by rfl) ?_; dsimp only)); refine box_event ?hg (N := 7) ?hd (cs := #[.string (⟨#[]⟩ : ByteArray), .int .i64 0, .int .i64 0, .slice none 0 0]) (t := 68) ?hr ?_; (case hd => rfl); (case hg => rfl); (case hr => first | (go_simp; done) | (go_simp; rfl)); intro gb284 hg w13 hbox hb; have n0_ := Aside0.mk (Kd.R_below q10_ hb); have n1_ := Aside0.mk (blk_below (g := gb279) (o := .cells #[.slice A0_0 l0_0.length c0_0, .slice (some ad283) l0_1.length c0_1] 30 (0, 0)) q29_ hb); have n2_ := Aside0.mk (below_step q24_ hb); have n3_ := Aside0.mk (hbox); have n4_ := Aside0.mk ((by rw [hg]; exact (below_size q24_) : w.heap.size ≤ gb284)); have n5_ := Aside0.mk ((by rw [hg]; exact (below_size q24_) : w.heap.size ≤ gb284)); have n6_ := Aside0.mk ((by rw [hg]; exact Nat.ne_of_lt (blk_lt (g := gb279) (o := .cells #[.slice A0_0 l0_0.length c0_0, .slice (some ad283) l0_1.length c0_1] 30 (0, 0)) q29_) : gb279 ≠ gb284)); have n7_ := Aside0.mk ((by rw [hg]; exact Nat.ne_of_gt (blk_lt (g := gb279) (o := .cells #[.slice A0_0 l0_0.length c0_0, .slice (some ad283) l0_1.length c0_1] 30 (0, 0)) q29_) : gb284 ≠ gb279)); clear HO_5; clear BK279; clear HB; have HO_5 := n0_; have BK279 := n1_; have HB := n2_; have BK284 := n3_; have GW284 := n4_; have GE284 := n5_; have NB279_284 := n6_; have NB284_279 := n7_; clear n0_ n1_ n2_ n3_ n4_ n5_ n6_ n7_; clear hb hbox hg; have hnb14 := NB284_279.out; have hnc14 := NB279_284.out; have hcz15_0 : w13.cell? ⟨gb284, 0, none⟩ = some (.string (⟨#[]⟩ : ByteArray)) := (blk_cell BK284.out 0).trans rfl; have hcz15_1 : w13.cell? ⟨gb284, 1, none⟩ = some (.int .i64 0) := (blk_cell BK284.out 1).trans rfl; have hcz15_2 : w13.cell? ⟨gb284, 2, none⟩ = some (.int .i64 0) := (blk_cell BK284.out 2).trans rfl; have hcz15_3 : w13.cell? ⟨gb284, 3, none⟩ = some (.slice none 0 0) := (blk_cell BK284.out 3).trans rfl; have hfz15_0 := blk_frozen BK284.out 0; have hfz15_1 := blk_frozen BK284.out 1; have hfz15_2 := blk_frozen BK284.out 2; have hfz15_3 := blk_frozen BK284.out 3))
      (try simp only [Act.put, List.setIfInBounds_toArray, List.set_cons_zero, List.set_cons_succ])
      go_cut [51] (fun v51 wc => ∃ (kq : Nat) (x51_11 : Bool), v51 = .bool x51_11 ∧ Aside0 (impl_bodiesOk.j1 kq l1 x5_1 l0_1 (l0_1.length : Int) x18_1 x51_11 l0_0 l0_1 ((rd_T68 l0_1 x18_1).f0) ((rd_T68 l0_1 x18_1).f1) ((rd_T68 l0_1 x18_1).f2) ((rd_T68 l0_1 x18_1).f3) = some r) ∧ Aside0 (kq ≤ k1) ∧ Aside0 (Kd.R (Kd.int .i64) 3 wc w.heap.size (fun _ => True) v281 x5_1) ∧ Aside0 (wc.heap[gb279]? = some (.cells #[(.slice A0_0 l0_0.length c0_0), (.slice (some ad283) l0_1.length c0_1)] 30 (0, 0))) ∧ Aside0 (wc.heap[gb284]? = some (.cells #[.string ((rd_T68 l0_1 x18_1).f0), .int .i64 ((rd_T68 l0_1 x18_1).f1), .int .i64 ((rd_T68 l0_1 x18_1).f2), (.slice A283_3 ((rd_T68 l0_1 x18_1).f3).length c283_3)] 68 (0, 0))) ∧ Aside0 (Below w.heap.size w wc))
      case first =>
       have H := HC12.out
       clear HC12
       replace H := Option.bind_eq_some_iff.mp H
       obtain ⟨t285, A160, H⟩ := H
       replace H : (if t285 = true then ((impl_isPlace.f ((rd_T68 l0_1 x18_1).f1) (l1.length : Int)).bind fun t286 => (if t286 = true then (if 0 ≤ ((rd_T68 l0_1 x18_1).f1) then (if ((rd_T68 l0_1 x18_1).f1) < (x5_1.length : Int) then (if ((rd_T68 l0_1 x18_1).f2) = (rd x5_1 ((rd_T68 l0_1 x18_1).f1)) then ((impl_ascends.f k1 ((rd_T68 l0_1 x18_1).f3) (l1.length : Int)).bind fun t288 => (impl_bodiesOk.j1 k1 l1 x5_1 l0_1 (l0_1.length : Int) x18_1 (!t288) l0_0 l0_1 ((rd_T68 l0_1 x18_1).f0) ((rd_T68 l0_1 x18_1).f1) ((rd_T68 l0_1 x18_1).f2) ((rd_T68 l0_1 x18_1).f3))) else (impl_bodiesOk.j1 k1 l1 x5_1 l0_1 (l0_1.length : Int) x18_1 true l0_0 l0_1 ((rd_T68 l0_1 x18_1).f0) ((rd_T68 l0_1 x18_1).f1) ((rd_T68 l0_1 x18_1).f2) ((rd_T68 l0_1 x18_1).f3))) else (none)) else (none)) else (impl_bodiesOk.j1 k1 l1 x5_1 l0_1 (l0_1.length : Int) x18_1 true l0_0 l0_1 ((rd_T68 l0_1 x18_1).f0) ((rd_T68 l0_1 x18_1).f1) ((rd_T68 l0_1 x18_1).f2) ((rd_T68 l0_1 x18_1).f3)))) else (impl_bodiesOk.j1 k1 l1 x5_1 l0_1 (l0_1.length : Int) x18_1 true l0_0 l0_1 ((rd_T68 l0_1 x18_1).f0) ((rd_T68 l0_1 x18_1).f1) ((rd_T68 l0_1 x18_1).f2) ((rd_T68 l0_1 x18_1).f3))) = some r := H
       have A16 := Aside0.mk A160
       clear A160
       by_cases c17 : t285 = true
       ·subst c17
        have H1 : ((impl_isPlace.f ((rd_T68 l0_1 x18_1).f1) (l1.length : Int)).bind fun t286 => (if t286 = true then (if 0 ≤ ((rd_T68 l0_1 x18_1).f1) then (if ((rd_T68 l0_1 x18_1).f1) < (x5_1.length : Int) then (if ((rd_T68 l0_1 x18_1).f2) = (rd x5_1 ((rd_T68 l0_1 x18_1).f1)) then ((impl_ascends.f k1 ((rd_T68 l0_1 x18_1).f3) (l1.length : Int)).bind fun t288 => (impl_bodiesOk.j1 k1 l1 x5_1 l0_1 (l0_1.length : Int) x18_1 (!t288) l0_0 l0_1 ((rd_T68 l0_1 x18_1).f0) ((rd_T68 l0_1 x18_1).f1) ((rd_T68 l0_1 x18_1).f2) ((rd_T68 l0_1 x18_1).f3))) else (impl_bodiesOk.j1 k1 l1 x5_1 l0_1 (l0_1.length : Int) x18_1 true l0_0 l0_1 ((rd_T68 l0_1 x18_1).f0) ((rd_T68 l0_1 x18_1).f1) ((rd_T68 l0_1 x18_1).f2) ((rd_T68 l0_1 x18_1).f3))) else (none)) else (none)) else (impl_bodiesOk.j1 k1 l1 x5_1 l0_1 (l0_1.length : Int) x18_1 true l0_0 l0_1 ((rd_T68 l0_1 x18_1).f0) ((rd_T68 l0_1 x18_1).f1) ((rd_T68 l0_1 x18_1).f2) ((rd_T68 l0_1 x18_1).f3)))) = some r := by rw [if_pos rfl] at H; exact H
        clear H
        have H := H1
        clear H1
        replace H := Option.bind_eq_some_iff.mp H
        obtain ⟨t286, A180, H⟩ := H
        replace H : (if t286 = true then (if 0 ≤ ((rd_T68 l0_1 x18_1).f1) then (if ((rd_T68 l0_1 x18_1).f1) < (x5_1.length : Int) then (if ((rd_T68 l0_1 x18_1).f2) = (rd x5_1 ((rd_T68 l0_1 x18_1).f1)) then ((impl_ascends.f k1 ((rd_T68 l0_1 x18_1).f3) (l1.length : Int)).bind fun t288 => (impl_bodiesOk.j1 k1 l1 x5_1 l0_1 (l0_1.length : Int) x18_1 (!t288) l0_0 l0_1 ((rd_T68 l0_1 x18_1).f0) ((rd_T68 l0_1 x18_1).f1) ((rd_T68 l0_1 x18_1).f2) ((rd_T68 l0_1 x18_1).f3))) else (impl_bodiesOk.j1 k1 l1 x5_1 l0_1 (l0_1.length : Int) x18_1 true l0_0 l0_1 ((rd_T68 l0_1 x18_1).f0) ((rd_T68 l0_1 x18_1).f1) ((rd_T68 l0_1 x18_1).f2) ((rd_T68 l0_1 x18_1).f3))) else (none)) else (none)) else (impl_bodiesOk.j1 k1 l1 x5_1 l0_1 (l0_1.length : Int) x18_1 true l0_0 l0_1 ((rd_T68 l0_1 x18_1).f0) ((rd_T68 l0_1 x18_1).f1) ((rd_T68 l0_1 x18_1).f2) ((rd_T68 l0_1 x18_1).f3))) = some r := H
        have A18 := Aside0.mk A180
        clear A180
        by_cases c19 : t286 = true
        ·subst c19
         have H1 : (if 0 ≤ ((rd_T68 l0_1 x18_1).f1) then (if ((rd_T68 l0_1 x18_1).f1) < (x5_1.length : Int) then (if ((rd_T68 l0_1 x18_1).f2) = (rd x5_1 ((rd_T68 l0_1 x18_1).f1)) then ((impl_ascends.f k1 ((rd_T68 l0_1 x18_1).f3) (l1.length : Int)).bind fun t288 => (impl_bodiesOk.j1 k1 l1 x5_1 l0_1 (l0_1.length : Int) x18_1 (!t288) l0_0 l0_1 ((rd_T68 l0_1 x18_1).f0) ((rd_T68 l0_1 x18_1).f1) ((rd_T68 l0_1 x18_1).f2) ((rd_T68 l0_1 x18_1).f3))) else (impl_bodiesOk.j1 k1 l1 x5_1 l0_1 (l0_1.length : Int) x18_1 true l0_0 l0_1 ((rd_T68 l0_1 x18_1).f0) ((rd_T68 l0_1 x18_1).f1) ((rd_T68 l0_1 x18_1).f2) ((rd_T68 l0_1 x18_1).f3))) else (none)) else (none)) = some r := by rw [if_pos rfl] at H; exact H
         clear H
         have H := H1
         clear H1
         by_cases c20 : 0 ≤ ((rd_T68 l0_1 x18_1).f1)
         case neg =>
          rw [if_neg c20] at H
          exact absurd H (by simp)
         rw [if_pos c20] at H
         have c20b0 : decide (0 ≤ ((rd_T68 l0_1 x18_1).f1)) = true := decide_eq_true c20
         clear c20
         (first | rw [c20b0] | (simp only [i64_w, i32_w]; rw [c20b0]) | skip)
         by_cases c21 : ((rd_T68 l0_1 x18_1).f1) < (x5_1.length : Int)
         case neg =>
          rw [if_neg c21] at H
          exact absurd H (by simp)
         rw [if_pos c21] at H
         have c21b0 : decide (((rd_T68 l0_1 x18_1).f1) < (x5_1.length : Int)) = true := decide_eq_true c21
         clear c21
         by_cases c22 : ((rd_T68 l0_1 x18_1).f2) = (rd x5_1 ((rd_T68 l0_1 x18_1).f1))
         ·rw [if_pos c22] at H
          have c22b0 : (((rd_T68 l0_1 x18_1).f2) == (rd x5_1 ((rd_T68 l0_1 x18_1).f1))) = true := beq_iff_eq.mpr c22
          have c22b1 : (((rd_T68 l0_1 x18_1).f2) != (rd x5_1 ((rd_T68 l0_1 x18_1).f1))) = false := bne_eq_false_iff_eq.mpr c22
          clear c22
          replace H := Option.bind_eq_some_iff.mp H
          obtain ⟨t288, A230, H⟩ := H
          replace H : (impl_bodiesOk.j1 k1 l1 x5_1 l0_1 (l0_1.length : Int) x18_1 (!t288) l0_0 l0_1 ((rd_T68 l0_1 x18_1).f0) ((rd_T68 l0_1 x18_1).f1) ((rd_T68 l0_1 x18_1).f2) ((rd_T68 l0_1 x18_1).f3)) = some r := H
          have A23 := Aside0.mk A230
          clear A230
          have H' := Aside0.mk H
          clear H
          try go_wp2
          have n0_ : Aside0 (Kd.R (Kd.int .i64) 3 ((((w13.setCell ⟨gb284, 0, none⟩ (.string ((rd_T68 l0_1 x18_1).f0))).setCell ⟨gb284, 1, none⟩ (.int .i64 ((rd_T68 l0_1 x18_1).f1))).setCell ⟨gb284, 2, none⟩ (.int .i64 ((rd_T68 l0_1 x18_1).f2))).setCell ⟨gb284, 3, none⟩ (.slice A283_3 ((rd_T68 l0_1 x18_1).f3).length c283_3)) w.heap.size (fun _ => True) v281 x5_1) := ⟨by (with_reducible repeat (first | apply Kd.R_alloc | apply Kd.R_drewN | apply Kd.R_drew)); exact Kd.R_mono (Kd.R_far (p := ⟨gb284, 3, none⟩) (Kd.R_far (p := ⟨gb284, 2, none⟩) (Kd.R_far (p := ⟨gb284, 1, none⟩) (Kd.R_far (p := ⟨gb284, 0, none⟩) (Kd.R_types HO_5.out BK284.out (by decide)) (fun _ hk => hk.2) (.string ((rd_T68 l0_1 x18_1).f0))) (fun _ hk => hk.2) (.int .i64 ((rd_T68 l0_1 x18_1).f1))) (fun _ hk => hk.2) (.int .i64 ((rd_T68 l0_1 x18_1).f2))) (fun _ hk => hk.2) (.slice A283_3 ((rd_T68 l0_1 x18_1).f3).length c283_3)) (fun _ hk => trivial)⟩
          have n1_ : Aside0 (((((w13.setCell ⟨gb284, 0, none⟩ (.string ((rd_T68 l0_1 x18_1).f0))).setCell ⟨gb284, 1, none⟩ (.int .i64 ((rd_T68 l0_1 x18_1).f1))).setCell ⟨gb284, 2, none⟩ (.int .i64 ((rd_T68 l0_1 x18_1).f2))).setCell ⟨gb284, 3, none⟩ (.slice A283_3 ((rd_T68 l0_1 x18_1).f3).length c283_3)).heap[gb279]? = some (.cells #[.slice A0_0 l0_0.length c0_0, .slice (some ad283) l0_1.length c0_1] 30 (0, 0))) := ⟨by (with_reducible repeat (first | refine blk_drewN ?_ _ | refine blk_drew ?_ | refine blk_alloc ?_ _)); refine blk_far ?_ NB279_284.out _; (with_reducible repeat (first | refine blk_drewN ?_ _ | refine blk_drew ?_ | refine blk_alloc ?_ _)); refine blk_far ?_ NB279_284.out _; (with_reducible repeat (first | refine blk_drewN ?_ _ | refine blk_drew ?_ | refine blk_alloc ?_ _)); refine blk_far ?_ NB279_284.out _; (with_reducible repeat (first | refine blk_drewN ?_ _ | refine blk_drew ?_ | refine blk_alloc ?_ _)); refine blk_far ?_ NB279_284.out _; (with_reducible repeat (first | refine blk_drewN ?_ _ | refine blk_drew ?_ | refine blk_alloc ?_ _)); exact BK279.out⟩
          have n2_ : Aside0 (((((w13.setCell ⟨gb284, 0, none⟩ (.string ((rd_T68 l0_1 x18_1).f0))).setCell ⟨gb284, 1, none⟩ (.int .i64 ((rd_T68 l0_1 x18_1).f1))).setCell ⟨gb284, 2, none⟩ (.int .i64 ((rd_T68 l0_1 x18_1).f2))).setCell ⟨gb284, 3, none⟩ (.slice A283_3 ((rd_T68 l0_1 x18_1).f3).length c283_3)).heap[gb284]? = some (.cells #[.string ((rd_T68 l0_1 x18_1).f0), .int .i64 ((rd_T68 l0_1 x18_1).f1), .int .i64 ((rd_T68 l0_1 x18_1).f2), .slice A283_3 ((rd_T68 l0_1 x18_1).f3).length c283_3] 68 (0, 0))) := ⟨by (with_reducible repeat (first | refine blk_drewN ?_ _ | refine blk_drew ?_ | refine blk_alloc ?_ _)); refine blk_put (cs := #[.string ((rd_T68 l0_1 x18_1).f0), .int .i64 ((rd_T68 l0_1 x18_1).f1), .int .i64 ((rd_T68 l0_1 x18_1).f2), .slice none 0 0]) ?_ 3 _ rfl; (with_reducible repeat (first | refine blk_drewN ?_ _ | refine blk_drew ?_ | refine blk_alloc ?_ _)); refine blk_put (cs := #[.string ((rd_T68 l0_1 x18_1).f0), .int .i64 ((rd_T68 l0_1 x18_1).f1), .int .i64 0, .slice none 0 0]) ?_ 2 _ rfl; (with_reducible repeat (first | refine blk_drewN ?_ _ | refine blk_drew ?_ | refine blk_alloc ?_ _)); refine blk_put (cs := #[.string ((rd_T68 l0_1 x18_1).f0), .int .i64 0, .int .i64 0, .slice none 0 0]) ?_ 1 _ rfl; (with_reducible repeat (first | refine blk_drewN ?_ _ | refine blk_drew ?_ | refine blk_alloc ?_ _)); refine blk_put (cs := #[.string (⟨#[]⟩ : ByteArray), .int .i64 0, .int .i64 0, .slice none 0 0]) ?_ 0 _ rfl; (with_reducible repeat (first | refine blk_drewN ?_ _ | refine blk_drew ?_ | refine blk_alloc ?_ _)); exact BK284.out⟩
          have n3_ : Aside0 (Below w.heap.size w ((((w13.setCell ⟨gb284, 0, none⟩ (.string ((rd_T68 l0_1 x18_1).f0))).setCell ⟨gb284, 1, none⟩ (.int .i64 ((rd_T68 l0_1 x18_1).f1))).setCell ⟨gb284, 2, none⟩ (.int .i64 ((rd_T68 l0_1 x18_1).f2))).setCell ⟨gb284, 3, none⟩ (.slice A283_3 ((rd_T68 l0_1 x18_1).f3).length c283_3))) := ⟨by repeat (first | (with_reducible first | exact HB.out | apply below_alloc | apply pw_below_drewN | apply below_drew1 | refine below_set ?_ GE279.out | refine below_set ?_ GE284.out) | exact HB.out)⟩
          (try clear HO_5)
          (try clear BK279)
          (try clear BK284)
          (try clear HB)
          generalize ((((w13.setCell ⟨gb284, 0, none⟩ (.string ((rd_T68 l0_1 x18_1).f0))).setCell ⟨gb284, 1, none⟩ (.int .i64 ((rd_T68 l0_1 x18_1).f1))).setCell ⟨gb284, 2, none⟩ (.int .i64 ((rd_T68 l0_1 x18_1).f2))).setCell ⟨gb284, 3, none⟩ (.slice A283_3 ((rd_T68 l0_1 x18_1).f3).length c283_3)) = w24 at n0_ n1_ n2_ n3_ ⊢
          have HO_5 := n0_
          have BK279 := n1_
          have BK284 := n2_
          have HB := n3_
          clear n0_ n1_ n2_ n3_
          have n0_ := Aside0.mk (Kd.R_drew HO_5.out)
          have n1_ := Aside0.mk (blk_drew BK279.out)
          have n2_ := Aside0.mk (blk_drew BK284.out)
          have n3_ := Aside0.mk (below_drew1 HB.out)
          clear HO_5
          clear BK279
          clear BK284
          clear HB
          have HO_5 := n0_
          have BK279 := n1_
          have BK284 := n2_
          have HB := n3_
          clear n0_ n1_ n2_ n3_
          have p287 : 0 ≤ (((rd_T68 l0_1 x18_1).f1) : Int) := of_decide_eq_true q2_
          have q287 : ((rd_T68 l0_1 x18_1).f1) < (x5_1.length : Int) := of_decide_eq_true q2_
          obtain ⟨Aq287_, cq287_, eq287_⟩ := Kd.R_slice HO_5.out
          (first | subst eq287_ | clear eq287_)
          obtain ⟨ad287, e287, hx287_0⟩ := Kd.at_int (Kd.R_reads' HO_5.out).2.2 ((rd_T68 l0_1 x18_1).f1) p287 q287
          cases e287
          replace p287 := eq_true p287
          replace q287 := eq_true q287
          refine start_ (n := 30) (S := fun w' => w'.cell? ⟨gb284, 0, none⟩ = some (.string ((rd_T68 l0_1 x18_1).f0)) ∧ w'.cell? ⟨gb284, 1, none⟩ = some (.int .i64 ((rd_T68 l0_1 x18_1).f1)) ∧ w'.cell? ⟨gb284, 2, none⟩ = some (.int .i64 ((rd_T68 l0_1 x18_1).f2)) ∧ w'.cell? ⟨gb284, 3, none⟩ = some (.slice A283_3 ((rd_T68 l0_1 x18_1).f3).length c283_3) ∧ w'.cell? (ad287.add (((rd_T68 l0_1 x18_1).f1)).toNat) = some (.int .i64 (rd x5_1 ((rd_T68 l0_1 x18_1).f1)))) (ds := []) bv9_0 (by kernel_rfl) rfl rfl ⟨(blk_cell BK284.out 0).trans rfl, (blk_cell BK284.out 1).trans rfl, (blk_cell BK284.out 2).trans rfl, (blk_cell BK284.out 3).trans rfl, hx287_0⟩ (fun hHeld => ?_); refine with_tabW impl_bodiesOk.tab5 impl_bodiesOk.bits5 (fun HT_ HW_ => ?_)
          generalize w24.drew = w25 at HO_5 BK279 BK284 HB hx287_0 hHeld ⊢
          refine pure_ (i := 0) (N := some 22) (v := ?_) (a' := ?_) bv9_1 rfl rfl (any_of HT_.out (by kernel_rfl)) (fun _ _ _ h => h) (Or.inl ⟨by rfl, ?_⟩) ?_ ?_
          rotate_left; exact pw_; rotate_left; exact pz_
          refine take_ (i := 1) (N := some 23) (v := ?_) (a' := ?_) bv9_2 rfl rfl (take_ofW HT_.out HW_.out (by kernel_rfl)) (fun _ _ _ h => h) (Or.inl ⟨by rfl, ?_⟩) hHeld ?_ ?_
          rotate_left; exact pw5_; rotate_left; exact pz_
          refine one_ (i := 2) (N := some 24) bv9_3 rfl rfl (one_of HT_.out (by kernel_rfl)) (by decide) (fun K hK => ?_)
          refine goes_ Try.func99 (by kernel_rfl) rfl #[.string ((rd_T68 l0_1 x18_1).f0)] (by rfl) rfl rfl q0_ ?_
          with_reducible refine (impl_LineOk.calls ((rd_T68 l0_1 x18_1).f0) true _ A16.out).mono ?_
          rintro e w' ⟨rfl, ⟨nd, rfl⟩⟩
          refine ⟨_, rfl, ?_⟩
          refine hK.out _ _ ⟨(blk_cell BK284.out 0).trans rfl, (blk_cell BK284.out 1).trans rfl, (blk_cell BK284.out 2).trans rfl, (blk_cell BK284.out 3).trans rfl, hHeld.2.2.2.2⟩ (fun hHeld => ?_)
          clear hK K
          refine norm_ (a' := ?_) ?_ ?_
          rotate_left
          ·show Act.put _ (some 24) _ = _
           simp only [Act.put, List.setIfInBounds_toArray, List.set_cons_zero, List.set_cons_succ, i64_w, i32_w]
           rfl
          refine pure_ (i := 3) (N := some 25) (v := ?_) (a' := ?_) bv9_4 rfl rfl (any_of HT_.out (by kernel_rfl)) (fun _ _ _ h => h) (Or.inl ⟨by rfl, ?_⟩) ?_ ?_
          rotate_left; exact pw_; rotate_left; exact pz_
          refine pure_ (i := 4) (N := some 26) (v := ?_) (a' := ?_) bv9_5 rfl rfl (any_of HT_.out (by kernel_rfl)) (fun _ _ _ h => h) (Or.inl ⟨by rfl, ?_⟩) ?_ ?_
          rotate_left; exact pw_; rotate_left; exact pz_
          refine pure_ (i := 5) (N := some 27) (v := ?_) (a' := ?_) bv9_6 rfl rfl (any_of HT_.out (by kernel_rfl)) (fun _ _ _ h => h) (Or.inl ⟨by rfl, ?_⟩) ?_ ?_
          rotate_left; exact pw_; rotate_left; exact pz_
          refine pure_ (i := 7) (N := some 29) (v := ?_) (a' := ?_) bv9_7 rfl rfl (any_of HT_.out (by kernel_rfl)) (fun _ _ _ h => h) (Or.inl ⟨by rfl, ?_⟩) ?_ ?_
          rotate_left; exact pw_; rotate_left; exact pz_
          refine pure_ (i := 8) (N := some 30) (v := ?_) (a' := ?_) bv9_8 rfl rfl (any_of HT_.out (by kernel_rfl)) (fun _ _ _ h => h) (Or.inl ⟨by rfl, ?_⟩) ?_ ?_
          rotate_left; exact pw_; rotate_left; exact pz_
          refine take_ (i := 6) (N := some 28) (v := ?_) (a' := ?_) bv9_9 rfl rfl (take_ofW HT_.out HW_.out (by kernel_rfl)) (fun _ _ _ h => h) (Or.inl ⟨by rfl, ?_⟩) hHeld ?_ ?_
          rotate_left; exact pw5_; rotate_left; exact pz_
          refine one_ (i := 9) (N := some 31) bv9_10 rfl rfl (one_of HT_.out (by kernel_rfl)) (by decide) (fun K hK => ?_)
          refine goes_ Try.func74 (by kernel_rfl) rfl #[.int .i64 ((rd_T68 l0_1 x18_1).f1), .int .i64 (l1.length : Int)] (by rfl) rfl rfl q0_ ?_
          with_reducible refine (impl_isPlace.calls ((rd_T68 l0_1 x18_1).f1) (l1.length : Int) true _ A18.out).mono ?_
          rintro e w' ⟨rfl, ⟨nd, rfl⟩⟩
          refine ⟨_, rfl, ?_⟩
          obtain ⟨Ao26, co26, eo26⟩ := Kd.R_slice HO_5.out
          (first | subst eo26 | (injection eo26 with f1_ f2_ f3_; have f4_ := f1_.symm; have f5_ := f3_.symm; clear f1_ f2_ f3_; subst f4_; subst f5_))
          refine hK.out _ _ ⟨(blk_cell BK284.out 0).trans rfl, (blk_cell BK284.out 1).trans rfl, (blk_cell BK284.out 2).trans rfl, (blk_cell BK284.out 3).trans rfl, hHeld.2.2.2.2⟩ (fun hHeld => ?_)
          clear hK K
          refine norm_ (a' := ?_) ?_ ?_
          rotate_left
          ·show Act.put _ (some 31) _ = _
           simp only [Act.put, List.setIfInBounds_toArray, List.set_cons_zero, List.set_cons_succ, i64_w, i32_w]
           rfl
          refine pure_ (i := 10) (N := some 32) (v := ?_) (a' := ?_) bv9_11 rfl rfl (any_of HT_.out (by kernel_rfl)) (fun _ _ _ h => h) (Or.inl ⟨by rfl, ?_⟩) ?_ ?_
          rotate_left; exact pw_; rotate_left; exact pz_
          refine pure_ (i := 11) (N := some 33) (v := ?_) (a' := ?_) bv9_12 rfl rfl (any_of HT_.out (by kernel_rfl)) (fun _ _ _ h => h) (Or.inl ⟨by rfl, ?_⟩) ?_ ?_
          rotate_left; exact pw_; rotate_left; exact pz_
          refine pure_ (i := 12) (N := some 34) (v := ?_) (a' := ?_) bv9_13 rfl rfl (any_of HT_.out (by kernel_rfl)) (fun _ _ _ h => h) (Or.inl ⟨by rfl, ?_⟩) ?_ ?_
          rotate_left; exact pw_; rotate_left; exact pz_
          refine pure_ (i := 13) (N := some 35) (v := ?_) (a' := ?_) bv9_14 rfl rfl (any_of HT_.out (by kernel_rfl)) (fun _ _ _ h => h) (Or.inl ⟨by rfl, ?_⟩) ?_ ?_
          rotate_left; exact pw_; rotate_left; exact pz_
          refine pure_ (i := 15) (N := some 37) (v := ?_) (a' := ?_) bv9_15 rfl rfl (any_of HT_.out (by kernel_rfl)) (fun _ _ _ h => h) (Or.inl ⟨by rfl, ?_⟩) ?_ ?_
          rotate_left; exact pw_; rotate_left; exact pz_
          refine pure_ (i := 16) (N := some 38) (v := ?_) (a' := ?_) bv9_16 rfl rfl (any_of HT_.out (by kernel_rfl)) (fun _ _ _ h => h) (Or.inl ⟨by rfl, ?_⟩) ?_ ?_
          rotate_left; exact pw_; rotate_left; exact pz_
          refine take_ (i := 14) (N := some 36) (v := ?_) (a' := ?_) bv9_17 rfl rfl (take_ofW HT_.out HW_.out (by kernel_rfl)) (fun _ _ _ h => h) (Or.inl ⟨by rfl, ?_⟩) hHeld ?_ ?_
          rotate_left; exact pw5_; rotate_left; exact pz_
          refine take_ (i := 17) (N := some 39) (v := ?_) (a' := ?_) bv9_18 rfl rfl (take_ofW HT_.out HW_.out (by kernel_rfl)) (fun _ _ _ h => h) (Or.inl ⟨by rfl, ?_⟩) hHeld ?_ ?_
          rotate_left; exact pw5_; rotate_left; exact pz_
          refine pure_ (i := 18) (N := some 40) (v := ?_) (a' := ?_) bv9_19 rfl rfl (any_of HT_.out (by kernel_rfl)) (fun _ _ _ h => h) (Or.inl ⟨by rfl, ?_⟩) ?_ ?_
          rotate_left; exact pw_; rotate_left; exact pz_
          refine take_ (i := 19) (N := some 41) (v := ?_) (a' := ?_) bv9_20 rfl rfl (take_ofW HT_.out HW_.out (by kernel_rfl)) (fun _ _ _ h => h) (Or.inl ⟨by rfl, ?_⟩) hHeld ?_ ?_
          rotate_left; exact pw5_; rotate_left; exact pz_
          refine pure_ (i := 20) (N := some 42) (v := ?_) (a' := ?_) bv9_21 rfl rfl (any_of HT_.out (by kernel_rfl)) (fun _ _ _ h => h) (Or.inl ⟨by rfl, ?_⟩) ?_ ?_
          rotate_left; exact pw_; rotate_left; exact pz_
          refine pure_ (i := 21) (N := some 43) (v := ?_) (a' := ?_) bv9_22 rfl rfl (any_of HT_.out (by kernel_rfl)) (fun _ _ _ h => h) (Or.inl ⟨by rfl, ?_⟩) ?_ ?_
          rotate_left; exact pw_; rotate_left; exact pz_
          refine pure_ (i := 22) (N := some 44) (v := ?_) (a' := ?_) bv9_23 rfl rfl (any_of HT_.out (by kernel_rfl)) (fun _ _ _ h => h) (Or.inl ⟨by rfl, ?_⟩) ?_ ?_
          rotate_left; exact pw_; rotate_left; exact pz_
          refine pure_ (i := 23) (N := some 45) (v := ?_) (a' := ?_) bv9_24 rfl rfl (any_of HT_.out (by kernel_rfl)) (fun _ _ _ h => h) (Or.inl ⟨by rfl, ?_⟩) ?_ ?_
          rotate_left; exact pw_; rotate_left; exact pz_
          refine pure_ (i := 25) (N := some 47) (v := ?_) (a' := ?_) #[true, true, true, true, true, true, true, true, true, true, true, true, true, true, true, true, true, true, true, true, true, true, true, true, false, true, false, false, false, false] rfl rfl (any_of HT_.out (by kernel_rfl)) (fun _ _ _ h => h) (Or.inl ⟨by rfl, ?_⟩) ?_ ?_
          rotate_left; exact pw_; rotate_left; exact pz_
          refine pure_ (i := 26) (N := some 48) (v := ?_) (a' := ?_) #[true, true, true, true, true, true, true, true, true, true, true, true, true, true, true, true, true, true, true, true, true, true, true, true, false, true, true, false, false, false] rfl rfl (any_of HT_.out (by kernel_rfl)) (fun _ _ _ h => h) (Or.inl ⟨by rfl, ?_⟩) ?_ ?_
          rotate_left; exact pw_; rotate_left; exact pz_
          refine take_ (i := 24) (N := some 46) (v := ?_) (a' := ?_) bv9_25 rfl rfl (take_ofW HT_.out HW_.out (by kernel_rfl)) (fun _ _ _ h => h) (Or.inl ⟨by rfl, ?_⟩) hHeld ?_ ?_
          rotate_left; exact pw5_; rotate_left; exact pz_
          refine one_ (i := 27) (N := some 49) bv9_26 rfl rfl (one_of HT_.out (by kernel_rfl)) (by decide) (fun K hK => ?_)
          refine goes_ Try.func98 (by kernel_rfl) rfl #[.slice A283_3 ((rd_T68 l0_1 x18_1).f3).length c283_3, .int .i64 (l1.length : Int)] (by rfl) rfl rfl q0_ ?_
          with_reducible refine (impl_ascends.calls k1 _ _ ((rd_T68 l0_1 x18_1).f3) (l1.length : Int) t288 _ ?side1 ?side2 A23.out).mono ?_
          (case side1 => exact q37_)
          (case side2 => exact HC283_3.out)
          rintro e w' ⟨rfl, ⟨nd, rfl⟩⟩
          refine ⟨_, rfl, ?_⟩
          refine hK.out _ _ ⟨(blk_cell BK284.out 0).trans rfl, (blk_cell BK284.out 1).trans rfl, (blk_cell BK284.out 2).trans rfl, (blk_cell BK284.out 3).trans rfl, hHeld.2.2.2.2⟩ (fun hHeld => ?_)
          clear hK K
          refine norm_ (a' := ?_) ?_ ?_
          rotate_left
          ·show Act.put _ (some 49) _ = _
           simp only [Act.put, List.setIfInBounds_toArray, List.set_cons_zero, List.set_cons_succ, i64_w, i32_w]
           rfl
          refine pure_ (i := 28) (N := some 50) (v := ?_) (a' := ?_) bv9_27 rfl rfl (any_of HT_.out (by kernel_rfl)) (fun _ _ _ h => h) (Or.inl ⟨by rfl, ?_⟩) ?_ ?_
          rotate_left; exact pw_; rotate_left; exact pz_
          refine pure_ (i := 29) (N := some 51) (v := ?_) (a' := ?_) bv9_28 rfl rfl (any_of HT_.out (by kernel_rfl)) (fun _ _ _ h => h) (Or.inl ⟨by rfl, ?_⟩) ?_ ?_
          rotate_left; exact pw_; rotate_left; exact pz_
          refine done_ (done_of HT_.out (by kernel_rfl)) ?_
          try go_wp2
          go_meet
          case rel => exact ⟨_, (!t288), q5_, H', ⟨by have := HK1.out; first | omega | exact Nat.le_refl _⟩, ⟨by (with_reducible repeat (first | apply Kd.R_alloc | apply Kd.R_drewN | apply Kd.R_drew)); exact HO_5.out⟩, ⟨by (with_reducible repeat (first | refine blk_drewN ?_ _ | refine blk_drew ?_ | refine blk_alloc ?_ _)); exact BK279.out⟩, ⟨by (with_reducible repeat (first | refine blk_drewN ?_ _ | refine blk_drew ?_ | refine blk_alloc ?_ _)); exact BK284.out⟩, ⟨by repeat (first | (with_reducible first | exact HB.out | apply below_alloc | apply pw_below_drewN | apply below_drew1 | refine below_set ?_ GE279.out | refine below_set ?_ GE284.out) | exact HB.out)⟩⟩
         ·rw [if_neg c22] at H
          have c22b0 : (((rd_T68 l0_1 x18_1).f2) == (rd x5_1 ((rd_T68 l0_1 x18_1).f1))) = false := beq_eq_false_iff_ne.mpr c22
          have c22b1 : (((rd_T68 l0_1 x18_1).f2) != (rd x5_1 ((rd_T68 l0_1 x18_1).f1))) = true := bne_iff_ne.mpr c22
          have H' := Aside0.mk H
          clear H
          try go_wp2
          have n0_ : Aside0 (Kd.R (Kd.int .i64) 3 ((((w13.setCell ⟨gb284, 0, none⟩ (.string ((rd_T68 l0_1 x18_1).f0))).setCell ⟨gb284, 1, none⟩ (.int .i64 ((rd_T68 l0_1 x18_1).f1))).setCell ⟨gb284, 2, none⟩ (.int .i64 ((rd_T68 l0_1 x18_1).f2))).setCell ⟨gb284, 3, none⟩ (.slice A283_3 ((rd_T68 l0_1 x18_1).f3).length c283_3)) w.heap.size (fun _ => True) v281 x5_1) := ⟨by (with_reducible repeat (first | apply Kd.R_alloc | apply Kd.R_drewN | apply Kd.R_drew)); exact Kd.R_mono (Kd.R_far (p := ⟨gb284, 3, none⟩) (Kd.R_far (p := ⟨gb284, 2, none⟩) (Kd.R_far (p := ⟨gb284, 1, none⟩) (Kd.R_far (p := ⟨gb284, 0, none⟩) (Kd.R_types HO_5.out BK284.out (by decide)) (fun _ hk => hk.2) (.string ((rd_T68 l0_1 x18_1).f0))) (fun _ hk => hk.2) (.int .i64 ((rd_T68 l0_1 x18_1).f1))) (fun _ hk => hk.2) (.int .i64 ((rd_T68 l0_1 x18_1).f2))) (fun _ hk => hk.2) (.slice A283_3 ((rd_T68 l0_1 x18_1).f3).length c283_3)) (fun _ hk => trivial)⟩
          have n1_ : Aside0 (((((w13.setCell ⟨gb284, 0, none⟩ (.string ((rd_T68 l0_1 x18_1).f0))).setCell ⟨gb284, 1, none⟩ (.int .i64 ((rd_T68 l0_1 x18_1).f1))).setCell ⟨gb284, 2, none⟩ (.int .i64 ((rd_T68 l0_1 x18_1).f2))).setCell ⟨gb284, 3, none⟩ (.slice A283_3 ((rd_T68 l0_1 x18_1).f3).length c283_3)).heap[gb279]? = some (.cells #[.slice A0_0 l0_0.length c0_0, .slice (some ad283) l0_1.length c0_1] 30 (0, 0))) := ⟨by (with_reducible repeat (first | refine blk_drewN ?_ _ | refine blk_drew ?_ | refine blk_alloc ?_ _)); refine blk_far ?_ NB279_284.out _; (with_reducible repeat (first | refine blk_drewN ?_ _ | refine blk_drew ?_ | refine blk_alloc ?_ _)); refine blk_far ?_ NB279_284.out _; (with_reducible repeat (first | refine blk_drewN ?_ _ | refine blk_drew ?_ | refine blk_alloc ?_ _)); refine blk_far ?_ NB279_284.out _; (with_reducible repeat (first | refine blk_drewN ?_ _ | refine blk_drew ?_ | refine blk_alloc ?_ _)); refine blk_far ?_ NB279_284.out _; (with_reducible repeat (first | refine blk_drewN ?_ _ | refine blk_drew ?_ | refine blk_alloc ?_ _)); exact BK279.out⟩
          have n2_ : Aside0 (((((w13.setCell ⟨gb284, 0, none⟩ (.string ((rd_T68 l0_1 x18_1).f0))).setCell ⟨gb284, 1, none⟩ (.int .i64 ((rd_T68 l0_1 x18_1).f1))).setCell ⟨gb284, 2, none⟩ (.int .i64 ((rd_T68 l0_1 x18_1).f2))).setCell ⟨gb284, 3, none⟩ (.slice A283_3 ((rd_T68 l0_1 x18_1).f3).length c283_3)).heap[gb284]? = some (.cells #[.string ((rd_T68 l0_1 x18_1).f0), .int .i64 ((rd_T68 l0_1 x18_1).f1), .int .i64 ((rd_T68 l0_1 x18_1).f2), .slice A283_3 ((rd_T68 l0_1 x18_1).f3).length c283_3] 68 (0, 0))) := ⟨by (with_reducible repeat (first | refine blk_drewN ?_ _ | refine blk_drew ?_ | refine blk_alloc ?_ _)); refine blk_put (cs := #[.string ((rd_T68 l0_1 x18_1).f0), .int .i64 ((rd_T68 l0_1 x18_1).f1), .int .i64 ((rd_T68 l0_1 x18_1).f2), .slice none 0 0]) ?_ 3 _ rfl; (with_reducible repeat (first | refine blk_drewN ?_ _ | refine blk_drew ?_ | refine blk_alloc ?_ _)); refine blk_put (cs := #[.string ((rd_T68 l0_1 x18_1).f0), .int .i64 ((rd_T68 l0_1 x18_1).f1), .int .i64 0, .slice none 0 0]) ?_ 2 _ rfl; (with_reducible repeat (first | refine blk_drewN ?_ _ | refine blk_drew ?_ | refine blk_alloc ?_ _)); refine blk_put (cs := #[.string ((rd_T68 l0_1 x18_1).f0), .int .i64 0, .int .i64 0, .slice none 0 0]) ?_ 1 _ rfl; (with_reducible repeat (first | refine blk_drewN ?_ _ | refine blk_drew ?_ | refine blk_alloc ?_ _)); refine blk_put (cs := #[.string (⟨#[]⟩ : ByteArray), .int .i64 0, .int .i64 0, .slice none 0 0]) ?_ 0 _ rfl; (with_reducible repeat (first | refine blk_drewN ?_ _ | refine blk_drew ?_ | refine blk_alloc ?_ _)); exact BK284.out⟩
          have n3_ : Aside0 (Below w.heap.size w ((((w13.setCell ⟨gb284, 0, none⟩ (.string ((rd_T68 l0_1 x18_1).f0))).setCell ⟨gb284, 1, none⟩ (.int .i64 ((rd_T68 l0_1 x18_1).f1))).setCell ⟨gb284, 2, none⟩ (.int .i64 ((rd_T68 l0_1 x18_1).f2))).setCell ⟨gb284, 3, none⟩ (.slice A283_3 ((rd_T68 l0_1 x18_1).f3).length c283_3))) := ⟨by repeat (first | (with_reducible first | exact HB.out | apply below_alloc | apply pw_below_drewN | apply below_drew1 | refine below_set ?_ GE279.out | refine below_set ?_ GE284.out) | exact HB.out)⟩
          (try clear HO_5)
          (try clear BK279)
          (try clear BK284)
          (try clear HB)
          generalize ((((w13.setCell ⟨gb284, 0, none⟩ (.string ((rd_T68 l0_1 x18_1).f0))).setCell ⟨gb284, 1, none⟩ (.int .i64 ((rd_T68 l0_1 x18_1).f1))).setCell ⟨gb284, 2, none⟩ (.int .i64 ((rd_T68 l0_1 x18_1).f2))).setCell ⟨gb284, 3, none⟩ (.slice A283_3 ((rd_T68 l0_1 x18_1).f3).length c283_3)) = w27 at n0_ n1_ n2_ n3_ ⊢
          have HO_5 := n0_
          have BK279 := n1_
          have BK284 := n2_
          have HB := n3_
          clear n0_ n1_ n2_ n3_
          have n0_ := Aside0.mk (Kd.R_drew HO_5.out)
          have n1_ := Aside0.mk (blk_drew BK279.out)
          have n2_ := Aside0.mk (blk_drew BK284.out)
          have n3_ := Aside0.mk (below_drew1 HB.out)
          clear HO_5
          clear BK279
          clear BK284
          clear HB
          have HO_5 := n0_
          have BK279 := n1_
          have BK284 := n2_
          have HB := n3_
          clear n0_ n1_ n2_ n3_
          have p287 : 0 ≤ (((rd_T68 l0_1 x18_1).f1) : Int) := of_decide_eq_true q2_
          have q287 : ((rd_T68 l0_1 x18_1).f1) < (x5_1.length : Int) := of_decide_eq_true q2_
          obtain ⟨Aq287_, cq287_, eq287_⟩ := Kd.R_slice HO_5.out
          (first | subst eq287_ | clear eq287_)
          obtain ⟨ad287, e287, hx287_0⟩ := Kd.at_int (Kd.R_reads' HO_5.out).2.2 ((rd_T68 l0_1 x18_1).f1) p287 q287
          cases e287
          replace p287 := eq_true p287
          replace q287 := eq_true q287
          refine start_ (n := 30) (S := fun w' => w'.cell? ⟨gb284, 0, none⟩ = some (.string ((rd_T68 l0_1 x18_1).f0)) ∧ w'.cell? ⟨gb284, 1, none⟩ = some (.int .i64 ((rd_T68 l0_1 x18_1).f1)) ∧ w'.cell? ⟨gb284, 2, none⟩ = some (.int .i64 ((rd_T68 l0_1 x18_1).f2)) ∧ w'.cell? ⟨gb284, 3, none⟩ = some (.slice A283_3 ((rd_T68 l0_1 x18_1).f3).length c283_3) ∧ w'.cell? (ad287.add (((rd_T68 l0_1 x18_1).f1)).toNat) = some (.int .i64 (rd x5_1 ((rd_T68 l0_1 x18_1).f1)))) (ds := []) bv9_0 (by kernel_rfl) rfl rfl ⟨(blk_cell BK284.out 0).trans rfl, (blk_cell BK284.out 1).trans rfl, (blk_cell BK284.out 2).trans rfl, (blk_cell BK284.out 3).trans rfl, hx287_0⟩ (fun hHeld => ?_); refine with_tabW impl_bodiesOk.tab5 impl_bodiesOk.bits5 (fun HT_ HW_ => ?_)
          generalize w27.drew = w28 at HO_5 BK279 BK284 HB hx287_0 hHeld ⊢
          refine pure_ (i := 0) (N := some 22) (v := ?_) (a' := ?_) bv9_1 rfl rfl (any_of HT_.out (by kernel_rfl)) (fun _ _ _ h => h) (Or.inl ⟨by rfl, ?_⟩) ?_ ?_
          rotate_left; exact pw_; rotate_left; exact pz_
          refine take_ (i := 1) (N := some 23) (v := ?_) (a' := ?_) bv9_2 rfl rfl (take_ofW HT_.out HW_.out (by kernel_rfl)) (fun _ _ _ h => h) (Or.inl ⟨by rfl, ?_⟩) hHeld ?_ ?_
          rotate_left; exact pw5_; rotate_left; exact pz_
          refine one_ (i := 2) (N := some 24) bv9_3 rfl rfl (one_of HT_.out (by kernel_rfl)) (by decide) (fun K hK => ?_)
          refine goes_ Try.func99 (by kernel_rfl) rfl #[.string ((rd_T68 l0_1 x18_1).f0)] (by rfl) rfl rfl q0_ ?_
          with_reducible refine (impl_LineOk.calls ((rd_T68 l0_1 x18_1).f0) true _ A16.out).mono ?_
          rintro e w' ⟨rfl, ⟨nd, rfl⟩⟩
          refine ⟨_, rfl, ?_⟩
          refine hK.out _ _ ⟨(blk_cell BK284.out 0).trans rfl, (blk_cell BK284.out 1).trans rfl, (blk_cell BK284.out 2).trans rfl, (blk_cell BK284.out 3).trans rfl, hHeld.2.2.2.2⟩ (fun hHeld => ?_)
          clear hK K
          refine norm_ (a' := ?_) ?_ ?_
          rotate_left
          ·show Act.put _ (some 24) _ = _
           simp only [Act.put, List.setIfInBounds_toArray, List.set_cons_zero, List.set_cons_succ, i64_w, i32_w]
           rfl
          refine pure_ (i := 3) (N := some 25) (v := ?_) (a' := ?_) bv9_4 rfl rfl (any_of HT_.out (by kernel_rfl)) (fun _ _ _ h => h) (Or.inl ⟨by rfl, ?_⟩) ?_ ?_
          rotate_left; exact pw_; rotate_left; exact pz_
          refine pure_ (i := 4) (N := some 26) (v := ?_) (a' := ?_) bv9_5 rfl rfl (any_of HT_.out (by kernel_rfl)) (fun _ _ _ h => h) (Or.inl ⟨by rfl, ?_⟩) ?_ ?_
          rotate_left; exact pw_; rotate_left; exact pz_
          refine pure_ (i := 5) (N := some 27) (v := ?_) (a' := ?_) bv9_6 rfl rfl (any_of HT_.out (by kernel_rfl)) (fun _ _ _ h => h) (Or.inl ⟨by rfl, ?_⟩) ?_ ?_
          rotate_left; exact pw_; rotate_left; exact pz_
          refine pure_ (i := 7) (N := some 29) (v := ?_) (a' := ?_) bv9_7 rfl rfl (any_of HT_.out (by kernel_rfl)) (fun _ _ _ h => h) (Or.inl ⟨by rfl, ?_⟩) ?_ ?_
          rotate_left; exact pw_; rotate_left; exact pz_
          refine pure_ (i := 8) (N := some 30) (v := ?_) (a' := ?_) bv9_8 rfl rfl (any_of HT_.out (by kernel_rfl)) (fun _ _ _ h => h) (Or.inl ⟨by rfl, ?_⟩) ?_ ?_
          rotate_left; exact pw_; rotate_left; exact pz_
          refine take_ (i := 6) (N := some 28) (v := ?_) (a' := ?_) bv9_9 rfl rfl (take_ofW HT_.out HW_.out (by kernel_rfl)) (fun _ _ _ h => h) (Or.inl ⟨by rfl, ?_⟩) hHeld ?_ ?_
          rotate_left; exact pw5_; rotate_left; exact pz_
          refine one_ (i := 9) (N := some 31) bv9_10 rfl rfl (one_of HT_.out (by kernel_rfl)) (by decide) (fun K hK => ?_)
          refine goes_ Try.func74 (by kernel_rfl) rfl #[.int .i64 ((rd_T68 l0_1 x18_1).f1), .int .i64 (l1.length : Int)] (by rfl) rfl rfl q0_ ?_
          with_reducible refine (impl_isPlace.calls ((rd_T68 l0_1 x18_1).f1) (l1.length : Int) true _ A18.out).mono ?_
          rintro e w' ⟨rfl, ⟨nd, rfl⟩⟩
          refine ⟨_, rfl, ?_⟩
          obtain ⟨Ao29, co29, eo29⟩ := Kd.R_slice HO_5.out
          (first | subst eo29 | (injection eo29 with f1_ f2_ f3_; have f4_ := f1_.symm; have f5_ := f3_.symm; clear f1_ f2_ f3_; subst f4_; subst f5_))
          refine hK.out _ _ ⟨(blk_cell BK284.out 0).trans rfl, (blk_cell BK284.out 1).trans rfl, (blk_cell BK284.out 2).trans rfl, (blk_cell BK284.out 3).trans rfl, hHeld.2.2.2.2⟩ (fun hHeld => ?_)
          clear hK K
          refine norm_ (a' := ?_) ?_ ?_
          rotate_left
          ·show Act.put _ (some 31) _ = _
           simp only [Act.put, List.setIfInBounds_toArray, List.set_cons_zero, List.set_cons_succ, i64_w, i32_w]
           rfl
          refine pure_ (i := 10) (N := some 32) (v := ?_) (a' := ?_) bv9_11 rfl rfl (any_of HT_.out (by kernel_rfl)) (fun _ _ _ h => h) (Or.inl ⟨by rfl, ?_⟩) ?_ ?_
          rotate_left; exact pw_; rotate_left; exact pz_
          refine pure_ (i := 11) (N := some 33) (v := ?_) (a' := ?_) bv9_12 rfl rfl (any_of HT_.out (by kernel_rfl)) (fun _ _ _ h => h) (Or.inl ⟨by rfl, ?_⟩) ?_ ?_
          rotate_left; exact pw_; rotate_left; exact pz_
          refine pure_ (i := 12) (N := some 34) (v := ?_) (a' := ?_) bv9_13 rfl rfl (any_of HT_.out (by kernel_rfl)) (fun _ _ _ h => h) (Or.inl ⟨by rfl, ?_⟩) ?_ ?_
          rotate_left; exact pw_; rotate_left; exact pz_
          refine pure_ (i := 13) (N := some 35) (v := ?_) (a' := ?_) bv9_14 rfl rfl (any_of HT_.out (by kernel_rfl)) (fun _ _ _ h => h) (Or.inl ⟨by rfl, ?_⟩) ?_ ?_
          rotate_left; exact pw_; rotate_left; exact pz_
          refine pure_ (i := 15) (N := some 37) (v := ?_) (a' := ?_) bv9_15 rfl rfl (any_of HT_.out (by kernel_rfl)) (fun _ _ _ h => h) (Or.inl ⟨by rfl, ?_⟩) ?_ ?_
          rotate_left; exact pw_; rotate_left; exact pz_
          refine pure_ (i := 16) (N := some 38) (v := ?_) (a' := ?_) bv9_16 rfl rfl (any_of HT_.out (by kernel_rfl)) (fun _ _ _ h => h) (Or.inl ⟨by rfl, ?_⟩) ?_ ?_
          rotate_left; exact pw_; rotate_left; exact pz_
          refine take_ (i := 14) (N := some 36) (v := ?_) (a' := ?_) bv9_17 rfl rfl (take_ofW HT_.out HW_.out (by kernel_rfl)) (fun _ _ _ h => h) (Or.inl ⟨by rfl, ?_⟩) hHeld ?_ ?_
          rotate_left; exact pw5_; rotate_left; exact pz_
          refine take_ (i := 17) (N := some 39) (v := ?_) (a' := ?_) bv9_18 rfl rfl (take_ofW HT_.out HW_.out (by kernel_rfl)) (fun _ _ _ h => h) (Or.inl ⟨by rfl, ?_⟩) hHeld ?_ ?_
          rotate_left; exact pw5_; rotate_left; exact pz_
          refine pure_ (i := 18) (N := some 40) (v := ?_) (a' := ?_) bv9_19 rfl rfl (any_of HT_.out (by kernel_rfl)) (fun _ _ _ h => h) (Or.inl ⟨by rfl, ?_⟩) ?_ ?_
          rotate_left; exact pw_; rotate_left; exact pz_
          refine take_ (i := 19) (N := some 41) (v := ?_) (a' := ?_) bv9_20 rfl rfl (take_ofW HT_.out HW_.out (by kernel_rfl)) (fun _ _ _ h => h) (Or.inl ⟨by rfl, ?_⟩) hHeld ?_ ?_
          rotate_left; exact pw5_; rotate_left; exact pz_
          refine pure_ (i := 20) (N := some 42) (v := ?_) (a' := ?_) bv9_21 rfl rfl (any_of HT_.out (by kernel_rfl)) (fun _ _ _ h => h) (Or.inl ⟨by rfl, ?_⟩) ?_ ?_
          rotate_left; exact pw_; rotate_left; exact pz_
          refine pure_ (i := 21) (N := some 43) (v := ?_) (a' := ?_) bv9_22 rfl rfl (any_of HT_.out (by kernel_rfl)) (fun _ _ _ h => h) (Or.inl ⟨by rfl, ?_⟩) ?_ ?_
          rotate_left; exact pw_; rotate_left; exact pz_
          refine pure_ (i := 22) (N := some 44) (v := ?_) (a' := ?_) bv9_23 rfl rfl (any_of HT_.out (by kernel_rfl)) (fun _ _ _ h => h) (Or.inl ⟨by rfl, ?_⟩) ?_ ?_
          rotate_left; exact pw_; rotate_left; exact pz_
          refine pure_ (i := 23) (N := some 45) (v := undef) (a' := ?_) bv9_24 rfl rfl (any_of HT_.out (by kernel_rfl)) (fun _ _ _ h => h) (Or.inr ⟨by rfl, rfl⟩) ?_ ?_
          rotate_left; exact pz_
          refine pure_ (i := 24) (N := some 46) (v := undef) (a' := ?_) bv9_29 rfl rfl (any_of HT_.out (by kernel_rfl)) (fun _ _ _ h => h) (Or.inr ⟨by rfl, rfl⟩) ?_ ?_
          rotate_left; exact pz_
          refine pure_ (i := 25) (N := some 47) (v := undef) (a' := ?_) bv9_30 rfl rfl (any_of HT_.out (by kernel_rfl)) (fun _ _ _ h => h) (Or.inr ⟨by rfl, rfl⟩) ?_ ?_
          rotate_left; exact pz_
          refine pure_ (i := 26) (N := some 48) (v := undef) (a' := ?_) bv9_25 rfl rfl (any_of HT_.out (by kernel_rfl)) (fun _ _ _ h => h) (Or.inr ⟨by rfl, rfl⟩) ?_ ?_
          rotate_left; exact pz_
          refine pure_ (i := 27) (N := some 49) (v := undef) (a' := ?_) bv9_26 rfl rfl (any_of HT_.out (by kernel_rfl)) (fun _ _ _ h => h) (Or.inr ⟨by rfl, rfl⟩) ?_ ?_
          rotate_left; exact pz_
          refine pure_ (i := 28) (N := some 50) (v := undef) (a' := ?_) bv9_27 rfl rfl (any_of HT_.out (by kernel_rfl)) (fun _ _ _ h => h) (Or.inr ⟨by rfl, rfl⟩) ?_ ?_
          rotate_left; exact pz_
          refine pure_ (i := 29) (N := some 51) (v := ?_) (a' := ?_) bv9_28 rfl rfl (any_of HT_.out (by kernel_rfl)) (fun _ _ _ h => h) (Or.inl ⟨by rfl, ?_⟩) ?_ ?_
          rotate_left; exact pw_; rotate_left; exact pz_
          refine done_ (done_of HT_.out (by kernel_rfl)) ?_
          try go_wp2
          go_meet
          case rel => exact ⟨_, (true), q5_, H', ⟨by have := HK1.out; first | omega | exact Nat.le_refl _⟩, ⟨by (with_reducible repeat (first | apply Kd.R_alloc | apply Kd.R_drewN | apply Kd.R_drew)); exact HO_5.out⟩, ⟨by (with_reducible repeat (first | refine blk_drewN ?_ _ | refine blk_drew ?_ | refine blk_alloc ?_ _)); exact BK279.out⟩, ⟨by (with_reducible repeat (first | refine blk_drewN ?_ _ | refine blk_drew ?_ | refine blk_alloc ?_ _)); exact BK284.out⟩, ⟨by repeat (first | (with_reducible first | exact HB.out | apply below_alloc | apply pw_below_drewN | apply below_drew1 | refine below_set ?_ GE279.out | refine below_set ?_ GE284.out) | exact HB.out)⟩⟩
        ·replace c19 := Bool.eq_false_iff.mpr c19
         subst c19
         have H1 : (impl_bodiesOk.j1 k1 l1 x5_1 l0_1 (l0_1.length : Int) x18_1 true l0_0 l0_1 ((rd_T68 l0_1 x18_1).f0) ((rd_T68 l0_1 x18_1).f1) ((rd_T68 l0_1 x18_1).f2) ((rd_T68 l0_1 x18_1).f3)) = some r := by rw [if_neg (show ¬ (false = true) by decide)] at H; exact H
         clear H
         have H := H1
         clear H1
         have H' := Aside0.mk H
         clear H
         try go_wp2
         have n0_ : Aside0 (Kd.R (Kd.int .i64) 3 ((((w13.setCell ⟨gb284, 0, none⟩ (.string ((rd_T68 l0_1 x18_1).f0))).setCell ⟨gb284, 1, none⟩ (.int .i64 ((rd_T68 l0_1 x18_1).f1))).setCell ⟨gb284, 2, none⟩ (.int .i64 ((rd_T68 l0_1 x18_1).f2))).setCell ⟨gb284, 3, none⟩ (.slice A283_3 ((rd_T68 l0_1 x18_1).f3).length c283_3)) w.heap.size (fun _ => True) v281 x5_1) := ⟨by (with_reducible repeat (first | apply Kd.R_alloc | apply Kd.R_drewN | apply Kd.R_drew)); exact Kd.R_mono (Kd.R_far (p := ⟨gb284, 3, none⟩) (Kd.R_far (p := ⟨gb284, 2, none⟩) (Kd.R_far (p := ⟨gb284, 1, none⟩) (Kd.R_far (p := ⟨gb284, 0, none⟩) (Kd.R_types HO_5.out BK284.out (by decide)) (fun _ hk => hk.2) (.string ((rd_T68 l0_1 x18_1).f0))) (fun _ hk => hk.2) (.int .i64 ((rd_T68 l0_1 x18_1).f1))) (fun _ hk => hk.2) (.int .i64 ((rd_T68 l0_1 x18_1).f2))) (fun _ hk => hk.2) (.slice A283_3 ((rd_T68 l0_1 x18_1).f3).length c283_3)) (fun _ hk => trivial)⟩
         have n1_ : Aside0 (((((w13.setCell ⟨gb284, 0, none⟩ (.string ((rd_T68 l0_1 x18_1).f0))).setCell ⟨gb284, 1, none⟩ (.int .i64 ((rd_T68 l0_1 x18_1).f1))).setCell ⟨gb284, 2, none⟩ (.int .i64 ((rd_T68 l0_1 x18_1).f2))).setCell ⟨gb284, 3, none⟩ (.slice A283_3 ((rd_T68 l0_1 x18_1).f3).length c283_3)).heap[gb279]? = some (.cells #[.slice A0_0 l0_0.length c0_0, .slice (some ad283) l0_1.length c0_1] 30 (0, 0))) := ⟨by (with_reducible repeat (first | refine blk_drewN ?_ _ | refine blk_drew ?_ | refine blk_alloc ?_ _)); refine blk_far ?_ NB279_284.out _; (with_reducible repeat (first | refine blk_drewN ?_ _ | refine blk_drew ?_ | refine blk_alloc ?_ _)); refine blk_far ?_ NB279_284.out _; (with_reducible repeat (first | refine blk_drewN ?_ _ | refine blk_drew ?_ | refine blk_alloc ?_ _)); refine blk_far ?_ NB279_284.out _; (with_reducible repeat (first | refine blk_drewN ?_ _ | refine blk_drew ?_ | refine blk_alloc ?_ _)); refine blk_far ?_ NB279_284.out _; (with_reducible repeat (first | refine blk_drewN ?_ _ | refine blk_drew ?_ | refine blk_alloc ?_ _)); exact BK279.out⟩
         have n2_ : Aside0 (((((w13.setCell ⟨gb284, 0, none⟩ (.string ((rd_T68 l0_1 x18_1).f0))).setCell ⟨gb284, 1, none⟩ (.int .i64 ((rd_T68 l0_1 x18_1).f1))).setCell ⟨gb284, 2, none⟩ (.int .i64 ((rd_T68 l0_1 x18_1).f2))).setCell ⟨gb284, 3, none⟩ (.slice A283_3 ((rd_T68 l0_1 x18_1).f3).length c283_3)).heap[gb284]? = some (.cells #[.string ((rd_T68 l0_1 x18_1).f0), .int .i64 ((rd_T68 l0_1 x18_1).f1), .int .i64 ((rd_T68 l0_1 x18_1).f2), .slice A283_3 ((rd_T68 l0_1 x18_1).f3).length c283_3] 68 (0, 0))) := ⟨by (with_reducible repeat (first | refine blk_drewN ?_ _ | refine blk_drew ?_ | refine blk_alloc ?_ _)); refine blk_put (cs := #[.string ((rd_T68 l0_1 x18_1).f0), .int .i64 ((rd_T68 l0_1 x18_1).f1), .int .i64 ((rd_T68 l0_1 x18_1).f2), .slice none 0 0]) ?_ 3 _ rfl; (with_reducible repeat (first | refine blk_drewN ?_ _ | refine blk_drew ?_ | refine blk_alloc ?_ _)); refine blk_put (cs := #[.string ((rd_T68 l0_1 x18_1).f0), .int .i64 ((rd_T68 l0_1 x18_1).f1), .int .i64 0, .slice none 0 0]) ?_ 2 _ rfl; (with_reducible repeat (first | refine blk_drewN ?_ _ | refine blk_drew ?_ | refine blk_alloc ?_ _)); refine blk_put (cs := #[.string ((rd_T68 l0_1 x18_1).f0), .int .i64 0, .int .i64 0, .slice none 0 0]) ?_ 1 _ rfl; (with_reducible repeat (first | refine blk_drewN ?_ _ | refine blk_drew ?_ | refine blk_alloc ?_ _)); refine blk_put (cs := #[.string (⟨#[]⟩ : ByteArray), .int .i64 0, .int .i64 0, .slice none 0 0]) ?_ 0 _ rfl; (with_reducible repeat (first | refine blk_drewN ?_ _ | refine blk_drew ?_ | refine blk_alloc ?_ _)); exact BK284.out⟩
         have n3_ : Aside0 (Below w.heap.size w ((((w13.setCell ⟨gb284, 0, none⟩ (.string ((rd_T68 l0_1 x18_1).f0))).setCell ⟨gb284, 1, none⟩ (.int .i64 ((rd_T68 l0_1 x18_1).f1))).setCell ⟨gb284, 2, none⟩ (.int .i64 ((rd_T68 l0_1 x18_1).f2))).setCell ⟨gb284, 3, none⟩ (.slice A283_3 ((rd_T68 l0_1 x18_1).f3).length c283_3))) := ⟨by repeat (first | (with_reducible first | exact HB.out | apply below_alloc | apply pw_below_drewN | apply below_drew1 | refine below_set ?_ GE279.out | refine below_set ?_ GE284.out) | exact HB.out)⟩
         (try clear HO_5)
         (try clear BK279)
         (try clear BK284)
         (try clear HB)
         generalize ((((w13.setCell ⟨gb284, 0, none⟩ (.string ((rd_T68 l0_1 x18_1).f0))).setCell ⟨gb284, 1, none⟩ (.int .i64 ((rd_T68 l0_1 x18_1).f1))).setCell ⟨gb284, 2, none⟩ (.int .i64 ((rd_T68 l0_1 x18_1).f2))).setCell ⟨gb284, 3, none⟩ (.slice A283_3 ((rd_T68 l0_1 x18_1).f3).length c283_3)) = w30 at n0_ n1_ n2_ n3_ ⊢
         have HO_5 := n0_
         have BK279 := n1_
         have BK284 := n2_
         have HB := n3_
         clear n0_ n1_ n2_ n3_
         have n0_ := Aside0.mk (Kd.R_drew HO_5.out)
         have n1_ := Aside0.mk (blk_drew BK279.out)
         have n2_ := Aside0.mk (blk_drew BK284.out)
         have n3_ := Aside0.mk (below_drew1 HB.out)
         clear HO_5
         clear BK279
         clear BK284
         clear HB
         have HO_5 := n0_
         have BK279 := n1_
         have BK284 := n2_
         have HB := n3_
         clear n0_ n1_ n2_ n3_
         refine start_ (n := 30) (S := fun w' => w'.cell? ⟨gb284, 0, none⟩ = some (.string ((rd_T68 l0_1 x18_1).f0)) ∧ w'.cell? ⟨gb284, 1, none⟩ = some (.int .i64 ((rd_T68 l0_1 x18_1).f1)) ∧ w'.cell? ⟨gb284, 2, none⟩ = some (.int .i64 ((rd_T68 l0_1 x18_1).f2)) ∧ w'.cell? ⟨gb284, 3, none⟩ = some (.slice A283_3 ((rd_T68 l0_1 x18_1).f3).length c283_3)) (ds := []) bv9_0 (by kernel_rfl) rfl rfl ⟨(blk_cell BK284.out 0).trans rfl, (blk_cell BK284.out 1).trans rfl, (blk_cell BK284.out 2).trans rfl, (blk_cell BK284.out 3).trans rfl⟩ (fun hHeld => ?_); refine with_tabW impl_bodiesOk.tab5 impl_bodiesOk.bits5 (fun HT_ HW_ => ?_)
         generalize w30.drew = w31 at HO_5 BK279 BK284 HB hHeld ⊢
         refine pure_ (i := 0) (N := some 22) (v := ?_) (a' := ?_) bv9_1 rfl rfl (any_of HT_.out (by kernel_rfl)) (fun _ _ _ h => h) (Or.inl ⟨by rfl, ?_⟩) ?_ ?_
         rotate_left; exact pw_; rotate_left; exact pz_
         refine take_ (i := 1) (N := some 23) (v := ?_) (a' := ?_) bv9_2 rfl rfl (take_ofW HT_.out HW_.out (by kernel_rfl)) (fun _ _ _ h => h) (Or.inl ⟨by rfl, ?_⟩) hHeld ?_ ?_
         rotate_left; exact pw4_; rotate_left; exact pz_
         refine one_ (i := 2) (N := some 24) bv9_3 rfl rfl (one_of HT_.out (by kernel_rfl)) (by decide) (fun K hK => ?_)
         refine goes_ Try.func99 (by kernel_rfl) rfl #[.string ((rd_T68 l0_1 x18_1).f0)] (by rfl) rfl rfl q0_ ?_
         with_reducible refine (impl_LineOk.calls ((rd_T68 l0_1 x18_1).f0) true _ A16.out).mono ?_
         rintro e w' ⟨rfl, ⟨nd, rfl⟩⟩
         refine ⟨_, rfl, ?_⟩
         refine hK.out _ _ ⟨(blk_cell BK284.out 0).trans rfl, (blk_cell BK284.out 1).trans rfl, (blk_cell BK284.out 2).trans rfl, (blk_cell BK284.out 3).trans rfl⟩ (fun hHeld => ?_)
         clear hK K
         refine norm_ (a' := ?_) ?_ ?_
         rotate_left
         ·show Act.put _ (some 24) _ = _
          simp only [Act.put, List.setIfInBounds_toArray, List.set_cons_zero, List.set_cons_succ, i64_w, i32_w]
          rfl
         refine pure_ (i := 3) (N := some 25) (v := ?_) (a' := ?_) bv9_4 rfl rfl (any_of HT_.out (by kernel_rfl)) (fun _ _ _ h => h) (Or.inl ⟨by rfl, ?_⟩) ?_ ?_
         rotate_left; exact pw_; rotate_left; exact pz_
         refine pure_ (i := 4) (N := some 26) (v := ?_) (a' := ?_) bv9_5 rfl rfl (any_of HT_.out (by kernel_rfl)) (fun _ _ _ h => h) (Or.inl ⟨by rfl, ?_⟩) ?_ ?_
         rotate_left; exact pw_; rotate_left; exact pz_
         refine pure_ (i := 5) (N := some 27) (v := ?_) (a' := ?_) bv9_6 rfl rfl (any_of HT_.out (by kernel_rfl)) (fun _ _ _ h => h) (Or.inl ⟨by rfl, ?_⟩) ?_ ?_
         rotate_left; exact pw_; rotate_left; exact pz_
         refine pure_ (i := 7) (N := some 29) (v := ?_) (a' := ?_) bv9_7 rfl rfl (any_of HT_.out (by kernel_rfl)) (fun _ _ _ h => h) (Or.inl ⟨by rfl, ?_⟩) ?_ ?_
         rotate_left; exact pw_; rotate_left; exact pz_
         refine pure_ (i := 8) (N := some 30) (v := ?_) (a' := ?_) bv9_8 rfl rfl (any_of HT_.out (by kernel_rfl)) (fun _ _ _ h => h) (Or.inl ⟨by rfl, ?_⟩) ?_ ?_
         rotate_left; exact pw_; rotate_left; exact pz_
         refine take_ (i := 6) (N := some 28) (v := ?_) (a' := ?_) bv9_9 rfl rfl (take_ofW HT_.out HW_.out (by kernel_rfl)) (fun _ _ _ h => h) (Or.inl ⟨by rfl, ?_⟩) hHeld ?_ ?_
         rotate_left; exact pw4_; rotate_left; exact pz_
         refine one_ (i := 9) (N := some 31) bv9_10 rfl rfl (one_of HT_.out (by kernel_rfl)) (by decide) (fun K hK => ?_)
         refine goes_ Try.func74 (by kernel_rfl) rfl #[.int .i64 ((rd_T68 l0_1 x18_1).f1), .int .i64 (l1.length : Int)] (by rfl) rfl rfl q0_ ?_
         with_reducible refine (impl_isPlace.calls ((rd_T68 l0_1 x18_1).f1) (l1.length : Int) false _ A18.out).mono ?_
         rintro e w' ⟨rfl, ⟨nd, rfl⟩⟩
         refine ⟨_, rfl, ?_⟩
         refine hK.out _ _ ⟨(blk_cell BK284.out 0).trans rfl, (blk_cell BK284.out 1).trans rfl, (blk_cell BK284.out 2).trans rfl, (blk_cell BK284.out 3).trans rfl⟩ (fun hHeld => ?_)
         clear hK K
         refine norm_ (a' := ?_) ?_ ?_
         rotate_left
         ·show Act.put _ (some 31) _ = _
          simp only [Act.put, List.setIfInBounds_toArray, List.set_cons_zero, List.set_cons_succ, i64_w, i32_w]
          rfl
         refine pure_ (i := 10) (N := some 32) (v := ?_) (a' := ?_) bv9_11 rfl rfl (any_of HT_.out (by kernel_rfl)) (fun _ _ _ h => h) (Or.inl ⟨by rfl, ?_⟩) ?_ ?_
         rotate_left; exact pw_; rotate_left; exact pz_
         refine pure_ (i := 11) (N := some 33) (v := ?_) (a' := ?_) bv9_12 rfl rfl (any_of HT_.out (by kernel_rfl)) (fun _ _ _ h => h) (Or.inl ⟨by rfl, ?_⟩) ?_ ?_
         rotate_left; exact pw_; rotate_left; exact pz_
         refine pure_ (i := 12) (N := some 34) (v := ?_) (a' := ?_) bv9_13 rfl rfl (any_of HT_.out (by kernel_rfl)) (fun _ _ _ h => h) (Or.inl ⟨by rfl, ?_⟩) ?_ ?_
         rotate_left; exact pw_; rotate_left; exact pz_
         refine pure_ (i := 13) (N := some 35) (v := undef) (a' := ?_) bv9_14 rfl rfl (any_of HT_.out (by kernel_rfl)) (fun _ _ _ h => h) (Or.inr ⟨by rfl, rfl⟩) ?_ ?_
         rotate_left; exact pz_
         refine pure_ (i := 14) (N := some 36) (v := undef) (a' := ?_) bv9_31 rfl rfl (any_of HT_.out (by kernel_rfl)) (fun _ _ _ h => h) (Or.inr ⟨by rfl, rfl⟩) ?_ ?_
         rotate_left; exact pz_
         refine pure_ (i := 15) (N := some 37) (v := undef) (a' := ?_) bv9_32 rfl rfl (any_of HT_.out (by kernel_rfl)) (fun _ _ _ h => h) (Or.inr ⟨by rfl, rfl⟩) ?_ ?_
         rotate_left; exact pz_
         refine pure_ (i := 16) (N := some 38) (v := undef) (a' := ?_) bv9_17 rfl rfl (any_of HT_.out (by kernel_rfl)) (fun _ _ _ h => h) (Or.inr ⟨by rfl, rfl⟩) ?_ ?_
         rotate_left; exact pz_
         refine pure_ (i := 17) (N := some 39) (v := undef) (a' := ?_) bv9_18 rfl rfl (any_of HT_.out (by kernel_rfl)) (fun _ _ _ h => h) (Or.inr ⟨by rfl, rfl⟩) ?_ ?_
         rotate_left; exact pz_
         refine pure_ (i := 18) (N := some 40) (v := undef) (a' := ?_) bv9_19 rfl rfl (any_of HT_.out (by kernel_rfl)) (fun _ _ _ h => h) (Or.inr ⟨by rfl, rfl⟩) ?_ ?_
         rotate_left; exact pz_
         refine pure_ (i := 19) (N := some 41) (v := undef) (a' := ?_) bv9_20 rfl rfl (any_of HT_.out (by kernel_rfl)) (fun _ _ _ h => h) (Or.inr ⟨by rfl, rfl⟩) ?_ ?_
         rotate_left; exact pz_
         refine pure_ (i := 20) (N := some 42) (v := undef) (a' := ?_) bv9_21 rfl rfl (any_of HT_.out (by kernel_rfl)) (fun _ _ _ h => h) (Or.inr ⟨by rfl, rfl⟩) ?_ ?_
         rotate_left; exact pz_
         refine pure_ (i := 21) (N := some 43) (v := ?_) (a' := ?_) bv9_22 rfl rfl (any_of HT_.out (by kernel_rfl)) (fun _ _ _ h => h) (Or.inl ⟨by rfl, ?_⟩) ?_ ?_
         rotate_left; exact pw_; rotate_left; exact pz_
         refine pure_ (i := 22) (N := some 44) (v := ?_) (a' := ?_) bv9_23 rfl rfl (any_of HT_.out (by kernel_rfl)) (fun _ _ _ h => h) (Or.inl ⟨by rfl, ?_⟩) ?_ ?_
         rotate_left; exact pw_; rotate_left; exact pz_
         refine pure_ (i := 23) (N := some 45) (v := undef) (a' := ?_) bv9_24 rfl rfl (any_of HT_.out (by kernel_rfl)) (fun _ _ _ h => h) (Or.inr ⟨by rfl, rfl⟩) ?_ ?_
         rotate_left; exact pz_
         refine pure_ (i := 24) (N := some 46) (v := undef) (a' := ?_) bv9_29 rfl rfl (any_of HT_.out (by kernel_rfl)) (fun _ _ _ h => h) (Or.inr ⟨by rfl, rfl⟩) ?_ ?_
         rotate_left; exact pz_
         refine pure_ (i := 25) (N := some 47) (v := undef) (a' := ?_) bv9_30 rfl rfl (any_of HT_.out (by kernel_rfl)) (fun _ _ _ h => h) (Or.inr ⟨by rfl, rfl⟩) ?_ ?_
         rotate_left; exact pz_
         refine pure_ (i := 26) (N := some 48) (v := undef) (a' := ?_) bv9_25 rfl rfl (any_of HT_.out (by kernel_rfl)) (fun _ _ _ h => h) (Or.inr ⟨by rfl, rfl⟩) ?_ ?_
         rotate_left; exact pz_
         refine pure_ (i := 27) (N := some 49) (v := undef) (a' := ?_) bv9_26 rfl rfl (any_of HT_.out (by kernel_rfl)) (fun _ _ _ h => h) (Or.inr ⟨by rfl, rfl⟩) ?_ ?_
         rotate_left; exact pz_
         refine pure_ (i := 28) (N := some 50) (v := undef) (a' := ?_) bv9_27 rfl rfl (any_of HT_.out (by kernel_rfl)) (fun _ _ _ h => h) (Or.inr ⟨by rfl, rfl⟩) ?_ ?_
         rotate_left; exact pz_
         refine pure_ (i := 29) (N := some 51) (v := ?_) (a' := ?_) bv9_28 rfl rfl (any_of HT_.out (by kernel_rfl)) (fun _ _ _ h => h) (Or.inl ⟨by rfl, ?_⟩) ?_ ?_
         rotate_left; exact pw_; rotate_left; exact pz_
         refine done_ (done_of HT_.out (by kernel_rfl)) ?_
         try go_wp2
         go_meet
         case rel => exact ⟨_, (true), q5_, H', ⟨by have := HK1.out; first | omega | exact Nat.le_refl _⟩, ⟨by (with_reducible repeat (first | apply Kd.R_alloc | apply Kd.R_drewN | apply Kd.R_drew)); exact HO_5.out⟩, ⟨by (with_reducible repeat (first | refine blk_drewN ?_ _ | refine blk_drew ?_ | refine blk_alloc ?_ _)); exact BK279.out⟩, ⟨by (with_reducible repeat (first | refine blk_drewN ?_ _ | refine blk_drew ?_ | refine blk_alloc ?_ _)); exact BK284.out⟩, ⟨by repeat (first | (with_reducible first | exact HB.out | apply below_alloc | apply pw_below_drewN | apply below_drew1 | refine below_set ?_ GE279.out | refine below_set ?_ GE284.out) | exact HB.out)⟩⟩
       ·replace c17 := Bool.eq_false_iff.mpr c17
        subst c17
        have H1 : (impl_bodiesOk.j1 k1 l1 x5_1 l0_1 (l0_1.length : Int) x18_1 true l0_0 l0_1 ((rd_T68 l0_1 x18_1).f0) ((rd_T68 l0_1 x18_1).f1) ((rd_T68 l0_1 x18_1).f2) ((rd_T68 l0_1 x18_1).f3)) = some r := by rw [if_neg (show ¬ (false = true) by decide)] at H; exact H
        clear H
        have H := H1
        clear H1
        have H' := Aside0.mk H
        clear H
        try go_wp2
        have n0_ : Aside0 (Kd.R (Kd.int .i64) 3 ((((w13.setCell ⟨gb284, 0, none⟩ (.string ((rd_T68 l0_1 x18_1).f0))).setCell ⟨gb284, 1, none⟩ (.int .i64 ((rd_T68 l0_1 x18_1).f1))).setCell ⟨gb284, 2, none⟩ (.int .i64 ((rd_T68 l0_1 x18_1).f2))).setCell ⟨gb284, 3, none⟩ (.slice A283_3 ((rd_T68 l0_1 x18_1).f3).length c283_3)) w.heap.size (fun _ => True) v281 x5_1) := ⟨by (with_reducible repeat (first | apply Kd.R_alloc | apply Kd.R_drewN | apply Kd.R_drew)); exact Kd.R_mono (Kd.R_far (p := ⟨gb284, 3, none⟩) (Kd.R_far (p := ⟨gb284, 2, none⟩) (Kd.R_far (p := ⟨gb284, 1, none⟩) (Kd.R_far (p := ⟨gb284, 0, none⟩) (Kd.R_types HO_5.out BK284.out (by decide)) (fun _ hk => hk.2) (.string ((rd_T68 l0_1 x18_1).f0))) (fun _ hk => hk.2) (.int .i64 ((rd_T68 l0_1 x18_1).f1))) (fun _ hk => hk.2) (.int .i64 ((rd_T68 l0_1 x18_1).f2))) (fun _ hk => hk.2) (.slice A283_3 ((rd_T68 l0_1 x18_1).f3).length c283_3)) (fun _ hk => trivial)⟩
        have n1_ : Aside0 (((((w13.setCell ⟨gb284, 0, none⟩ (.string ((rd_T68 l0_1 x18_1).f0))).setCell ⟨gb284, 1, none⟩ (.int .i64 ((rd_T68 l0_1 x18_1).f1))).setCell ⟨gb284, 2, none⟩ (.int .i64 ((rd_T68 l0_1 x18_1).f2))).setCell ⟨gb284, 3, none⟩ (.slice A283_3 ((rd_T68 l0_1 x18_1).f3).length c283_3)).heap[gb279]? = some (.cells #[.slice A0_0 l0_0.length c0_0, .slice (some ad283) l0_1.length c0_1] 30 (0, 0))) := ⟨by (with_reducible repeat (first | refine blk_drewN ?_ _ | refine blk_drew ?_ | refine blk_alloc ?_ _)); refine blk_far ?_ NB279_284.out _; (with_reducible repeat (first | refine blk_drewN ?_ _ | refine blk_drew ?_ | refine blk_alloc ?_ _)); refine blk_far ?_ NB279_284.out _; (with_reducible repeat (first | refine blk_drewN ?_ _ | refine blk_drew ?_ | refine blk_alloc ?_ _)); refine blk_far ?_ NB279_284.out _; (with_reducible repeat (first | refine blk_drewN ?_ _ | refine blk_drew ?_ | refine blk_alloc ?_ _)); refine blk_far ?_ NB279_284.out _; (with_reducible repeat (first | refine blk_drewN ?_ _ | refine blk_drew ?_ | refine blk_alloc ?_ _)); exact BK279.out⟩
        have n2_ : Aside0 (((((w13.setCell ⟨gb284, 0, none⟩ (.string ((rd_T68 l0_1 x18_1).f0))).setCell ⟨gb284, 1, none⟩ (.int .i64 ((rd_T68 l0_1 x18_1).f1))).setCell ⟨gb284, 2, none⟩ (.int .i64 ((rd_T68 l0_1 x18_1).f2))).setCell ⟨gb284, 3, none⟩ (.slice A283_3 ((rd_T68 l0_1 x18_1).f3).length c283_3)).heap[gb284]? = some (.cells #[.string ((rd_T68 l0_1 x18_1).f0), .int .i64 ((rd_T68 l0_1 x18_1).f1), .int .i64 ((rd_T68 l0_1 x18_1).f2), .slice A283_3 ((rd_T68 l0_1 x18_1).f3).length c283_3] 68 (0, 0))) := ⟨by (with_reducible repeat (first | refine blk_drewN ?_ _ | refine blk_drew ?_ | refine blk_alloc ?_ _)); refine blk_put (cs := #[.string ((rd_T68 l0_1 x18_1).f0), .int .i64 ((rd_T68 l0_1 x18_1).f1), .int .i64 ((rd_T68 l0_1 x18_1).f2), .slice none 0 0]) ?_ 3 _ rfl; (with_reducible repeat (first | refine blk_drewN ?_ _ | refine blk_drew ?_ | refine blk_alloc ?_ _)); refine blk_put (cs := #[.string ((rd_T68 l0_1 x18_1).f0), .int .i64 ((rd_T68 l0_1 x18_1).f1), .int .i64 0, .slice none 0 0]) ?_ 2 _ rfl; (with_reducible repeat (first | refine blk_drewN ?_ _ | refine blk_drew ?_ | refine blk_alloc ?_ _)); refine blk_put (cs := #[.string ((rd_T68 l0_1 x18_1).f0), .int .i64 0, .int .i64 0, .slice none 0 0]) ?_ 1 _ rfl; (with_reducible repeat (first | refine blk_drewN ?_ _ | refine blk_drew ?_ | refine blk_alloc ?_ _)); refine blk_put (cs := #[.string (⟨#[]⟩ : ByteArray), .int .i64 0, .int .i64 0, .slice none 0 0]) ?_ 0 _ rfl; (with_reducible repeat (first | refine blk_drewN ?_ _ | refine blk_drew ?_ | refine blk_alloc ?_ _)); exact BK284.out⟩
        have n3_ : Aside0 (Below w.heap.size w ((((w13.setCell ⟨gb284, 0, none⟩ (.string ((rd_T68 l0_1 x18_1).f0))).setCell ⟨gb284, 1, none⟩ (.int .i64 ((rd_T68 l0_1 x18_1).f1))).setCell ⟨gb284, 2, none⟩ (.int .i64 ((rd_T68 l0_1 x18_1).f2))).setCell ⟨gb284, 3, none⟩ (.slice A283_3 ((rd_T68 l0_1 x18_1).f3).length c283_3))) := ⟨by repeat (first | (with_reducible first | exact HB.out | apply below_alloc | apply pw_below_drewN | apply below_drew1 | refine below_set ?_ GE279.out | refine below_set ?_ GE284.out) | exact HB.out)⟩
        (try clear HO_5)
        (try clear BK279)
        (try clear BK284)
        (try clear HB)
        generalize ((((w13.setCell ⟨gb284, 0, none⟩ (.string ((rd_T68 l0_1 x18_1).f0))).setCell ⟨gb284, 1, none⟩ (.int .i64 ((rd_T68 l0_1 x18_1).f1))).setCell ⟨gb284, 2, none⟩ (.int .i64 ((rd_T68 l0_1 x18_1).f2))).setCell ⟨gb284, 3, none⟩ (.slice A283_3 ((rd_T68 l0_1 x18_1).f3).length c283_3)) = w32 at n0_ n1_ n2_ n3_ ⊢
        have HO_5 := n0_
        have BK279 := n1_
        have BK284 := n2_
        have HB := n3_
        clear n0_ n1_ n2_ n3_
        have n0_ := Aside0.mk (Kd.R_drew HO_5.out)
        have n1_ := Aside0.mk (blk_drew BK279.out)
        have n2_ := Aside0.mk (blk_drew BK284.out)
        have n3_ := Aside0.mk (below_drew1 HB.out)
        clear HO_5
        clear BK279
        clear BK284
        clear HB
        have HO_5 := n0_
        have BK279 := n1_
        have BK284 := n2_
        have HB := n3_
        clear n0_ n1_ n2_ n3_
        refine start_ (n := 30) (S := fun w' => w'.cell? ⟨gb284, 0, none⟩ = some (.string ((rd_T68 l0_1 x18_1).f0)) ∧ w'.cell? ⟨gb284, 1, none⟩ = some (.int .i64 ((rd_T68 l0_1 x18_1).f1)) ∧ w'.cell? ⟨gb284, 2, none⟩ = some (.int .i64 ((rd_T68 l0_1 x18_1).f2)) ∧ w'.cell? ⟨gb284, 3, none⟩ = some (.slice A283_3 ((rd_T68 l0_1 x18_1).f3).length c283_3)) (ds := []) bv9_0 (by kernel_rfl) rfl rfl ⟨(blk_cell BK284.out 0).trans rfl, (blk_cell BK284.out 1).trans rfl, (blk_cell BK284.out 2).trans rfl, (blk_cell BK284.out 3).trans rfl⟩ (fun hHeld => ?_); refine with_tabW impl_bodiesOk.tab5 impl_bodiesOk.bits5 (fun HT_ HW_ => ?_)
        generalize w32.drew = w33 at HO_5 BK279 BK284 HB hHeld ⊢
        refine pure_ (i := 0) (N := some 22) (v := ?_) (a' := ?_) bv9_1 rfl rfl (any_of HT_.out (by kernel_rfl)) (fun _ _ _ h => h) (Or.inl ⟨by rfl, ?_⟩) ?_ ?_
        rotate_left; exact pw_; rotate_left; exact pz_
        refine take_ (i := 1) (N := some 23) (v := ?_) (a' := ?_) bv9_2 rfl rfl (take_ofW HT_.out HW_.out (by kernel_rfl)) (fun _ _ _ h => h) (Or.inl ⟨by rfl, ?_⟩) hHeld ?_ ?_
        rotate_left; exact pw4_; rotate_left; exact pz_
        refine one_ (i := 2) (N := some 24) bv9_3 rfl rfl (one_of HT_.out (by kernel_rfl)) (by decide) (fun K hK => ?_)
        refine goes_ Try.func99 (by kernel_rfl) rfl #[.string ((rd_T68 l0_1 x18_1).f0)] (by rfl) rfl rfl q0_ ?_
        with_reducible refine (impl_LineOk.calls ((rd_T68 l0_1 x18_1).f0) false _ A16.out).mono ?_
        rintro e w' ⟨rfl, ⟨nd, rfl⟩⟩
        refine ⟨_, rfl, ?_⟩
        refine hK.out _ _ ⟨(blk_cell BK284.out 0).trans rfl, (blk_cell BK284.out 1).trans rfl, (blk_cell BK284.out 2).trans rfl, (blk_cell BK284.out 3).trans rfl⟩ (fun hHeld => ?_)
        clear hK K
        refine norm_ (a' := ?_) ?_ ?_
        rotate_left
        ·show Act.put _ (some 24) _ = _
         simp only [Act.put, List.setIfInBounds_toArray, List.set_cons_zero, List.set_cons_succ, i64_w, i32_w]
         rfl
        refine pure_ (i := 3) (N := some 25) (v := ?_) (a' := ?_) bv9_4 rfl rfl (any_of HT_.out (by kernel_rfl)) (fun _ _ _ h => h) (Or.inl ⟨by rfl, ?_⟩) ?_ ?_
        rotate_left; exact pw_; rotate_left; exact pz_
        refine pure_ (i := 4) (N := some 26) (v := ?_) (a' := ?_) bv9_5 rfl rfl (any_of HT_.out (by kernel_rfl)) (fun _ _ _ h => h) (Or.inl ⟨by rfl, ?_⟩) ?_ ?_
        rotate_left; exact pw_; rotate_left; exact pz_
        refine pure_ (i := 5) (N := some 27) (v := undef) (a' := ?_) bv9_6 rfl rfl (any_of HT_.out (by kernel_rfl)) (fun _ _ _ h => h) (Or.inr ⟨by rfl, rfl⟩) ?_ ?_
        rotate_left; exact pz_
        refine pure_ (i := 6) (N := some 28) (v := undef) (a' := ?_) #[true, true, true, true, true, true, true, false, false, false, false, false, false, false, false, false, false, false, false, false, false, false, false, false, false, false, false, false, false, false] rfl rfl (any_of HT_.out (by kernel_rfl)) (fun _ _ _ h => h) (Or.inr ⟨by rfl, rfl⟩) ?_ ?_
        rotate_left; exact pz_
        refine pure_ (i := 7) (N := some 29) (v := undef) (a' := ?_) #[true, true, true, true, true, true, true, true, false, false, false, false, false, false, false, false, false, false, false, false, false, false, false, false, false, false, false, false, false, false] rfl rfl (any_of HT_.out (by kernel_rfl)) (fun _ _ _ h => h) (Or.inr ⟨by rfl, rfl⟩) ?_ ?_
        rotate_left; exact pz_
        refine pure_ (i := 8) (N := some 30) (v := undef) (a' := ?_) bv9_9 rfl rfl (any_of HT_.out (by kernel_rfl)) (fun _ _ _ h => h) (Or.inr ⟨by rfl, rfl⟩) ?_ ?_
        rotate_left; exact pz_
        refine pure_ (i := 9) (N := some 31) (v := undef) (a' := ?_) bv9_10 rfl rfl (any_of HT_.out (by kernel_rfl)) (fun _ _ _ h => h) (Or.inr ⟨by rfl, rfl⟩) ?_ ?_
        rotate_left; exact pz_
        refine pure_ (i := 10) (N := some 32) (v := undef) (a' := ?_) bv9_11 rfl rfl (any_of HT_.out (by kernel_rfl)) (fun _ _ _ h => h) (Or.inr ⟨by rfl, rfl⟩) ?_ ?_
        rotate_left; exact pz_
        refine pure_ (i := 11) (N := some 33) (v := ?_) (a' := ?_) bv9_12 rfl rfl (any_of HT_.out (by kernel_rfl)) (fun _ _ _ h => h) (Or.inl ⟨by rfl, ?_⟩) ?_ ?_
        rotate_left; exact pw_; rotate_left; exact pz_
        refine pure_ (i := 12) (N := some 34) (v := ?_) (a' := ?_) bv9_13 rfl rfl (any_of HT_.out (by kernel_rfl)) (fun _ _ _ h => h) (Or.inl ⟨by rfl, ?_⟩) ?_ ?_
        rotate_left; exact pw_; rotate_left; exact pz_
        refine pure_ (i := 13) (N := some 35) (v := undef) (a' := ?_) bv9_14 rfl rfl (any_of HT_.out (by kernel_rfl)) (fun _ _ _ h => h) (Or.inr ⟨by rfl, rfl⟩) ?_ ?_
        rotate_left; exact pz_
        refine pure_ (i := 14) (N := some 36) (v := undef) (a' := ?_) bv9_31 rfl rfl (any_of HT_.out (by kernel_rfl)) (fun _ _ _ h => h) (Or.inr ⟨by rfl, rfl⟩) ?_ ?_
        rotate_left; exact pz_
        refine pure_ (i := 15) (N := some 37) (v := undef) (a' := ?_) bv9_32 rfl rfl (any_of HT_.out (by kernel_rfl)) (fun _ _ _ h => h) (Or.inr ⟨by rfl, rfl⟩) ?_ ?_
        rotate_left; exact pz_
        refine pure_ (i := 16) (N := some 38) (v := undef) (a' := ?_) bv9_17 rfl rfl (any_of HT_.out (by kernel_rfl)) (fun _ _ _ h => h) (Or.inr ⟨by rfl, rfl⟩) ?_ ?_
        rotate_left; exact pz_
        refine pure_ (i := 17) (N := some 39) (v := undef) (a' := ?_) bv9_18 rfl rfl (any_of HT_.out (by kernel_rfl)) (fun _ _ _ h => h) (Or.inr ⟨by rfl, rfl⟩) ?_ ?_
        rotate_left; exact pz_
        refine pure_ (i := 18) (N := some 40) (v := undef) (a' := ?_) bv9_19 rfl rfl (any_of HT_.out (by kernel_rfl)) (fun _ _ _ h => h) (Or.inr ⟨by rfl, rfl⟩) ?_ ?_
        rotate_left; exact pz_
        refine pure_ (i := 19) (N := some 41) (v := undef) (a' := ?_) bv9_20 rfl rfl (any_of HT_.out (by kernel_rfl)) (fun _ _ _ h => h) (Or.inr ⟨by rfl, rfl⟩) ?_ ?_
        rotate_left; exact pz_
        refine pure_ (i := 20) (N := some 42) (v := undef) (a' := ?_) bv9_21 rfl rfl (any_of HT_.out (by kernel_rfl)) (fun _ _ _ h => h) (Or.inr ⟨by rfl, rfl⟩) ?_ ?_
        rotate_left; exact pz_
        refine pure_ (i := 21) (N := some 43) (v := ?_) (a' := ?_) bv9_22 rfl rfl (any_of HT_.out (by kernel_rfl)) (fun _ _ _ h => h) (Or.inl ⟨by rfl, ?_⟩) ?_ ?_
        rotate_left; exact pw_; rotate_left; exact pz_
        refine pure_ (i := 22) (N := some 44) (v := ?_) (a' := ?_) bv9_23 rfl rfl (any_of HT_.out (by kernel_rfl)) (fun _ _ _ h => h) (Or.inl ⟨by rfl, ?_⟩) ?_ ?_
        rotate_left; exact pw_; rotate_left; exact pz_
        refine pure_ (i := 23) (N := some 45) (v := undef) (a' := ?_) bv9_24 rfl rfl (any_of HT_.out (by kernel_rfl)) (fun _ _ _ h => h) (Or.inr ⟨by rfl, rfl⟩) ?_ ?_
        rotate_left; exact pz_
        refine pure_ (i := 24) (N := some 46) (v := undef) (a' := ?_) bv9_29 rfl rfl (any_of HT_.out (by kernel_rfl)) (fun _ _ _ h => h) (Or.inr ⟨by rfl, rfl⟩) ?_ ?_
        rotate_left; exact pz_
        refine pure_ (i := 25) (N := some 47) (v := undef) (a' := ?_) bv9_30 rfl rfl (any_of HT_.out (by kernel_rfl)) (fun _ _ _ h => h) (Or.inr ⟨by rfl, rfl⟩) ?_ ?_
        rotate_left; exact pz_
        refine pure_ (i := 26) (N := some 48) (v := undef) (a' := ?_) bv9_25 rfl rfl (any_of HT_.out (by kernel_rfl)) (fun _ _ _ h => h) (Or.inr ⟨by rfl, rfl⟩) ?_ ?_
        rotate_left; exact pz_
        refine pure_ (i := 27) (N := some 49) (v := undef) (a' := ?_) bv9_26 rfl rfl (any_of HT_.out (by kernel_rfl)) (fun _ _ _ h => h) (Or.inr ⟨by rfl, rfl⟩) ?_ ?_
        rotate_left; exact pz_
        refine pure_ (i := 28) (N := some 50) (v := undef) (a' := ?_) bv9_27 rfl rfl (any_of HT_.out (by kernel_rfl)) (fun _ _ _ h => h) (Or.inr ⟨by rfl, rfl⟩) ?_ ?_
        rotate_left; exact pz_
        refine pure_ (i := 29) (N := some 51) (v := ?_) (a' := ?_) bv9_28 rfl rfl (any_of HT_.out (by kernel_rfl)) (fun _ _ _ h => h) (Or.inl ⟨by rfl, ?_⟩) ?_ ?_
        rotate_left; exact pw_; rotate_left; exact pz_
        refine done_ (done_of HT_.out (by kernel_rfl)) ?_
        try go_wp2
        go_meet
        case rel => exact ⟨_, (true), q5_, H', ⟨by have := HK1.out; first | omega | exact Nat.le_refl _⟩, ⟨by (with_reducible repeat (first | apply Kd.R_alloc | apply Kd.R_drewN | apply Kd.R_drew)); exact HO_5.out⟩, ⟨by (with_reducible repeat (first | refine blk_drewN ?_ _ | refine blk_drew ?_ | refine blk_alloc ?_ _)); exact BK279.out⟩, ⟨by (with_reducible repeat (first | refine blk_drewN ?_ _ | refine blk_drew ?_ | refine blk_alloc ?_ _)); exact BK284.out⟩, ⟨by repeat (first | (with_reducible first | exact HB.out | apply below_alloc | apply pw_below_drewN | apply below_drew1 | refine below_set ?_ GE279.out | refine below_set ?_ GE284.out) | exact HB.out)⟩⟩
      case rest =>
       clear HC12
       try clear c1
       try clear c2
       try clear p2
       try clear c7
       try clear c9
       try clear c17
       try clear c19
       try clear c20
       try clear c21
       try clear c28
       obtain ⟨kq, x51_11, rfl, HA, HJ11, HO_5, BK279, BK284, HB⟩ := hcut
       cases kq with
       | zero => exact absurd HA.out (by simp [impl_bodiesOk.j1])
       | succ kj11 =>
        have H := HA.out
        clear HA
        simp only [impl_bodiesOk.j1] at H
        by_cases c34 : x51_11 = true
        ·subst c34
         have H1 : (some false) = some r := by rw [if_pos rfl] at H; exact H
         clear H
         have H := H1
         clear H1
         obtain rfl := Option.some.inj H
         go_wp2
         go_ret
         exact ⟨by first | rfl | (simp [errW_none, errW_some] <;> rfl) | (simp [*, errW_none, errW_some] <;> rfl), by repeat (first | (with_reducible first | exact HB.out | apply below_alloc | apply pw_below_drewN | apply below_drew1 | refine below_set ?_ GE279.out | refine below_set ?_ GE284.out) | exact HB.out)⟩
        ·replace c34 := Bool.eq_false_iff.mpr c34
         subst c34
         have H1 : (if 0 ≤ ((rd_T68 l0_1 x18_1).f1) then (if ((rd_T68 l0_1 x18_1).f1) < (x5_1.length : Int) then (impl_bodiesOk.l1 kj11 l1 (x5_1.set (((rd_T68 l0_1 x18_1).f1) : Int).toNat (wrap64 ((rd x5_1 ((rd_T68 l0_1 x18_1).f1)) + 1))) l0_1 (l0_1.length : Int) x18_1 ((rd_T68 l0_1 x18_1).f3) (((rd_T68 l0_1 x18_1).f3).length : Int) 0 l0_0 l0_1 ((rd_T68 l0_1 x18_1).f0) ((rd_T68 l0_1 x18_1).f1) ((rd_T68 l0_1 x18_1).f2) ((rd_T68 l0_1 x18_1).f3)) else (none)) else (none)) = some r := by rw [if_neg (show ¬ (false = true) by decide)] at H; exact H
         clear H
         have H := H1
         clear H1
         by_cases c35 : 0 ≤ ((rd_T68 l0_1 x18_1).f1)
         case neg =>
          rw [if_neg c35] at H
          exact absurd H (by simp)
         rw [if_pos c35] at H
         have c35b0 : decide (0 ≤ ((rd_T68 l0_1 x18_1).f1)) = true := decide_eq_true c35
         clear c35
         by_cases c36 : ((rd_T68 l0_1 x18_1).f1) < (x5_1.length : Int)
         case neg =>
          rw [if_neg c36] at H
          exact absurd H (by simp)
         rw [if_pos c36] at H
         have c36b0 : decide (((rd_T68 l0_1 x18_1).f1) < (x5_1.length : Int)) = true := decide_eq_true c36
         clear c36
         obtain ⟨y290, hy290⟩ : ∃ y_ : List Int, y_ = (x5_1.set (((rd_T68 l0_1 x18_1).f1) : Int).toNat (wrap64 ((rd x5_1 ((rd_T68 l0_1 x18_1).f1)) + 1))) := ⟨_, rfl⟩
         replace H : (impl_bodiesOk.l1 kj11 l1 y290 l0_1 (l0_1.length : Int) x18_1 ((rd_T68 l0_1 x18_1).f3) (((rd_T68 l0_1 x18_1).f3).length : Int) 0 l0_0 l0_1 ((rd_T68 l0_1 x18_1).f0) ((rd_T68 l0_1 x18_1).f1) ((rd_T68 l0_1 x18_1).f2) ((rd_T68 l0_1 x18_1).f3)) = some r := by first | (rw [hy290]; with_reducible exact H) | (have H2_ := (Option.bind_some _ _).symm.trans H; rw [hy290]; with_reducible exact H2_) | (have H2_ := (Option.bind_some _ _).symm.trans H; with_reducible exact H2_) | with_reducible exact H | (rw [hy290]; exact H) | exact H
         have Ny290 := Aside0.mk hy290
         clear hy290
         have H' := Aside0.mk H
         clear H
         have hnb38 := NB284_279.out
         have hnc38 := NB279_284.out
         have hcz39_0 : wc.cell? ⟨gb284, 0, none⟩ = some (.string ((rd_T68 l0_1 x18_1).f0)) := (blk_cell BK284.out 0).trans rfl
         have hcz39_1 : wc.cell? ⟨gb284, 1, none⟩ = some (.int .i64 ((rd_T68 l0_1 x18_1).f1)) := (blk_cell BK284.out 1).trans rfl
         have hcz39_2 : wc.cell? ⟨gb284, 2, none⟩ = some (.int .i64 ((rd_T68 l0_1 x18_1).f2)) := (blk_cell BK284.out 2).trans rfl
         have hcz39_3 : wc.cell? ⟨gb284, 3, none⟩ = some (.slice A283_3 ((rd_T68 l0_1 x18_1).f3).length c283_3) := (blk_cell BK284.out 3).trans rfl
         have hfz39_0 := blk_frozen BK284.out 0
         have hfz39_1 := blk_frozen BK284.out 1
         have hfz39_2 := blk_frozen BK284.out 2
         have hfz39_3 := blk_frozen BK284.out 3
         obtain ⟨Ao40, co40, eo40⟩ := Kd.R_slice HO_5.out
         subst eo40
         have p289 : 0 ≤ (((rd_T68 l0_1 x18_1).f1) : Int) := of_decide_eq_true q2_
         have q289 : ((rd_T68 l0_1 x18_1).f1) < (x5_1.length : Int) := of_decide_eq_true q2_
         obtain ⟨ad289, e289, hx289_0⟩ := Kd.at_int (Kd.R_reads' HO_5.out).2.2 ((rd_T68 l0_1 x18_1).f1) p289 q289
         cases e289
         replace p289 := eq_true p289
         replace q289 := eq_true q289
         have p37 : 0 ≤ (((rd_T68 l0_1 x18_1).f1) : Int) := of_decide_eq_true q2_
         have q37 : (((rd_T68 l0_1 x18_1).f1) : Int) < ((x5_1.length : Int) : Int) := of_decide_eq_true q2_
         obtain ⟨go37, co37, eo37, gb37, gl37, cl37, HG37⟩ := Kd.R_form HO_5.out (by omega)
         (first | cases eo37 | (injection eo37 with ea_ en_ ec_; (first | subst ea_ | (injection ea_ with ea_; subst ea_)); subst ec_; clear en_))
         have GB37 := Aside0.mk gb37
         have GG37 := Aside0.mk HG37
         clear gb37 gl37 HG37
         (first | simp only [add_plain] at hx289_0 | skip)
         obtain ⟨hx37_0, hf37_0⟩ := Kd.R_celln 0 HO_5.out (((rd_T68 l0_1 x18_1).f1) : Int) p37 q37
         replace p37 := eq_true p37
         replace q37 := eq_true q37
         have HP41 := Kd.R_putg HO_5.out (((rd_T68 l0_1 x18_1).f1) : Int) (wrap64 ((rd x5_1 ((rd_T68 l0_1 x18_1).f1)) + 1))
         go_wp2_with (first | ((with_reducible refine gate_store (t := 3) (p := 58) rfl ?_); refine store_event (t := 3) (p := 58) (v := ?vo_w42) (w1 := (wc.setCell ⟨go37, (((rd_T68 l0_1 x18_1).f1) : Int).toNat, none⟩ (.int .i64 (wrap64 ((rd x5_1 ((rd_T68 l0_1 x18_1).f1)) + 1))))) ?hg ?ho ?hn ?hr ?_; (case ho => rfl); (case hg => rfl); (case hn => rfl); (case hr => first | (go_simp; done) | (go_simp; rfl)); intro w42 hw; have hg : wc.grownBy w42 (some go37) := (by rw [hw]; exact HP41.2); have hp_ : Kd.R (Kd.int .i64) 3 w42 w.heap.size (fun _ => True) (.slice (some ⟨go37, 0, none⟩) x5_1.length co40) y290 := (by rw [hw, Ny290.out]; exact HP41.1); clear HP41; have n0_ := Aside0.mk (hp_); have n1_ := Aside0.mk (blk_grown (g := gb279) (o := .cells #[.slice A0_0 l0_0.length c0_0, .slice (some ad283) l0_1.length c0_1] 30 (0, 0)) q29_ hg (Kd.R_ne HO_5.out BK279.out (by decide))); have n2_ := Aside0.mk (blk_grown (g := gb284) (o := .cells #[.string ((rd_T68 l0_1 x18_1).f0), .int .i64 ((rd_T68 l0_1 x18_1).f1), .int .i64 ((rd_T68 l0_1 x18_1).f2), .slice A283_3 ((rd_T68 l0_1 x18_1).f3).length c283_3] 68 (0, 0)) (by (with_reducible repeat (first | refine blk_drewN ?_ _ | refine blk_drew ?_ | refine blk_alloc ?_ _)); exact BK284.out) hg (Kd.R_ne HO_5.out BK284.out (by decide))); have n3_ := Aside0.mk ((by rw [hw]; exact below_set (HB.out) GB37.out : Below w.heap.size w w42)); clear HO_5; clear BK279; clear BK284; clear HB; have HO_5 := n0_; have BK279 := n1_; have BK284 := n2_; have HB := n3_; clear n0_ n1_ n2_ n3_; clear hg hw hp_; have hcz43_0 : w42.cell? ⟨gb284, 0, none⟩ = some (.string ((rd_T68 l0_1 x18_1).f0)) := (blk_cell BK284.out 0).trans rfl; have hcz43_1 : w42.cell? ⟨gb284, 1, none⟩ = some (.int .i64 ((rd_T68 l0_1 x18_1).f1)) := (blk_cell BK284.out 1).trans rfl; have hcz43_2 : w42.cell? ⟨gb284, 2, none⟩ = some (.int .i64 ((rd_T68 l0_1 x18_1).f2)) := (blk_cell BK284.out 2).trans rfl; have hcz43_3 : w42.cell? ⟨gb284, 3, none⟩ = some (.slice A283_3 ((rd_T68 l0_1 x18_1).f3).length c283_3) := (blk_cell BK284.out 3).trans rfl; have hfz43_0 := blk_frozen BK284.out 0; have hfz43_1 := blk_frozen BK284.out 1; have hfz43_2 := blk_frozen BK284.out 2; have hfz43_3 := blk_frozen BK284.out 3))
         go_loopg [62] kj11 (fun kq v62 w' => ∃ (x62_3 : Int), v62 = .int .i64 x62_3 ∧ Aside0 (impl_bodiesOk.l1 kq l1 y290 l0_1 (l0_1.length : Int) x18_1 ((rd_T68 l0_1 x18_1).f3) (((rd_T68 l0_1 x18_1).f3).length : Int) x62_3 l0_0 l0_1 ((rd_T68 l0_1 x18_1).f0) ((rd_T68 l0_1 x18_1).f1) ((rd_T68 l0_1 x18_1).f2) ((rd_T68 l0_1 x18_1).f3) = some r) ∧ Aside0 (kq ≤ kj11) ∧ Aside0 (Kd.R (Kd.int .i64) 3 w' w.heap.size (fun _ => True) (.slice (some ⟨go37, 0, none⟩) x5_1.length co40) y290) ∧ Aside0 (w'.heap[gb279]? = some (.cells #[(.slice A0_0 l0_0.length c0_0), (.slice (some ad283) l0_1.length c0_1)] 30 (0, 0))) ∧ Aside0 (w'.heap[gb284]? = some (.cells #[.string ((rd_T68 l0_1 x18_1).f0), .int .i64 ((rd_T68 l0_1 x18_1).f1), .int .i64 ((rd_T68 l0_1 x18_1).f2), (.slice A283_3 ((rd_T68 l0_1 x18_1).f3).length c283_3)] 68 (0, 0))) ∧ Aside0 (Below w.heap.size w w'))
         case atStart => exact ⟨(0), q5_, H', ⟨Nat.le_refl _⟩, ⟨by (with_reducible repeat (first | apply Kd.R_alloc | apply Kd.R_drewN | apply Kd.R_drew)); exact HO_5.out⟩, ⟨by (with_reducible repeat (first | refine blk_drewN ?_ _ | refine blk_drew ?_ | refine blk_alloc ?_ _)); exact BK279.out⟩, ⟨by (with_reducible repeat (first | refine blk_drewN ?_ _ | refine blk_drew ?_ | refine blk_alloc ?_ _)); exact BK284.out⟩, ⟨by repeat (first | (with_reducible first | exact HB.out | apply below_alloc | apply pw_below_drewN | apply below_drew1 | refine below_set ?_ GE279.out | refine below_set ?_ GE284.out) | exact HB.out)⟩⟩
         case round =>
          clear H'
          try clear c1
          try clear c2
          try clear p2
          try clear q2
          try clear hx2
          try clear c3
          try clear p3
          try clear q3
          try clear hx3
          try clear hf3
          try clear p6
          try clear c7
          try clear c9
          try clear c17
          try clear c19
          try clear c20
          try clear c21
          try clear c28
          try clear p28
          try clear q28
          try clear hx28
          try clear c34
          try clear c35
          try clear c35b0
          try clear c36
          try clear c36b0
          try clear p37
          try clear q37
          try clear hx37
          try clear hf37
          try clear c38
          try clear hcz39_0
          try clear hcz39_1
          try clear hcz39_2
          try clear hcz39_3
          try clear hcz43_0
          try clear hcz43_1
          try clear hcz43_2
          try clear hcz43_3
          try clear hfz39_0
          try clear hfz39_1
          try clear hfz39_2
          try clear hfz39_3
          try clear hfz43_0
          try clear hfz43_1
          try clear hfz43_2
          try clear hfz43_3
          try clear hx289_0
          try clear hx37_0
          try clear p2
          try clear p289
          try clear p37
          try clear q289
          try clear q37
          obtain ⟨x62_3, rfl, HA, HK3, HO_5, BK279, BK284, HB⟩ := hrel
          have hl5_3 := (Kd.R_reads' HO_5.out).1
          rw [hl5_3] at HO_5
          (try simp only [hl5_3])
          (try simp only [hl5_3] at BK279)
          (try simp only [hl5_3] at BK284)
          cases gk with
          | zero => exact absurd HA.out (by simp [impl_bodiesOk.l1])
          | succ k3 =>
           have H := HA.out
           clear HA
           simp only [impl_bodiesOk.l1] at H
           by_cases c44 : x62_3 < (((rd_T68 l0_1 x18_1).f3).length : Int)
           ·rw [if_pos c44] at H
            have c44b0 : decide (x62_3 < (((rd_T68 l0_1 x18_1).f3).length : Int)) = true := decide_eq_true c44
            clear c44
            by_cases c45 : 0 ≤ x62_3
            case neg =>
             rw [if_neg c45] at H
             exact absurd H (by simp)
            rw [if_pos c45] at H
            have c45b0 : decide (0 ≤ x62_3) = true := decide_eq_true c45
            clear c45
            by_cases c46 : x62_3 < (((rd_T68 l0_1 x18_1).f3).length : Int)
            case neg =>
             rw [if_neg c46] at H
             exact absurd H (by simp)
            rw [if_pos c46] at H
            have c46b0 : decide (x62_3 < (((rd_T68 l0_1 x18_1).f3).length : Int)) = true := decide_eq_true c46
            clear c46
            by_cases c47 : 0 ≤ (rd ((rd_T68 l0_1 x18_1).f3) x62_3)
            case neg =>
             rw [if_neg c47] at H
             exact absurd H (by simp)
            rw [if_pos c47] at H
            have c47b0 : decide (0 ≤ (rd ((rd_T68 l0_1 x18_1).f3) x62_3)) = true := decide_eq_true c47
            clear c47
            by_cases c48 : (rd ((rd_T68 l0_1 x18_1).f3) x62_3) < (l0_0.length : Int)
            case neg =>
             rw [if_neg c48] at H
             exact absurd H (by simp)
            rw [if_pos c48] at H
            have c48b0 : decide ((rd ((rd_T68 l0_1 x18_1).f3) x62_3) < (l0_0.length : Int)) = true := decide_eq_true c48
            clear c48
            replace H := Option.bind_eq_some_iff.mp H
            obtain ⟨t293, A490, H⟩ := H
            replace H : ((impl_Body_isLive.f k3 ((rd_T68 l0_1 x18_1).f0) ((rd_T68 l0_1 x18_1).f1) ((rd_T68 l0_1 x18_1).f2) ((rd_T68 l0_1 x18_1).f3) t293).bind fun t294 => (if t294 = true then (impl_bodiesOk.l1 k3 l1 y290 l0_1 (l0_1.length : Int) x18_1 ((rd_T68 l0_1 x18_1).f3) (((rd_T68 l0_1 x18_1).f3).length : Int) (wrap64 (x62_3 + 1)) l0_0 l0_1 ((rd_T68 l0_1 x18_1).f0) ((rd_T68 l0_1 x18_1).f1) ((rd_T68 l0_1 x18_1).f2) ((rd_T68 l0_1 x18_1).f3)) else (some false))) = some r := H
            have A49 := Aside0.mk A490
            clear A490
            replace H := Option.bind_eq_some_iff.mp H
            obtain ⟨t294, A500, H⟩ := H
            replace H : (if t294 = true then (impl_bodiesOk.l1 k3 l1 y290 l0_1 (l0_1.length : Int) x18_1 ((rd_T68 l0_1 x18_1).f3) (((rd_T68 l0_1 x18_1).f3).length : Int) (wrap64 (x62_3 + 1)) l0_0 l0_1 ((rd_T68 l0_1 x18_1).f0) ((rd_T68 l0_1 x18_1).f1) ((rd_T68 l0_1 x18_1).f2) ((rd_T68 l0_1 x18_1).f3)) else (some false)) = some r := H
            have A50 := Aside0.mk A500
            clear A500
            by_cases c51 : t294 = true
            ·subst c51
             have H1 : (impl_bodiesOk.l1 k3 l1 y290 l0_1 (l0_1.length : Int) x18_1 ((rd_T68 l0_1 x18_1).f3) (((rd_T68 l0_1 x18_1).f3).length : Int) (wrap64 (x62_3 + 1)) l0_0 l0_1 ((rd_T68 l0_1 x18_1).f0) ((rd_T68 l0_1 x18_1).f1) ((rd_T68 l0_1 x18_1).f2) ((rd_T68 l0_1 x18_1).f3)) = some r := by rw [if_pos rfl] at H; exact H
             clear H
             have H := H1
             clear H1
             have H' := Aside0.mk H
             clear H
             have p291 : 0 ≤ (x62_3 : Int) := of_decide_eq_true q2_
             have q291 : x62_3 < (((rd_T68 l0_1 x18_1).f3).length : Int) := of_decide_eq_true q2_
             obtain ⟨ad291, e291, hx291_0⟩ := Kd.at_int HR283_3.out x62_3 p291 q291
             cases e291
             replace hx291_0 := (HB.out.cell (World.block_lt_of_cell? w _ hx291_0)).trans hx291_0
             replace p291 := eq_true p291
             replace q291 := eq_true q291
             try go_wp2
             have n0_ := Aside0.mk (Kd.R_drew HO_5.out)
             have n1_ := Aside0.mk (blk_drew BK279.out)
             have n2_ := Aside0.mk (blk_drew BK284.out)
             have n3_ := Aside0.mk (below_drew1 HB.out)
             clear HO_5
             clear BK279
             clear BK284
             clear HB
             have HO_5 := n0_
             have BK279 := n1_
             have BK284 := n2_
             have HB := n3_
             clear n0_ n1_ n2_ n3_
             have p292 : 0 ≤ ((rd ((rd_T68 l0_1 x18_1).f3) x62_3) : Int) := of_decide_eq_true q2_
             have q292 : (rd ((rd_T68 l0_1 x18_1).f3) x62_3) < (l0_0.length : Int) := of_decide_eq_true q2_
             obtain ⟨ad292, A292_0, c292_0, e292, hx292_0, hl292_0, hi292_0⟩ := at_L1 HR0_0.out (rd ((rd_T68 l0_1 x18_1).f3) x62_3) p292 q292
             have hw292_0 := hx292_0
             cases e292
             replace hx292_0 := (HB.out.cell (World.block_lt_of_cell? w _ hx292_0)).trans hx292_0
             have HR292_0 := Aside0.mk hi292_0
             have HC292_0 := Aside0.mk hl292_0
             clear hi292_0 hl292_0
             replace p292 := eq_true p292
             replace q292 := eq_true q292
             refine start_ (n := 10) (S := fun w' => w'.cell? ⟨gb284, 0, none⟩ = some (.string ((rd_T68 l0_1 x18_1).f0)) ∧ w'.cell? ⟨gb284, 1, none⟩ = some (.int .i64 ((rd_T68 l0_1 x18_1).f1)) ∧ w'.cell? ⟨gb284, 2, none⟩ = some (.int .i64 ((rd_T68 l0_1 x18_1).f2)) ∧ w'.cell? ⟨gb284, 3, none⟩ = some (.slice (some ad291) ((rd_T68 l0_1 x18_1).f3).length c283_3) ∧ w'.cell? ⟨gb279, 0, none⟩ = some (.slice (some ad292) l0_0.length c0_0) ∧ w'.cell? ⟨gb279, 1, none⟩ = some (.slice (some ad283) l0_1.length c0_1) ∧ w'.cell? (ad292.add ((rd ((rd_T68 l0_1 x18_1).f3) x62_3)).toNat) = some (.slice A292_0 (rd_L1 l0_0 (rd ((rd_T68 l0_1 x18_1).f3) x62_3)).length c292_0)) (ds := []) #[false, false, false, false, false, false, false, false, false, false] (by kernel_rfl) rfl rfl ⟨(blk_cell BK284.out 0).trans rfl, (blk_cell BK284.out 1).trans rfl, (blk_cell BK284.out 2).trans rfl, (blk_cell BK284.out 3).trans rfl, (blk_cell BK279.out 0).trans rfl, (blk_cell BK279.out 1).trans rfl, ((HB.out.cell (World.block_lt_of_cell? w _ hw292_0)).trans hw292_0)⟩ (fun hHeld => ?_); refine with_tabW impl_bodiesOk.tab11 impl_bodiesOk.bits11 (fun HT_ HW_ => ?_)
             generalize wr.drew = w52 at HO_5 BK279 BK284 HB HR292_0 hx292_0 hHeld ⊢
             refine pure_ (i := 1) (N := some 67) (v := ?_) (a' := ?_) #[false, true, false, false, false, false, false, false, false, false] rfl rfl (any_of HT_.out (by kernel_rfl)) (fun _ _ _ h => h) (Or.inl ⟨by rfl, ?_⟩) ?_ ?_
             rotate_left; exact pw_; rotate_left; exact pz_
             refine pure_ (i := 2) (N := some 68) (v := ?_) (a' := ?_) #[false, true, true, false, false, false, false, false, false, false] rfl rfl (any_of HT_.out (by kernel_rfl)) (fun _ _ _ h => h) (Or.inl ⟨by rfl, ?_⟩) ?_ ?_
             rotate_left; exact pw_; rotate_left; exact pz_
             refine pure_ (i := 4) (N := some 70) (v := ?_) (a' := ?_) #[false, true, true, false, true, false, false, false, false, false] rfl rfl (any_of HT_.out (by kernel_rfl)) (fun _ _ _ h => h) (Or.inl ⟨by rfl, ?_⟩) ?_ ?_
             rotate_left; exact pw_; rotate_left; exact pz_
             refine take_ (i := 0) (N := some 66) (v := ?_) (a' := ?_) #[true, true, true, false, true, false, false, false, false, false] rfl rfl (take_ofW HT_.out HW_.out (by kernel_rfl)) (fun _ _ _ h => h) (Or.inl ⟨by rfl, ?_⟩) hHeld ?_ ?_
             rotate_left; exact pw7_; rotate_left; exact pz_
             refine take_ (i := 3) (N := some 69) (v := ?_) (a' := ?_) #[true, true, true, true, true, false, false, false, false, false] rfl rfl (take_ofW HT_.out HW_.out (by kernel_rfl)) (fun _ _ _ h => h) (Or.inl ⟨by rfl, ?_⟩) hHeld ?_ ?_
             rotate_left; exact pw7_; rotate_left; exact pz_
             refine pure_ (i := 5) (N := some 71) (v := ?_) (a' := ?_) #[true, true, true, true, true, true, false, false, false, false] rfl rfl (any_of HT_.out (by kernel_rfl)) (fun _ _ _ h => h) (Or.inl ⟨by rfl, ?_⟩) ?_ ?_
             rotate_left; exact pw_; rotate_left; exact pz_
             refine take_ (i := 6) (N := some 72) (v := ?_) (a' := ?_) #[true, true, true, true, true, true, true, false, false, false] rfl rfl (take_ofW HT_.out HW_.out (by kernel_rfl)) (fun _ _ _ h => h) (Or.inl ⟨by rfl, ?_⟩) hHeld ?_ ?_
             rotate_left; exact pw7_; rotate_left; exact pz_
             refine one_ (i := 7) (N := some 73) #[true, true, true, true, true, true, true, true, false, false] rfl rfl (one_of HT_.out (by kernel_rfl)) (by decide) (fun K hK => ?_)
             refine goes_ Try.func85 (by kernel_rfl) rfl #[.slice A1 l1.length c1, .slice A292_0 (rd_L1 l0_0 (rd ((rd_T68 l0_1 x18_1).f3) x62_3)).length c292_0] (by rfl) rfl rfl q0_ ?_
             with_reducible refine (impl_unionOf.calls k3 _ _ l1 _ _ (rd_L1 l0_0 (rd ((rd_T68 l0_1 x18_1).f3) x62_3)) t293 _ ?side1 ?side2 ?side3 ?side4 A49.out).mono ?_
             (case side1 => exact q58_)
             (case side2 => exact HC1.out)
             (case side3 => exact (by repeat (first | exact (Kd.C_below HR292_0.out HB.out) | (with_reducible refine Kd.C_alloc ?_ _) | (with_reducible refine Kd.C_drewN ?_ _) | (with_reducible refine Kd.C_drew ?_))))
             (case side4 => exact HC292_0.out)
             rintro e w' ⟨rfl, ⟨nd, rfl⟩⟩
             refine ⟨_, rfl, ?_⟩
             refine hK.out _ _ ⟨(blk_cell BK284.out 0).trans rfl, (blk_cell BK284.out 1).trans rfl, (blk_cell BK284.out 2).trans rfl, (blk_cell BK284.out 3).trans rfl, (blk_cell BK279.out 0).trans rfl, (blk_cell BK279.out 1).trans rfl, ((HB.out.cell (World.block_lt_of_cell? w _ hw292_0)).trans hw292_0)⟩ (fun hHeld => ?_)
             clear hK K
             refine norm_ (a' := ?_) ?_ ?_
             rotate_left
             ·show Act.put _ (some 73) _ = _
              simp only [Act.put, List.setIfInBounds_toArray, List.set_cons_zero, List.set_cons_succ, i64_w, i32_w]
              rfl
             refine one_ (i := 8) (N := some 74) #[true, true, true, true, true, true, true, true, true, false] rfl rfl (one_of HT_.out (by kernel_rfl)) (by decide) (fun K hK => ?_)
             refine goes_ Try.func68 (by kernel_rfl) rfl #[.agg #[.string ((rd_T68 l0_1 x18_1).f0), .int .i64 ((rd_T68 l0_1 x18_1).f1), .int .i64 ((rd_T68 l0_1 x18_1).f2), .slice (some ad291) ((rd_T68 l0_1 x18_1).f3).length c283_3], .int .u64 t293] (by rfl) rfl rfl q0_ ?_
             with_reducible refine (impl_Body_isLive.calls k3 ((rd_T68 l0_1 x18_1).f0) ((rd_T68 l0_1 x18_1).f1) ((rd_T68 l0_1 x18_1).f2) _ _ ((rd_T68 l0_1 x18_1).f3) t293 true _ ?side1 ?side2 A50.out).mono ?_
             (case side1 => exact q37_)
             (case side2 => exact HC283_3.out)
             rintro e w53 ⟨rfl, hb⟩
             refine ⟨_, rfl, ?_⟩
             have n0_ := Aside0.mk (Kd.R_below q10_ hb)
             have n1_ := Aside0.mk (blk_below (g := gb279) (o := .cells #[.slice (some ad292) l0_0.length c0_0, .slice (some ad283) l0_1.length c0_1] 30 (0, 0)) q29_ hb)
             have n2_ := Aside0.mk (blk_below (g := gb284) (o := .cells #[.string ((rd_T68 l0_1 x18_1).f0), .int .i64 ((rd_T68 l0_1 x18_1).f1), .int .i64 ((rd_T68 l0_1 x18_1).f2), .slice (some ad291) ((rd_T68 l0_1 x18_1).f3).length c283_3] 68 (0, 0)) (by (with_reducible repeat (first | refine blk_drewN ?_ _ | refine blk_drew ?_ | refine blk_alloc ?_ _)); exact BK284.out) hb)
             have n3_ := Aside0.mk (below_step q40_ hb)
             clear HO_5
             clear BK279
             clear BK284
             clear HB
             have HO_5 := n0_
             have BK279 := n1_
             have BK284 := n2_
             have HB := n3_
             clear n0_ n1_ n2_ n3_
             (try clear hb)
             (try clear hb2)
             (try clear hk)
             (try clear hi)
             refine hK.out _ _ ⟨(blk_cell BK284.out 0).trans rfl, (blk_cell BK284.out 1).trans rfl, (blk_cell BK284.out 2).trans rfl, (blk_cell BK284.out 3).trans rfl, (blk_cell BK279.out 0).trans rfl, (blk_cell BK279.out 1).trans rfl, ((HB.out.cell (World.block_lt_of_cell? w _ hw292_0)).trans hw292_0)⟩ (fun hHeld => ?_)
             clear hK K
             refine norm_ (a' := ?_) ?_ ?_
             rotate_left
             ·show Act.put _ (some 74) _ = _
              simp only [Act.put, List.setIfInBounds_toArray, List.set_cons_zero, List.set_cons_succ, i64_w, i32_w]
              rfl
             refine pure_ (i := 9) (N := some 75) (v := ?_) (a' := ?_) #[true, true, true, true, true, true, true, true, true, true] rfl rfl (any_of HT_.out (by kernel_rfl)) (fun _ _ _ h => h) (Or.inl ⟨by rfl, ?_⟩) ?_ ?_
             rotate_left; exact pw_; rotate_left; exact pz_
             refine done_ (done_of HT_.out (by kernel_rfl)) ?_
             try go_wp2
             (try simp only [← hl5_3])
             go_roundg k3
             case measure => have := HK1.out; have := HJ11.out; have := HK3.out; omega
             case rel => exact ⟨(wrap64 (x62_3 + 1)), q5_, H', ⟨by have := HK1.out; have := HJ11.out; have := HK3.out; omega⟩, ⟨by (try simp only [hl5_3]); (with_reducible repeat (first | apply Kd.R_alloc | apply Kd.R_drewN | apply Kd.R_drew)); exact HO_5.out⟩, ⟨by (try simp only [hl5_3]); (with_reducible repeat (first | refine blk_drewN ?_ _ | refine blk_drew ?_ | refine blk_alloc ?_ _)); exact BK279.out⟩, ⟨by (try simp only [hl5_3]); (with_reducible repeat (first | refine blk_drewN ?_ _ | refine blk_drew ?_ | refine blk_alloc ?_ _)); exact BK284.out⟩, ⟨by repeat (first | (with_reducible first | exact HB.out | apply below_alloc | apply pw_below_drewN | apply below_drew1 | refine below_set ?_ GE279.out | refine below_set ?_ GE284.out) | exact HB.out)⟩⟩
            ·replace c51 := Bool.eq_false_iff.mpr c51
             subst c51
             have H1 : (some false) = some r := by rw [if_neg (show ¬ (false = true) by decide)] at H; exact H
             clear H
             have H := H1
             clear H1
             obtain rfl := Option.some.inj H
             have p291 : 0 ≤ (x62_3 : Int) := of_decide_eq_true q2_
             have q291 : x62_3 < (((rd_T68 l0_1 x18_1).f3).length : Int) := of_decide_eq_true q2_
             obtain ⟨ad291, e291, hx291_0⟩ := Kd.at_int HR283_3.out x62_3 p291 q291
             cases e291
             replace hx291_0 := (HB.out.cell (World.block_lt_of_cell? w _ hx291_0)).trans hx291_0
             replace p291 := eq_true p291
             replace q291 := eq_true q291
             try go_wp2
             have n0_ := Aside0.mk (Kd.R_drew HO_5.out)
             have n1_ := Aside0.mk (blk_drew BK279.out)
             have n2_ := Aside0.mk (blk_drew BK284.out)
             have n3_ := Aside0.mk (below_drew1 HB.out)
             clear HO_5
             clear BK279
             clear BK284
             clear HB
             have HO_5 := n0_
             have BK279 := n1_
             have BK284 := n2_
             have HB := n3_
             clear n0_ n1_ n2_ n3_
             have p292 : 0 ≤ ((rd ((rd_T68 l0_1 x18_1).f3) x62_3) : Int) := of_decide_eq_true q2_
             have q292 : (rd ((rd_T68 l0_1 x18_1).f3) x62_3) < (l0_0.length : Int) := of_decide_eq_true q2_
             obtain ⟨ad292, A292_0, c292_0, e292, hx292_0, hl292_0, hi292_0⟩ := at_L1 HR0_0.out (rd ((rd_T68 l0_1 x18_1).f3) x62_3) p292 q292
             have hw292_0 := hx292_0
             cases e292
             replace hx292_0 := (HB.out.cell (World.block_lt_of_cell? w _ hx292_0)).trans hx292_0
             have HR292_0 := Aside0.mk hi292_0
             have HC292_0 := Aside0.mk hl292_0
             clear hi292_0 hl292_0
             replace p292 := eq_true p292
             replace q292 := eq_true q292
             refine start_ (n := 10) (S := fun w' => w'.cell? ⟨gb284, 0, none⟩ = some (.string ((rd_T68 l0_1 x18_1).f0)) ∧ w'.cell? ⟨gb284, 1, none⟩ = some (.int .i64 ((rd_T68 l0_1 x18_1).f1)) ∧ w'.cell? ⟨gb284, 2, none⟩ = some (.int .i64 ((rd_T68 l0_1 x18_1).f2)) ∧ w'.cell? ⟨gb284, 3, none⟩ = some (.slice (some ad291) ((rd_T68 l0_1 x18_1).f3).length c283_3) ∧ w'.cell? ⟨gb279, 0, none⟩ = some (.slice (some ad292) l0_0.length c0_0) ∧ w'.cell? ⟨gb279, 1, none⟩ = some (.slice (some ad283) l0_1.length c0_1) ∧ w'.cell? (ad292.add ((rd ((rd_T68 l0_1 x18_1).f3) x62_3)).toNat) = some (.slice A292_0 (rd_L1 l0_0 (rd ((rd_T68 l0_1 x18_1).f3) x62_3)).length c292_0)) (ds := []) #[false, false, false, false, false, false, false, false, false, false] (by kernel_rfl) rfl rfl ⟨(blk_cell BK284.out 0).trans rfl, (blk_cell BK284.out 1).trans rfl, (blk_cell BK284.out 2).trans rfl, (blk_cell BK284.out 3).trans rfl, (blk_cell BK279.out 0).trans rfl, (blk_cell BK279.out 1).trans rfl, ((HB.out.cell (World.block_lt_of_cell? w _ hw292_0)).trans hw292_0)⟩ (fun hHeld => ?_); refine with_tabW impl_bodiesOk.tab11 impl_bodiesOk.bits11 (fun HT_ HW_ => ?_)
             generalize wr.drew = w54 at HO_5 BK279 BK284 HB HR292_0 hx292_0 hHeld ⊢
             refine pure_ (i := 1) (N := some 67) (v := ?_) (a' := ?_) #[false, true, false, false, false, false, false, false, false, false] rfl rfl (any_of HT_.out (by kernel_rfl)) (fun _ _ _ h => h) (Or.inl ⟨by rfl, ?_⟩) ?_ ?_
             rotate_left; exact pw_; rotate_left; exact pz_
             refine pure_ (i := 2) (N := some 68) (v := ?_) (a' := ?_) #[false, true, true, false, false, false, false, false, false, false] rfl rfl (any_of HT_.out (by kernel_rfl)) (fun _ _ _ h => h) (Or.inl ⟨by rfl, ?_⟩) ?_ ?_
             rotate_left; exact pw_; rotate_left; exact pz_
             refine pure_ (i := 4) (N := some 70) (v := ?_) (a' := ?_) #[false, true, true, false, true, false, false, false, false, false] rfl rfl (any_of HT_.out (by kernel_rfl)) (fun _ _ _ h => h) (Or.inl ⟨by rfl, ?_⟩) ?_ ?_
             rotate_left; exact pw_; rotate_left; exact pz_
             refine take_ (i := 0) (N := some 66) (v := ?_) (a' := ?_) #[true, true, true, false, true, false, false, false, false, false] rfl rfl (take_ofW HT_.out HW_.out (by kernel_rfl)) (fun _ _ _ h => h) (Or.inl ⟨by rfl, ?_⟩) hHeld ?_ ?_
             rotate_left; exact pw7_; rotate_left; exact pz_
             refine take_ (i := 3) (N := some 69) (v := ?_) (a' := ?_) #[true, true, true, true, true, false, false, false, false, false] rfl rfl (take_ofW HT_.out HW_.out (by kernel_rfl)) (fun _ _ _ h => h) (Or.inl ⟨by rfl, ?_⟩) hHeld ?_ ?_
             rotate_left; exact pw7_; rotate_left; exact pz_
             refine pure_ (i := 5) (N := some 71) (v := ?_) (a' := ?_) #[true, true, true, true, true, true, false, false, false, false] rfl rfl (any_of HT_.out (by kernel_rfl)) (fun _ _ _ h => h) (Or.inl ⟨by rfl, ?_⟩) ?_ ?_
             rotate_left; exact pw_; rotate_left; exact pz_
             refine take_ (i := 6) (N := some 72) (v := ?_) (a' := ?_) #[true, true, true, true, true, true, true, false, false, false] rfl rfl (take_ofW HT_.out HW_.out (by kernel_rfl)) (fun _ _ _ h => h) (Or.inl ⟨by rfl, ?_⟩) hHeld ?_ ?_
             rotate_left; exact pw7_; rotate_left; exact pz_
             refine one_ (i := 7) (N := some 73) #[true, true, true, true, true, true, true, true, false, false] rfl rfl (one_of HT_.out (by kernel_rfl)) (by decide) (fun K hK => ?_)
             refine goes_ Try.func85 (by kernel_rfl) rfl #[.slice A1 l1.length c1, .slice A292_0 (rd_L1 l0_0 (rd ((rd_T68 l0_1 x18_1).f3) x62_3)).length c292_0] (by rfl) rfl rfl q0_ ?_
             with_reducible refine (impl_unionOf.calls k3 _ _ l1 _ _ (rd_L1 l0_0 (rd ((rd_T68 l0_1 x18_1).f3) x62_3)) t293 _ ?side1 ?side2 ?side3 ?side4 A49.out).mono ?_
             (case side1 => exact q58_)
             (case side2 => exact HC1.out)
             (case side3 => exact (by repeat (first | exact (Kd.C_below HR292_0.out HB.out) | (with_reducible refine Kd.C_alloc ?_ _) | (with_reducible refine Kd.C_drewN ?_ _) | (with_reducible refine Kd.C_drew ?_))))
             (case side4 => exact HC292_0.out)
             rintro e w' ⟨rfl, ⟨nd, rfl⟩⟩
             refine ⟨_, rfl, ?_⟩
             refine hK.out _ _ ⟨(blk_cell BK284.out 0).trans rfl, (blk_cell BK284.out 1).trans rfl, (blk_cell BK284.out 2).trans rfl, (blk_cell BK284.out 3).trans rfl, (blk_cell BK279.out 0).trans rfl, (blk_cell BK279.out 1).trans rfl, ((HB.out.cell (World.block_lt_of_cell? w _ hw292_0)).trans hw292_0)⟩ (fun hHeld => ?_)
             clear hK K
             refine norm_ (a' := ?_) ?_ ?_
             rotate_left
             ·show Act.put _ (some 73) _ = _
              simp only [Act.put, List.setIfInBounds_toArray, List.set_cons_zero, List.set_cons_succ, i64_w, i32_w]
              rfl
             refine one_ (i := 8) (N := some 74) #[true, true, true, true, true, true, true, true, true, false] rfl rfl (one_of HT_.out (by kernel_rfl)) (by decide) (fun K hK => ?_)
             refine goes_ Try.func68 (by kernel_rfl) rfl #[.agg #[.string ((rd_T68 l0_1 x18_1).f0), .int .i64 ((rd_T68 l0_1 x18_1).f1), .int .i64 ((rd_T68 l0_1 x18_1).f2), .slice (some ad291) ((rd_T68 l0_1 x18_1).f3).length c283_3], .int .u64 t293] (by rfl) rfl rfl q0_ ?_
             with_reducible refine (impl_Body_isLive.calls k3 ((rd_T68 l0_1 x18_1).f0) ((rd_T68 l0_1 x18_1).f1) ((rd_T68 l0_1 x18_1).f2) _ _ ((rd_T68 l0_1 x18_1).f3) t293 false _ ?side1 ?side2 A50.out).mono ?_
             (case side1 => exact q37_)
             (case side2 => exact HC283_3.out)
             rintro e w55 ⟨rfl, hb⟩
             refine ⟨_, rfl, ?_⟩
             have n0_ := Aside0.mk (Kd.R_below q10_ hb)
             have n1_ := Aside0.mk (blk_below (g := gb279) (o := .cells #[.slice (some ad292) l0_0.length c0_0, .slice (some ad283) l0_1.length c0_1] 30 (0, 0)) q29_ hb)
             have n2_ := Aside0.mk (blk_below (g := gb284) (o := .cells #[.string ((rd_T68 l0_1 x18_1).f0), .int .i64 ((rd_T68 l0_1 x18_1).f1), .int .i64 ((rd_T68 l0_1 x18_1).f2), .slice (some ad291) ((rd_T68 l0_1 x18_1).f3).length c283_3] 68 (0, 0)) (by (with_reducible repeat (first | refine blk_drewN ?_ _ | refine blk_drew ?_ | refine blk_alloc ?_ _)); exact BK284.out) hb)
             have n3_ := Aside0.mk (below_step q40_ hb)
             clear HO_5
             clear BK279
             clear BK284
             clear HB
             have HO_5 := n0_
             have BK279 := n1_
             have BK284 := n2_
             have HB := n3_
             clear n0_ n1_ n2_ n3_
             (try clear hb)
             (try clear hb2)
             (try clear hk)
             (try clear hi)
             refine hK.out _ _ ⟨(blk_cell BK284.out 0).trans rfl, (blk_cell BK284.out 1).trans rfl, (blk_cell BK284.out 2).trans rfl, (blk_cell BK284.out 3).trans rfl, (blk_cell BK279.out 0).trans rfl, (blk_cell BK279.out 1).trans rfl, ((HB.out.cell (World.block_lt_of_cell? w _ hw292_0)).trans hw292_0)⟩ (fun hHeld => ?_)
             clear hK K
             refine norm_ (a' := ?_) ?_ ?_
             rotate_left
             ·show Act.put _ (some 74) _ = _
              simp only [Act.put, List.setIfInBounds_toArray, List.set_cons_zero, List.set_cons_succ, i64_w, i32_w]
              rfl
             refine pure_ (i := 9) (N := some 75) (v := ?_) (a' := ?_) #[true, true, true, true, true, true, true, true, true, true] rfl rfl (any_of HT_.out (by kernel_rfl)) (fun _ _ _ h => h) (Or.inl ⟨by rfl, ?_⟩) ?_ ?_
             rotate_left; exact pw_; rotate_left; exact pz_
             refine done_ (done_of HT_.out (by kernel_rfl)) ?_
             try go_wp2
             go_ret
             exact ⟨by first | rfl | (simp [errW_none, errW_some] <;> rfl) | (simp [*, errW_none, errW_some] <;> rfl), by repeat (first | (with_reducible first | exact HB.out | apply below_alloc | apply pw_below_drewN | apply below_drew1 | refine below_set ?_ GE279.out | refine below_set ?_ GE284.out) | exact HB.out)⟩
           ·rw [if_neg c44] at H
            have c44b0 : decide (x62_3 < (((rd_T68 l0_1 x18_1).f3).length : Int)) = false := decide_eq_false c44
            clear c44
            have H' := Aside0.mk H
            clear H
            go_wp2
            (try simp only [← hl5_3])
            go_roundg k3
            case measure => have := HK1.out; have := HJ11.out; have := HK3.out; omega
            case rel => exact ⟨(y290), (wrap64 (x18_1 + 1)), q5_, H', ⟨by have := HK1.out; have := HJ11.out; have := HK3.out; omega⟩, ⟨by (try simp only [hl5_3]); (with_reducible repeat (first | apply Kd.R_alloc | apply Kd.R_drewN | apply Kd.R_drew)); exact HO_5.out⟩, ⟨by (try simp only [hl5_3]); (with_reducible repeat (first | refine blk_drewN ?_ _ | refine blk_drew ?_ | refine blk_alloc ?_ _)); exact BK279.out⟩, ⟨by repeat (first | (with_reducible first | exact HB.out | apply below_alloc | apply pw_below_drewN | apply below_drew1 | refine below_set ?_ GE279.out | refine below_set ?_ GE284.out) | exact HB.out)⟩⟩
     ·rw [if_neg c9] at H
      have c9b0 : decide (x18_1 < (l0_1.length : Int)) = false := decide_eq_false c9
      clear c9
      have H' := Aside0.mk H
      clear H
      go_wp2
      go_loopg [80] k1 (fun kq v80 w' => ∃ (x80_2 : Int), v80 = .int .i64 x80_2 ∧ Aside0 (impl_bodiesOk.l2 kq x5_1 l1 (l1.length : Int) x80_2 l0_0 l0_1 = some r) ∧ Aside0 (kq ≤ k1) ∧ Aside0 (Kd.R (Kd.int .i64) 3 w' w.heap.size (fun _ => True) v281 x5_1) ∧ Aside0 (w'.heap[gb279]? = some (.cells #[(.slice A0_0 l0_0.length c0_0), (.slice A0_1 l0_1.length c0_1)] 30 (0, 0))) ∧ Aside0 (Below w.heap.size w w'))
      case atStart => exact ⟨(0), q5_, H', ⟨Nat.le_refl _⟩, ⟨by (with_reducible repeat (first | apply Kd.R_alloc | apply Kd.R_drewN | apply Kd.R_drew)); exact HO_5.out⟩, ⟨by (with_reducible repeat (first | refine blk_drewN ?_ _ | refine blk_drew ?_ | refine blk_alloc ?_ _)); exact BK279.out⟩, ⟨by repeat (first | (with_reducible first | exact HB.out | apply below_alloc | apply pw_below_drewN | apply below_drew1 | refine below_set ?_ GE279.out) | exact HB.out)⟩⟩
      case round =>
       clear H'
       try clear c1
       try clear c2
       try clear p2
       try clear q2
       try clear hx2
       try clear c3
       try clear p3
       try clear q3
       try clear hx3
       try clear hf3
       try clear c4
       try clear c5
       try clear c6
       try clear p6
       try clear c7
       try clear c8
       try clear c9
       try clear c9b0
       try clear c10
       try clear c11
       try clear c17
       try clear c19
       try clear c20
       try clear c21
       try clear c28
       try clear p28
       try clear q28
       try clear hx28
       try clear c29
       try clear p29
       try clear q29
       try clear hx29
       try clear c34
       try clear c35
       try clear c35b0
       try clear c36
       try clear c36b0
       try clear p37
       try clear q37
       try clear hx37
       try clear hf37
       try clear c38
       try clear c44
       try clear c44b0
       try clear c45
       try clear c45b0
       try clear c46
       try clear c46b0
       try clear c47
       try clear c47b0
       try clear c48
       try clear c48b0
       try clear c51
       try clear hcz39_0
       try clear hcz39_1
       try clear hcz39_2
       try clear hcz39_3
       try clear hcz43_0
       try clear hcz43_1
       try clear hcz43_2
       try clear hcz43_3
       try clear hfz39_0
       try clear hfz39_1
       try clear hfz39_2
       try clear hfz39_3
       try clear hfz43_0
       try clear hfz43_1
       try clear hfz43_2
       try clear hfz43_3
       try clear hx289_0
       try clear hx291_0
       try clear hx292_0
       try clear hx37_0
       try clear p2
       try clear p28
       try clear p289
       try clear p291
       try clear p292
       try clear p3
       try clear p37
       try clear p6
       try clear q2
       try clear q28
       try clear q289
       try clear q291
       try clear q292
       try clear q3
       try clear q37
       obtain ⟨x80_2, rfl, HA, HK2, HO_5, BK279, HB⟩ := hrel
       cases gk with
       | zero => exact absurd HA.out (by simp [impl_bodiesOk.l2])
       | succ k2 =>
        have H := HA.out
        clear HA
        simp only [impl_bodiesOk.l2] at H
        by_cases c56 : x80_2 < (l1.length : Int)
        ·rw [if_pos c56] at H
         have c56b0 : decide (x80_2 < (l1.length : Int)) = true := decide_eq_true c56
         clear c56
         by_cases c57 : 0 ≤ x80_2
         case neg =>
          rw [if_neg c57] at H
          exact absurd H (by simp)
         rw [if_pos c57] at H
         have c57b0 : decide (0 ≤ x80_2) = true := decide_eq_true c57
         clear c57
         by_cases c58 : x80_2 < (l1.length : Int)
         case neg =>
          rw [if_neg c58] at H
          exact absurd H (by simp)
         rw [if_pos c58] at H
         have c58b0 : decide (x80_2 < (l1.length : Int)) = true := decide_eq_true c58
         clear c58
         by_cases c59 : x80_2 < (x5_1.length : Int)
         case neg =>
          rw [if_neg c59] at H
          exact absurd H (by simp)
         rw [if_pos c59] at H
         have c59b0 : decide (x80_2 < (x5_1.length : Int)) = true := decide_eq_true c59
         clear c59
         by_cases c60 : (rd x5_1 x80_2) > 80
         ·rw [if_pos c60] at H
          have c60b0 : decide (80 < (rd x5_1 x80_2)) = true := decide_eq_true c60
          clear c60
          obtain rfl := Option.some.inj H
          have p295 : 0 ≤ (x80_2 : Int) := of_decide_eq_true q2_
          have q295 : x80_2 < (l1.length : Int) := of_decide_eq_true q2_
          obtain ⟨ad295, e295, hx295_0⟩ := Kd.at_int HR1.out x80_2 p295 q295
          cases e295
          replace hx295_0 := (HB.out.cell (World.block_lt_of_cell? w _ hx295_0)).trans hx295_0
          replace p295 := eq_true p295
          replace q295 := eq_true q295
          obtain ⟨Ao61, co61, eo61⟩ := Kd.R_slice HO_5.out
          subst eo61
          have p296 : 0 ≤ (x80_2 : Int) := of_decide_eq_true q2_
          have q296 : x80_2 < (x5_1.length : Int) := of_decide_eq_true q2_
          obtain ⟨ad296, e296, hx296_0⟩ := Kd.at_int (Kd.R_reads' HO_5.out).2.2 x80_2 p296 q296
          cases e296
          replace p296 := eq_true p296
          replace q296 := eq_true q296
          go_wp2
          go_ret
          exact ⟨by first | rfl | (simp [errW_none, errW_some] <;> rfl) | (simp [*, errW_none, errW_some] <;> rfl), by repeat (first | (with_reducible first | exact HB.out | apply below_alloc | apply pw_below_drewN | apply below_drew1 | refine below_set ?_ GE279.out) | exact HB.out)⟩
         ·rw [if_neg c60] at H
          have c60b0 : decide (80 < (rd x5_1 x80_2)) = false := decide_eq_false c60
          clear c60
          replace H := Option.bind_eq_some_iff.mp H
          obtain ⟨t297, A620, H⟩ := H
          replace H : (if (t297.length : Int) > 80 then (some false) else (impl_bodiesOk.l2 k2 x5_1 l1 (l1.length : Int) (wrap64 (x80_2 + 1)) l0_0 l0_1)) = some r := H
          have A62 := Aside0.mk A620
          clear A620
          by_cases c63 : (t297.length : Int) > 80
          ·rw [if_pos c63] at H
           have c63b0 : decide (80 < (t297.length : Int)) = true := decide_eq_true c63
           have c63b1 : decide (80 < t297.length) = true := decide_eq_true (by omega)
           clear c63
           obtain rfl := Option.some.inj H
           have p295 : 0 ≤ (x80_2 : Int) := of_decide_eq_true q2_
           have q295 : x80_2 < (l1.length : Int) := of_decide_eq_true q2_
           obtain ⟨ad295, e295, hx295_0⟩ := Kd.at_int HR1.out x80_2 p295 q295
           cases e295
           replace hx295_0 := (HB.out.cell (World.block_lt_of_cell? w _ hx295_0)).trans hx295_0
           replace p295 := eq_true p295
           replace q295 := eq_true q295
           obtain ⟨Ao64, co64, eo64⟩ := Kd.R_slice HO_5.out
           subst eo64
           have p296 : 0 ≤ (x80_2 : Int) := of_decide_eq_true q2_
           have q296 : x80_2 < (x5_1.length : Int) := of_decide_eq_true q2_
           obtain ⟨ad296, e296, hx296_0⟩ := Kd.at_int (Kd.R_reads' HO_5.out).2.2 x80_2 p296 q296
           cases e296
           replace p296 := eq_true p296
           replace q296 := eq_true q296
           go_wp2_with (first | (go_at_call 69; (try simp only [i64_w]); (with_reducible refine (impl_Weave_liveIn.calls k2 gb279 A0_0 c0_0 l0_0 A0_1 c0_1 l0_1 (rd l1 x80_2) t297 _ ?side1 ?side2 ?side3 ?side4 ?side5 A62.out).mono ?_); (case side1 => exact q29_); (case side2 => exact q4_); (case side3 => exact HC0_0.out); (case side4 => exact q7_); (case side5 => exact HC0_1.out); rintro e w65 ⟨v298, rfl, ho0, hb⟩; have n0_ := Aside0.mk (Kd.R_elder' q10_ (Kd.R_base ho0) hb); have n1_ := Aside0.mk (Kd.R_lower (Kd.R_new' ho0 (Kd.R_lt q10_)) (below_size q24_)); have n2_ := Aside0.mk (blk_below (g := gb279) (o := .cells #[.slice A0_0 l0_0.length c0_0, .slice A0_1 l0_1.length c0_1] 30 (0, 0)) q29_ hb); have n3_ := Aside0.mk (below_step q24_ hb); clear HO_5; clear BK279; clear HB; have HO_5 := n0_; have HO299 := n1_; have BK279 := n2_; have HB := n3_; clear n0_ n1_ n2_ n3_; (try clear hb); (try clear hb2); (try clear hk); (try clear hi); (try clear ho0); obtain ⟨Ao66, co66, eo66⟩ := Kd.R_slice HO299.out; subst eo66))
           go_ret
           exact ⟨by first | rfl | (simp [errW_none, errW_some] <;> rfl) | (simp [*, errW_none, errW_some] <;> rfl), by repeat (first | (with_reducible first | exact HB.out | apply below_alloc | apply pw_below_drewN | apply below_drew1 | refine below_set ?_ GE279.out) | exact HB.out)⟩
          ·rw [if_neg c63] at H
           have c63b0 : decide (80 < (t297.length : Int)) = false := decide_eq_false c63
           have c63b1 : decide (80 < t297.length) = false := decide_eq_false (by omega)
           clear c63
           have H' := Aside0.mk H
           clear H
           have p295 : 0 ≤ (x80_2 : Int) := of_decide_eq_true q2_
           have q295 : x80_2 < (l1.length : Int) := of_decide_eq_true q2_
           obtain ⟨ad295, e295, hx295_0⟩ := Kd.at_int HR1.out x80_2 p295 q295
           cases e295
           replace hx295_0 := (HB.out.cell (World.block_lt_of_cell? w _ hx295_0)).trans hx295_0
           replace p295 := eq_true p295
           replace q295 := eq_true q295
           obtain ⟨Ao67, co67, eo67⟩ := Kd.R_slice HO_5.out
           subst eo67
           have p296 : 0 ≤ (x80_2 : Int) := of_decide_eq_true q2_
           have q296 : x80_2 < (x5_1.length : Int) := of_decide_eq_true q2_
           obtain ⟨ad296, e296, hx296_0⟩ := Kd.at_int (Kd.R_reads' HO_5.out).2.2 x80_2 p296 q296
           cases e296
           replace p296 := eq_true p296
           replace q296 := eq_true q296
           go_wp2_with (first | (go_at_call 69; (try simp only [i64_w]); (with_reducible refine (impl_Weave_liveIn.calls k2 gb279 A0_0 c0_0 l0_0 A0_1 c0_1 l0_1 (rd l1 x80_2) t297 _ ?side1 ?side2 ?side3 ?side4 ?side5 A62.out).mono ?_); (case side1 => exact q29_); (case side2 => exact q4_); (case side3 => exact HC0_0.out); (case side4 => exact q7_); (case side5 => exact HC0_1.out); rintro e w68 ⟨v298, rfl, ho0, hb⟩; have n0_ := Aside0.mk (Kd.R_elder' q10_ (Kd.R_base ho0) hb); have n1_ := Aside0.mk (Kd.R_lower (Kd.R_new' ho0 (Kd.R_lt q10_)) (below_size q24_)); have n2_ := Aside0.mk (blk_below (g := gb279) (o := .cells #[.slice A0_0 l0_0.length c0_0, .slice A0_1 l0_1.length c0_1] 30 (0, 0)) q29_ hb); have n3_ := Aside0.mk (below_step q24_ hb); clear HO_5; clear BK279; clear HB; have HO_5 := n0_; have HO299 := n1_; have BK279 := n2_; have HB := n3_; clear n0_ n1_ n2_ n3_; (try clear hb); (try clear hb2); (try clear hk); (try clear hi); (try clear ho0); obtain ⟨Ao69, co69, eo69⟩ := Kd.R_slice HO299.out; subst eo69))
           go_roundg k2
           case measure => have := HK1.out; have := HK2.out; omega
           case rel => exact ⟨(wrap64 (x80_2 + 1)), q5_, H', ⟨by have := HK1.out; have := HK2.out; omega⟩, ⟨by (with_reducible repeat (first | apply Kd.R_alloc | apply Kd.R_drewN | apply Kd.R_drew)); exact Kd.R_mono HO_5.out (fun _ hk => trivial)⟩, ⟨by (with_reducible repeat (first | refine blk_drewN ?_ _ | refine blk_drew ?_ | refine blk_alloc ?_ _)); exact BK279.out⟩, ⟨by repeat (first | (with_reducible first | exact HB.out | apply below_alloc | apply pw_below_drewN | apply below_drew1 | refine below_set ?_ GE279.out) | exact HB.out)⟩⟩
        ·rw [if_neg c56] at H
         have c56b0 : decide (x80_2 < (l1.length : Int)) = false := decide_eq_false c56
         clear c56
         obtain rfl := Option.some.inj H
         go_wp2
         go_ret
         exact ⟨by first | rfl | (simp [errW_none, errW_some] <;> rfl) | (simp [*, errW_none, errW_some] <;> rfl), by repeat (first | (with_reducible first | exact HB.out | apply below_alloc | apply pw_below_drewN | apply below_drew1 | refine below_set ?_ GE279.out) | exact HB.out)⟩
end Go.Proofs.Ytcgelllmdcnmfaa.PFnExactLivesIn
-- (flat)
-- (thin)
