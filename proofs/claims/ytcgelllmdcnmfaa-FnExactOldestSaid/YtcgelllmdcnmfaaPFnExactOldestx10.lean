-- Made by a program (the kit's print with additions of this session: wip/tools/patch_print.py, ext.py).
-- (turned)
import Derived.Test.YtcgelllmdcnmfaaPFnExactOldestx0
import Derived.Test.YtcgelllmdcnmfaaPFnExactOldestx8
import Derived.Test.YtcgelllmdcnmfaaPFnExactOldestx9
namespace Go.Proofs.Ytcgelllmdcnmfaa.PFnExactOldest
open Go.RowKit Go.Proofs.YtcgelllmdcnmfaaW.PrintWords Go.Proofs.YtcgelllmdcnmfaaW.PrintLast Go.Proofs.YtcgelllmdcnmfaaW.PrintMore
attribute [local go_sem] max2_int min2_int max_two min_two max_three min_three max_four min_four   -- for this text's walks alone
set_option linter.unusedVariables false
set_option linter.unusedSimpArgs false

def bv10_0 : Array Bool := #[false, false, false, false, false, false, false, false, false, false, false, false, false, false, false, false, false, false, false, false, false, false, false, false, false, false, false, false, false, false]
def bv10_1 : Array Bool := #[true, false, false, false, false, false, false, false, false, false, false, false, false, false, false, false, false, false, false, false, false, false, false, false, false, false, false, false, false, false]
def bv10_2 : Array Bool := #[true, true, false, false, false, false, false, false, false, false, false, false, false, false, false, false, false, false, false, false, false, false, false, false, false, false, false, false, false, false]
def bv10_3 : Array Bool := #[true, true, true, false, false, false, false, false, false, false, false, false, false, false, false, false, false, false, false, false, false, false, false, false, false, false, false, false, false, false]
def bv10_4 : Array Bool := #[true, true, true, true, false, false, false, false, false, false, false, false, false, false, false, false, false, false, false, false, false, false, false, false, false, false, false, false, false, false]
def bv10_5 : Array Bool := #[true, true, true, true, true, false, false, false, false, false, false, false, false, false, false, false, false, false, false, false, false, false, false, false, false, false, false, false, false, false]
def bv10_6 : Array Bool := #[true, true, true, true, true, true, false, false, false, false, false, false, false, false, false, false, false, false, false, false, false, false, false, false, false, false, false, false, false, false]
def bv10_7 : Array Bool := #[true, true, true, true, true, true, false, true, false, false, false, false, false, false, false, false, false, false, false, false, false, false, false, false, false, false, false, false, false, false]
def bv10_8 : Array Bool := #[true, true, true, true, true, true, false, true, true, false, false, false, false, false, false, false, false, false, false, false, false, false, false, false, false, false, false, false, false, false]
def bv10_9 : Array Bool := #[true, true, true, true, true, true, true, true, true, false, false, false, false, false, false, false, false, false, false, false, false, false, false, false, false, false, false, false, false, false]
def bv10_10 : Array Bool := #[true, true, true, true, true, true, true, true, true, true, false, false, false, false, false, false, false, false, false, false, false, false, false, false, false, false, false, false, false, false]
def bv10_11 : Array Bool := #[true, true, true, true, true, true, true, true, true, true, true, false, false, false, false, false, false, false, false, false, false, false, false, false, false, false, false, false, false, false]
def bv10_12 : Array Bool := #[true, true, true, true, true, true, true, true, true, true, true, true, false, false, false, false, false, false, false, false, false, false, false, false, false, false, false, false, false, false]
def bv10_13 : Array Bool := #[true, true, true, true, true, true, true, true, true, true, true, true, true, false, false, false, false, false, false, false, false, false, false, false, false, false, false, false, false, false]
def bv10_14 : Array Bool := #[true, true, true, true, true, true, true, true, true, true, true, true, true, true, false, false, false, false, false, false, false, false, false, false, false, false, false, false, false, false]
def bv10_15 : Array Bool := #[true, true, true, true, true, true, true, true, true, true, true, true, true, true, false, true, false, false, false, false, false, false, false, false, false, false, false, false, false, false]
def bv10_16 : Array Bool := #[true, true, true, true, true, true, true, true, true, true, true, true, true, true, false, true, true, false, false, false, false, false, false, false, false, false, false, false, false, false]
def bv10_17 : Array Bool := #[true, true, true, true, true, true, true, true, true, true, true, true, true, true, true, true, true, false, false, false, false, false, false, false, false, false, false, false, false, false]
def bv10_18 : Array Bool := #[true, true, true, true, true, true, true, true, true, true, true, true, true, true, true, true, true, true, false, false, false, false, false, false, false, false, false, false, false, false]
def bv10_19 : Array Bool := #[true, true, true, true, true, true, true, true, true, true, true, true, true, true, true, true, true, true, true, false, false, false, false, false, false, false, false, false, false, false]
def bv10_20 : Array Bool := #[true, true, true, true, true, true, true, true, true, true, true, true, true, true, true, true, true, true, true, true, false, false, false, false, false, false, false, false, false, false]
def bv10_21 : Array Bool := #[true, true, true, true, true, true, true, true, true, true, true, true, true, true, true, true, true, true, true, true, true, false, false, false, false, false, false, false, false, false]
def bv10_22 : Array Bool := #[true, true, true, true, true, true, true, true, true, true, true, true, true, true, true, true, true, true, true, true, true, true, false, false, false, false, false, false, false, false]
def bv10_23 : Array Bool := #[true, true, true, true, true, true, true, true, true, true, true, true, true, true, true, true, true, true, true, true, true, true, true, false, false, false, false, false, false, false]
def bv10_24 : Array Bool := #[true, true, true, true, true, true, true, true, true, true, true, true, true, true, true, true, true, true, true, true, true, true, true, true, false, false, false, false, false, false]
def bv10_25 : Array Bool := #[true, true, true, true, true, true, true, true, true, true, true, true, true, true, true, true, true, true, true, true, true, true, true, true, true, true, true, false, false, false]
def bv10_26 : Array Bool := #[true, true, true, true, true, true, true, true, true, true, true, true, true, true, true, true, true, true, true, true, true, true, true, true, true, true, true, true, false, false]
def bv10_27 : Array Bool := #[true, true, true, true, true, true, true, true, true, true, true, true, true, true, true, true, true, true, true, true, true, true, true, true, true, true, true, true, true, false]
def bv10_28 : Array Bool := #[true, true, true, true, true, true, true, true, true, true, true, true, true, true, true, true, true, true, true, true, true, true, true, true, true, true, true, true, true, true]
def bv10_29 : Array Bool := #[true, true, true, true, true, true, true, true, true, true, true, true, true, true, true, true, true, true, true, true, true, true, true, true, true, false, false, false, false, false]
def bv10_30 : Array Bool := #[true, true, true, true, true, true, true, true, true, true, true, true, true, true, true, true, true, true, true, true, true, true, true, true, true, true, false, false, false, false]
def bv10_31 : Array Bool := #[true, true, true, true, true, true, true, true, true, true, true, true, true, true, true, false, false, false, false, false, false, false, false, false, false, false, false, false, false, false]
def bv10_32 : Array Bool := #[true, true, true, true, true, true, true, true, true, true, true, true, true, true, true, true, false, false, false, false, false, false, false, false, false, false, false, false, false, false]
/-! ### impl_bodiesOk: function 62 -/
mutual
def impl_bodiesOk.l0 : Nat → List Int → List Int → List (S68) → Int → Int → List (List Int) → List (S68) → Option (Bool)
  | 0, _, _, _, _, _, _, _ => none
  | k + 1, x1, x5, x16, x17, x18, x293000, x293001 => if x18 < x17 then (if 0 ≤ x18 then (if x18 < (x16.length : Int) then ((impl_LineOk.f ((rd_T68 x16 x18).f0)).bind fun t298 => (if t298 = true then ((impl_isPlace.f ((rd_T68 x16 x18).f1) (x1.length : Int)).bind fun t299 => (if t299 = true then (if 0 ≤ ((rd_T68 x16 x18).f1) then (if ((rd_T68 x16 x18).f1) < (x5.length : Int) then (if ((rd_T68 x16 x18).f2) = (rd x5 ((rd_T68 x16 x18).f1)) then ((impl_ascends.f k ((rd_T68 x16 x18).f3) (x1.length : Int)).bind fun t301 => (impl_bodiesOk.j1 k x1 x5 x16 x17 x18 (!t301) x293000 x293001 ((rd_T68 x16 x18).f0) ((rd_T68 x16 x18).f1) ((rd_T68 x16 x18).f2) ((rd_T68 x16 x18).f3))) else (impl_bodiesOk.j1 k x1 x5 x16 x17 x18 true x293000 x293001 ((rd_T68 x16 x18).f0) ((rd_T68 x16 x18).f1) ((rd_T68 x16 x18).f2) ((rd_T68 x16 x18).f3))) else (none)) else (none)) else (impl_bodiesOk.j1 k x1 x5 x16 x17 x18 true x293000 x293001 ((rd_T68 x16 x18).f0) ((rd_T68 x16 x18).f1) ((rd_T68 x16 x18).f2) ((rd_T68 x16 x18).f3)))) else (impl_bodiesOk.j1 k x1 x5 x16 x17 x18 true x293000 x293001 ((rd_T68 x16 x18).f0) ((rd_T68 x16 x18).f1) ((rd_T68 x16 x18).f2) ((rd_T68 x16 x18).f3)))) else (none)) else (none)) else (impl_bodiesOk.l2 k x5 x1 (x1.length : Int) 0 x293000 x293001)
def impl_bodiesOk.j1 : Nat → List Int → List Int → List (S68) → Int → Int → Bool → List (List Int) → List (S68) → ByteArray → Int → Int → List Int → Option (Bool)
  | 0, _, _, _, _, _, _, _, _, _, _, _, _ => none
  | k + 1, x1, x5, x16, x17, x18, x51, x293000, x293001, x298000, x298001, x298002, x298003 => if x51 = true then (some false) else (if 0 ≤ x298001 then (if x298001 < (x5.length : Int) then (impl_bodiesOk.l1 k x1 (x5.set (x298001 : Int).toNat (wrap64 ((rd x5 x298001) + 1))) x16 x17 x18 x298003 (x298003.length : Int) 0 x293000 x293001 x298000 x298001 x298002 x298003) else (none)) else (none))
def impl_bodiesOk.l1 : Nat → List Int → List Int → List (S68) → Int → Int → List Int → Int → Int → List (List Int) → List (S68) → ByteArray → Int → Int → List Int → Option (Bool)
  | 0, _, _, _, _, _, _, _, _, _, _, _, _, _, _ => none
  | k + 1, x1, x5, x16, x17, x18, x60, x61, x62, x293000, x293001, x298000, x298001, x298002, x298003 => if x62 < x61 then (if 0 ≤ x62 then (if x62 < (x60.length : Int) then (if 0 ≤ (rd x60 x62) then (if (rd x60 x62) < (x293000.length : Int) then ((impl_unionOf.f k x1 (rd_L1 x293000 (rd x60 x62))).bind fun t306 => ((impl_Body_isLive.f k x298000 x298001 x298002 x298003 t306).bind fun t307 => (if t307 = true then (impl_bodiesOk.l1 k x1 x5 x16 x17 x18 x60 x61 (wrap64 (x62 + 1)) x293000 x293001 x298000 x298001 x298002 x298003) else (some false)))) else (none)) else (none)) else (none)) else (none)) else (impl_bodiesOk.l0 k x1 x5 x16 x17 (wrap64 (x18 + 1)) x293000 x293001)
def impl_bodiesOk.l2 : Nat → List Int → List Int → Int → Int → List (List Int) → List (S68) → Option (Bool)
  | 0, _, _, _, _, _, _ => none
  | k + 1, x5, x78, x79, x80, x293000, x293001 => if x80 < x79 then (if 0 ≤ x80 then (if x80 < (x78.length : Int) then (if x80 < (x5.length : Int) then (if (rd x5 x80) > 80 then (some false) else ((impl_Weave_liveIn.f k x293000 x293001 (rd x78 x80)).bind fun t310 => (if (t310.length : Int) > 80 then (some false) else (impl_bodiesOk.l2 k x5 x78 x79 (wrap64 (x80 + 1)) x293000 x293001)))) else (none)) else (none)) else (none)) else (some true)
end
def impl_bodiesOk.f (k : Nat) (l0_0 : List (List Int)) (l0_1 : List (S68)) (l1 : List Int) : Option (Bool) := if 0 ≤ (l1.length : Int) then (if ((l1.length : Int) : Int).toNat ≤ 35184372088832 then (impl_bodiesOk.l0 k l1 (List.replicate ((l1.length : Int) : Int).toNat 0) l0_1 (l0_1.length : Int) 0 l0_0 l0_1) else (none)) else (none)
theorem impl_bodiesOk.mono_l : ∀ k, (∀ y0 y1 y2 y3 y4 y5 y6, LeO (impl_bodiesOk.l0 k y0 y1 y2 y3 y4 y5 y6) (impl_bodiesOk.l0 (k + 1) y0 y1 y2 y3 y4 y5 y6)) ∧ (∀ y0 y1 y2 y3 y4 y5 y6 y7 y8 y9 y10 y11, LeO (impl_bodiesOk.j1 k y0 y1 y2 y3 y4 y5 y6 y7 y8 y9 y10 y11) (impl_bodiesOk.j1 (k + 1) y0 y1 y2 y3 y4 y5 y6 y7 y8 y9 y10 y11)) ∧ (∀ y0 y1 y2 y3 y4 y5 y6 y7 y8 y9 y10 y11 y12 y13, LeO (impl_bodiesOk.l1 k y0 y1 y2 y3 y4 y5 y6 y7 y8 y9 y10 y11 y12 y13) (impl_bodiesOk.l1 (k + 1) y0 y1 y2 y3 y4 y5 y6 y7 y8 y9 y10 y11 y12 y13)) ∧ (∀ y0 y1 y2 y3 y4 y5, LeO (impl_bodiesOk.l2 k y0 y1 y2 y3 y4 y5) (impl_bodiesOk.l2 (k + 1) y0 y1 y2 y3 y4 y5))
  | 0 => ⟨fun _ _ _ _ _ _ _ r h => by simp [impl_bodiesOk.l0] at h, fun _ _ _ _ _ _ _ _ _ _ _ _ r h => by simp [impl_bodiesOk.j1] at h, fun _ _ _ _ _ _ _ _ _ _ _ _ _ _ r h => by simp [impl_bodiesOk.l1] at h, fun _ _ _ _ _ _ r h => by simp [impl_bodiesOk.l2] at h⟩
  | k + 1 => by
    obtain ⟨ih0, ih1, ih2, ih3⟩ := impl_bodiesOk.mono_l k
    refine ⟨?_, ?_, ?_, ?_⟩
    ·intro y0 y1 y2 y3 y4 y5 y6
     unfold impl_bodiesOk.l0
     repeat' first
     | (with_reducible exact ih0 _ _ _ _ _ _ _)
     | (with_reducible exact ih1 _ _ _ _ _ _ _ _ _ _ _ _)
     | (with_reducible exact ih2 _ _ _ _ _ _ _ _ _ _ _ _ _ _)
     | (with_reducible exact ih3 _ _ _ _ _ _)
     | (with_reducible exact impl_Body_isLive.mono _ _ _ _ _ _)
     | (with_reducible exact impl_Weave_liveIn.mono _ _ _ _)
     | (with_reducible exact impl_ascends.mono _ _ _)
     | (with_reducible exact impl_unionOf.mono _ _ _)
     | (with_reducible exact LeO.refl _)
     | (with_reducible exact LeO.none _)
     | (with_reducible refine LeO.ite ?_ ?_)
     | (with_reducible refine LeO.bind ?_ (fun _ => ?_))
     | exact ih0 _ _ _ _ _ _ _
     | exact ih1 _ _ _ _ _ _ _ _ _ _ _ _
     | exact ih2 _ _ _ _ _ _ _ _ _ _ _ _ _ _
     | exact ih3 _ _ _ _ _ _
     | exact impl_Body_isLive.mono _ _ _ _ _ _
     | exact impl_Weave_liveIn.mono _ _ _ _
     | exact impl_ascends.mono _ _ _
     | exact impl_unionOf.mono _ _ _
     | exact LeO.none _
     | refine LeO.ite ?_ ?_
     | refine LeO.bind ?_ (fun _ => ?_)
    ·intro y0 y1 y2 y3 y4 y5 y6 y7 y8 y9 y10 y11
     unfold impl_bodiesOk.j1
     repeat' first
     | (with_reducible exact ih0 _ _ _ _ _ _ _)
     | (with_reducible exact ih1 _ _ _ _ _ _ _ _ _ _ _ _)
     | (with_reducible exact ih2 _ _ _ _ _ _ _ _ _ _ _ _ _ _)
     | (with_reducible exact ih3 _ _ _ _ _ _)
     | (with_reducible exact impl_Body_isLive.mono _ _ _ _ _ _)
     | (with_reducible exact impl_Weave_liveIn.mono _ _ _ _)
     | (with_reducible exact impl_ascends.mono _ _ _)
     | (with_reducible exact impl_unionOf.mono _ _ _)
     | (with_reducible exact LeO.refl _)
     | (with_reducible exact LeO.none _)
     | (with_reducible refine LeO.ite ?_ ?_)
     | (with_reducible refine LeO.bind ?_ (fun _ => ?_))
     | exact ih0 _ _ _ _ _ _ _
     | exact ih1 _ _ _ _ _ _ _ _ _ _ _ _
     | exact ih2 _ _ _ _ _ _ _ _ _ _ _ _ _ _
     | exact ih3 _ _ _ _ _ _
     | exact impl_Body_isLive.mono _ _ _ _ _ _
     | exact impl_Weave_liveIn.mono _ _ _ _
     | exact impl_ascends.mono _ _ _
     | exact impl_unionOf.mono _ _ _
     | exact LeO.none _
     | refine LeO.ite ?_ ?_
     | refine LeO.bind ?_ (fun _ => ?_)
    ·intro y0 y1 y2 y3 y4 y5 y6 y7 y8 y9 y10 y11 y12 y13
     unfold impl_bodiesOk.l1
     repeat' first
     | (with_reducible exact ih0 _ _ _ _ _ _ _)
     | (with_reducible exact ih1 _ _ _ _ _ _ _ _ _ _ _ _)
     | (with_reducible exact ih2 _ _ _ _ _ _ _ _ _ _ _ _ _ _)
     | (with_reducible exact ih3 _ _ _ _ _ _)
     | (with_reducible exact impl_Body_isLive.mono _ _ _ _ _ _)
     | (with_reducible exact impl_Weave_liveIn.mono _ _ _ _)
     | (with_reducible exact impl_ascends.mono _ _ _)
     | (with_reducible exact impl_unionOf.mono _ _ _)
     | (with_reducible exact LeO.refl _)
     | (with_reducible exact LeO.none _)
     | (with_reducible refine LeO.ite ?_ ?_)
     | (with_reducible refine LeO.bind ?_ (fun _ => ?_))
     | exact ih0 _ _ _ _ _ _ _
     | exact ih1 _ _ _ _ _ _ _ _ _ _ _ _
     | exact ih2 _ _ _ _ _ _ _ _ _ _ _ _ _ _
     | exact ih3 _ _ _ _ _ _
     | exact impl_Body_isLive.mono _ _ _ _ _ _
     | exact impl_Weave_liveIn.mono _ _ _ _
     | exact impl_ascends.mono _ _ _
     | exact impl_unionOf.mono _ _ _
     | exact LeO.none _
     | refine LeO.ite ?_ ?_
     | refine LeO.bind ?_ (fun _ => ?_)
    ·intro y0 y1 y2 y3 y4 y5
     unfold impl_bodiesOk.l2
     repeat' first
     | (with_reducible exact ih0 _ _ _ _ _ _ _)
     | (with_reducible exact ih1 _ _ _ _ _ _ _ _ _ _ _ _)
     | (with_reducible exact ih2 _ _ _ _ _ _ _ _ _ _ _ _ _ _)
     | (with_reducible exact ih3 _ _ _ _ _ _)
     | (with_reducible exact impl_Body_isLive.mono _ _ _ _ _ _)
     | (with_reducible exact impl_Weave_liveIn.mono _ _ _ _)
     | (with_reducible exact impl_ascends.mono _ _ _)
     | (with_reducible exact impl_unionOf.mono _ _ _)
     | (with_reducible exact LeO.refl _)
     | (with_reducible exact LeO.none _)
     | (with_reducible refine LeO.ite ?_ ?_)
     | (with_reducible refine LeO.bind ?_ (fun _ => ?_))
     | exact ih0 _ _ _ _ _ _ _
     | exact ih1 _ _ _ _ _ _ _ _ _ _ _ _
     | exact ih2 _ _ _ _ _ _ _ _ _ _ _ _ _ _
     | exact ih3 _ _ _ _ _ _
     | exact impl_Body_isLive.mono _ _ _ _ _ _
     | exact impl_Weave_liveIn.mono _ _ _ _
     | exact impl_ascends.mono _ _ _
     | exact impl_unionOf.mono _ _ _
     | exact LeO.none _
     | refine LeO.ite ?_ ?_
     | refine LeO.bind ?_ (fun _ => ?_)
theorem impl_bodiesOk.mono : ∀ a0 a1 a2 k, LeO (impl_bodiesOk.f k a0 a1 a2) (impl_bodiesOk.f (k + 1) a0 a1 a2) := by
  intro a0 a1 a2 k
  obtain ⟨ih0, ih1, ih2, ih3⟩ := impl_bodiesOk.mono_l k
  unfold impl_bodiesOk.f
  repeat' first
     | (with_reducible exact ih0 _ _ _ _ _ _ _)
     | (with_reducible exact ih1 _ _ _ _ _ _ _ _ _ _ _ _)
     | (with_reducible exact ih2 _ _ _ _ _ _ _ _ _ _ _ _ _ _)
     | (with_reducible exact ih3 _ _ _ _ _ _)
     | (with_reducible exact impl_Body_isLive.mono _ _ _ _ _ _)
     | (with_reducible exact impl_Weave_liveIn.mono _ _ _ _)
     | (with_reducible exact impl_ascends.mono _ _ _)
     | (with_reducible exact impl_unionOf.mono _ _ _)
     | (with_reducible exact LeO.refl _)
     | (with_reducible exact LeO.none _)
     | (with_reducible refine LeO.ite ?_ ?_)
     | (with_reducible refine LeO.bind ?_ (fun _ => ?_))
     | exact ih0 _ _ _ _ _ _ _
     | exact ih1 _ _ _ _ _ _ _ _ _ _ _ _
     | exact ih2 _ _ _ _ _ _ _ _ _ _ _ _ _ _
     | exact ih3 _ _ _ _ _ _
     | exact impl_Body_isLive.mono _ _ _ _ _ _
     | exact impl_Weave_liveIn.mono _ _ _ _
     | exact impl_ascends.mono _ _ _
     | exact impl_unionOf.mono _ _ _
     | exact LeO.none _
     | refine LeO.ite ?_ ?_
     | refine LeO.bind ?_ (fun _ => ?_)
def impl_bodiesOk.T5 : Bool × List (List Nat × List Nat) := (true, [([], []), ([0], [0]), ([1], [1]), ([2], [2]), ([3, 2], [3]), ([4], [4]), ([5, 4], [4, 5]), ([4], [4]), ([7, 4], [4, 7]), ([6, 8, 4, 4], [4, 6, 8]), ([9, 4], [4, 9]), ([4, 10], [4, 10]), ([11, 9], [11]), ([12], [12]), ([13, 12], [12, 13]), ([12], [12]), ([12], [12]), ([16, 12], [12, 16]), ([15, 17, 12], [12, 15, 17]), ([18, 12], [12, 18]), ([14, 19, 12], [12, 14, 19]), ([12, 20], [12, 20]), ([21, 12], [21]), ([22], [22]), ([23, 22], [22, 23]), ([22], [22]), ([25, 22], [22, 25]), ([24, 26, 22, 22], [22, 24, 26]), ([27, 22], [22, 27]), ([22, 28], [22, 28])])
def impl_bodiesOk.B5 : List Nat := [0, 1, 3, 7, 15, 31, 63, 31, 159, 511, 1023, 2047, 4095, 8191, 16383, 8191, 8191, 73727, 237567, 499711, 1048575, 2097151, 4194303, 8388607, 16777215, 8388607, 41943039, 134217727, 268435455, 536870911]
theorem impl_bodiesOk.tab5 : rtab .any (opsOf Try.f62 5) = impl_bodiesOk.T5 := by kernel_rfl
theorem impl_bodiesOk.bits5 : waitsOk impl_bodiesOk.T5.2 impl_bodiesOk.B5 = true := by kernel_rfl
def impl_bodiesOk.T11 : Bool × List (List Nat × List Nat) := (true, [([], []), ([], []), ([], []), ([2], [2]), ([], []), ([3, 4], [3, 4]), ([5], [5]), ([1, 6], [1, 6]), ([0, 7, 7], [0, 7]), ([8], [8])])
def impl_bodiesOk.B11 : List Nat := [0, 0, 0, 4, 0, 28, 60, 126, 255, 511]
theorem impl_bodiesOk.tab11 : rtab .any (opsOf Try.f62 11) = impl_bodiesOk.T11 := by kernel_rfl
theorem impl_bodiesOk.bits11 : waitsOk impl_bodiesOk.T11.2 impl_bodiesOk.B11 = true := by kernel_rfl
set_option maxHeartbeats 8000000 in
set_option maxRecDepth 100000 in
theorem impl_bodiesOk.calls (k : Nat) (A0_0 : Option Addr) (c0_0 : Nat) (l0_0 : List (List Int)) (A0_1 : Option Addr) (c0_1 : Nat) (l0_1 : List (S68)) (A1 : Option Addr) (c1 : Nat) (l1 : List Int) (r : Bool) (w : World) (hr0_0 : Kd.C (Kd.slice 3 (Kd.int .i64)) w A0_0 l0_0.length l0_0) (hc0_0 : l0_0.length ≤ c0_0) (hr0_1 : Kd.C k68 w A0_1 l0_1.length l0_1) (hc0_1 : l0_1.length ≤ c0_1) (hr1 : Kd.C (Kd.int .u64) w A1 l1.length l1) (hc1 : l1.length ≤ c1) (h : impl_bodiesOk.f k l0_0 l0_1 l1 = some r) :
    Calls Try.prog 62 #[.agg #[.slice A0_0 l0_0.length c0_0, .slice A0_1 l0_1.length c0_1], .slice A1 l1.length c1] w fun e w' => e = .returned (.bool r) ∧ Below w.heap.size w w' := by
  have hu30 := Try.underlying30
  have hu68 := Try.underlying68
  have HR0_0 := Aside0.mk hr0_0
  have HC0_0 := Aside0.mk hc0_0
  clear hr0_0 hc0_0
  have HR0_1 := Aside0.mk hr0_1
  have HC0_1 := Aside0.mk hc0_1
  clear hr0_1 hc0_1
  have HR1 := Aside0.mk hr1
  have HC1 := Aside0.mk hc1
  clear hr1 hc1
  have HB := Aside0.mk (Below.refl w.heap.size w)
  have H : (if 0 ≤ (l1.length : Int) then (if ((l1.length : Int) : Int).toNat ≤ 35184372088832 then (impl_bodiesOk.l0 k l1 (List.replicate ((l1.length : Int) : Int).toNat 0) l0_1 (l0_1.length : Int) 0 l0_0 l0_1) else (none)) else (none)) = some r := h
  clear h
  by_cases c3 : 0 ≤ (l1.length : Int)
  case neg =>
    rw [if_neg c3] at H
    exact absurd H (by simp)

  rw [if_pos c3] at H
  have c3b0 := eq_true c3
  have c3b1 : decide (0 ≤ (l1.length : Int)) = true := decide_eq_true c3
  clear c3
  by_cases c4 : ((l1.length : Int) : Int).toNat ≤ 35184372088832
  case neg =>
    rw [if_neg c4] at H
    exact absurd H (by simp)
  rw [if_pos c4] at H
  have c4b0 := eq_true c4
  have c4b1 : decide (((l1.length : Int) : Int).toNat ≤ 35184372088832) = true := decide_eq_true c4
  clear c4
  obtain ⟨y293, hy293⟩ : ∃ y_ : List Int, y_ = (List.replicate ((l1.length : Int) : Int).toNat 0) := ⟨_, rfl⟩
  replace H : (impl_bodiesOk.l0 k l1 y293 l0_1 (l0_1.length : Int) 0 l0_0 l0_1) = some r := by first | (rw [hy293]; with_reducible exact H) | (have H2_ := (Option.bind_some _ _).symm.trans H; rw [hy293]; with_reducible exact H2_) | (have H2_ := (Option.bind_some _ _).symm.trans H; with_reducible exact H2_) | with_reducible exact H | (rw [hy293]; exact H) | exact H
  have Ny293 := Aside0.mk hy293
  clear hy293
  have H' := Aside0.mk H
  clear H
  go_enter Try.func62, Try.ntmps62
  go_wp2_with (first | ((with_reducible refine gate_dst (N := 2) rfl ?_); (try (refine gate_guard (by rfl) ?_; dsimp only)); refine box_event ?hg (N := 2) ?hd (cs := #[.slice A0_0 l0_0.length c0_0, .slice A0_1 l0_1.length c0_1]) (t := 30) ?hr ?_; (case hd => rfl); (case hg => rfl); (case hr => first | (go_simp; done) | (go_simp; rfl)); intro gb292 hg w5 hbox hb; have n0_ := Aside0.mk (below_step q0_ hb); have n1_ := Aside0.mk (hbox); have n2_ := Aside0.mk ((by rw [hg]; exact (below_size q0_) : w.heap.size ≤ gb292)); have n3_ := Aside0.mk ((by rw [hg]; exact (below_size q0_) : w.heap.size ≤ gb292)); clear HB; have HB := n0_; have BK292 := n1_; have GW292 := n2_; have GE292 := n3_; clear n0_ n1_ n2_ n3_; clear hb hbox hg) | ((with_reducible refine gate_dst (N := 14) rfl ?_); (try (refine gate_guard (by rfl) ?_; dsimp only)); refine Kd.R_make (Kd.int .i64) _ 3 rfl (N := 14) rfl 36 _ _ rfl (l1.length : Int) rfl rfl Try.underlying36 (.int .i64 0) 8 info3 rfl (by decide) (by omega) 0 (ok := fun _ => True) (okp := fun _ => True) rfl (fun _ hk => hk) trivial (of_decide_eq_true q2_) (Nat.le_trans (Nat.mul_le_mul_right _ (of_decide_eq_true q2_ : (l1.length : Int).toNat ≤ 35184372088832)) (by omega)) (Below.refl _ _) (Nat.le_refl _) ?_; intro v294 w6 ho7 hb hg_ hnew_; clear hg_ hnew_; (first | rw [← Ny293.out] at ho7 | (simp only [Int.reduceToNat] at ho7; rw [← Ny293.out] at ho7)); have n0_ := Aside0.mk (Kd.R_lower ho7 (below_size q19_)); have n1_ := Aside0.mk (blk_below (g := gb292) (o := .cells #[.slice A0_0 l0_0.length c0_0, .slice A0_1 l0_1.length c0_1] 30 (0, 0)) q24_ hb); have n2_ := Aside0.mk (below_step q19_ hb); clear BK292; clear HB; have HO295 := n0_; have BK292 := n1_; have HB := n2_; clear n0_ n1_ n2_; clear hb ho7; have hcz8_0 : w6.cell? ⟨gb292, 0, none⟩ = some (.slice A0_0 l0_0.length c0_0) := (blk_cell BK292.out 0).trans rfl; have hcz8_1 : w6.cell? ⟨gb292, 1, none⟩ = some (.slice A0_1 l0_1.length c0_1) := (blk_cell BK292.out 1).trans rfl; have hfz8_0 := blk_frozen BK292.out 0; have hfz8_1 := blk_frozen BK292.out 1))
  go_loopg [18] k (fun kq v18 w' => ∃ (x5_1 : List Int) (x18_1 : Int), v18 = .int .i64 x18_1 ∧ Aside0 (impl_bodiesOk.l0 kq l1 x5_1 l0_1 (l0_1.length : Int) x18_1 l0_0 l0_1 = some r) ∧ Aside0 (kq ≤ k) ∧ Aside0 (Kd.R (Kd.int .i64) 3 w' w.heap.size (fun _ => True) v294 x5_1) ∧ Aside0 (w'.heap[gb292]? = some (.cells #[(.slice A0_0 l0_0.length c0_0), (.slice A0_1 l0_1.length c0_1)] 30 (0, 0))) ∧ Aside0 (Below w.heap.size w w'))
  case atStart => exact ⟨(y293), (0), q6_, H', ⟨Nat.le_refl _⟩, ⟨by (with_reducible repeat (first | apply Kd.R_alloc | apply Kd.R_drewN | apply Kd.R_drew)); exact HO295.out⟩, ⟨by (with_reducible repeat (first | refine blk_drewN ?_ _ | refine blk_drew ?_ | refine blk_alloc ?_ _)); exact BK292.out⟩, ⟨by repeat (first | (with_reducible first | exact HB.out | apply below_alloc | apply pw_below_drewN | apply below_drew1 | refine below_set ?_ GE292.out) | exact HB.out)⟩⟩
  case round =>
    clear H'
    try clear c1
    try clear p2
    try clear c3
    try clear c3b0
    try clear c3b1
    try clear c4
    try clear c4b0
    try clear c4b1
    try clear c6
    try clear hcz8_0
    try clear hcz8_1
    try clear hfz8_0
    try clear hfz8_1
    obtain ⟨x5_1, x18_1, rfl, HA, HK1, HO_5, BK292, HB⟩ := hrel
    cases gk with
    | zero => exact absurd HA.out (by simp [impl_bodiesOk.l0])
    | succ k1 =>
     have H := HA.out
     clear HA
     simp only [impl_bodiesOk.l0] at H
     by_cases c9 : x18_1 < (l0_1.length : Int)
     ·rw [if_pos c9] at H
      have c9b0 : decide (x18_1 < (l0_1.length : Int)) = true := decide_eq_true c9
      clear c9
      by_cases c10 : 0 ≤ x18_1
      case neg =>
       rw [if_neg c10] at H
       exact absurd H (by simp)
      rw [if_pos c10] at H
      have c10b0 : decide (0 ≤ x18_1) = true := decide_eq_true c10
      clear c10
      by_cases c11 : x18_1 < (l0_1.length : Int)
      case neg =>
       rw [if_neg c11] at H
       exact absurd H (by simp)
      rw [if_pos c11] at H
      have c11b0 : decide (x18_1 < (l0_1.length : Int)) = true := decide_eq_true c11
      clear c11
      have HC12 := Aside0.mk H
      clear H
      have p296 : 0 ≤ (x18_1 : Int) := of_decide_eq_true q2_
      have q296 : x18_1 < (l0_1.length : Int) := of_decide_eq_true q2_
      obtain ⟨ad296, A296_3, c296_3, e296, hx296_0, hx296_1, hx296_2, hx296_3, hl296_3, hi296_3⟩ := at_T68 HR0_1.out x18_1 p296 q296
      cases e296
      replace hx296_0 := (HB.out.cell (World.block_lt_of_cell? w _ hx296_0)).trans hx296_0
      replace hx296_1 := (HB.out.cell (World.block_lt_of_cell? w _ hx296_1)).trans hx296_1
      replace hx296_2 := (HB.out.cell (World.block_lt_of_cell? w _ hx296_2)).trans hx296_2
      replace hx296_3 := (HB.out.cell (World.block_lt_of_cell? w _ hx296_3)).trans hx296_3
      have HR296_3 := Aside0.mk hi296_3
      have HC296_3 := Aside0.mk hl296_3
      clear hi296_3 hl296_3
      replace p296 := eq_true p296
      replace q296 := eq_true q296
      go_upto_region 5 with (first | ((with_reducible refine gate_dst (N := 7) rfl ?_); (try (refine gate_guard (by rfl) ?_; dsimp only)); refine box_event ?hg (N := 7) ?hd (cs := #[.string (⟨#[]⟩ : ByteArray), .int .i64 0, .int .i64 0, .slice none 0 0]) (t := 68) ?hr ?_; (case hd => rfl); (case hg => rfl); (case hr => first | (go_simp; done) | (go_simp; rfl)); intro gb297 hg w13 hbox hb; have n0_ := Aside0.mk (Kd.R_below q16_ hb); have n1_ := Aside0.mk (blk_below (g := gb292) (o := .cells #[.slice A0_0 l0_0.length c0_0, .slice (some ad296) l0_1.length c0_1] 30 (0, 0)) q24_ hb); have n2_ := Aside0.mk (below_step q19_ hb); have n3_ := Aside0.mk (hbox); have n4_ := Aside0.mk ((by rw [hg]; exact (below_size q19_) : w.heap.size ≤ gb297)); have n5_ := Aside0.mk ((by rw [hg]; exact (below_size q19_) : w.heap.size ≤ gb297)); have n6_ := Aside0.mk ((by rw [hg]; exact Nat.ne_of_lt (blk_lt (g := gb292) (o := .cells #[.slice A0_0 l0_0.length c0_0, .slice (some ad296) l0_1.length c0_1] 30 (0, 0)) q24_) : gb292 ≠ gb297)); have n7_ := Aside0.mk ((by rw [hg]; exact Nat.ne_of_gt (blk_lt (g := gb292) (o := .cells #[.slice A0_0 l0_0.length c0_0, .slice (some ad296) l0_1.length c0_1] 30 (0, 0)) q24_) : gb297 ≠ gb292)); clear HO_5; clear BK292; clear HB; have HO_5 := n0_; have BK292 := n1_; have HB := n2_; have BK297 := n3_; have GW297 := n4_; have GE297 := n5_; have NB292_297 := n6_; have NB297_292 := n7_; clear n0_ n1_ n2_ n3_ n4_ n5_ n6_ n7_; clear hb hbox hg; have hnb14 := NB297_292.out; have hnc14 := NB292_297.out; have hcz15_0 : w13.cell? ⟨gb297, 0, none⟩ = some (.string (⟨#[]⟩ : ByteArray)) := (blk_cell BK297.out 0).trans rfl; have hcz15_1 : w13.cell? ⟨gb297, 1, none⟩ = some (.int .i64 0) := (blk_cell BK297.out 1).trans rfl; have hcz15_2 : w13.cell? ⟨gb297, 2, none⟩ = some (.int .i64 0) := (blk_cell BK297.out 2).trans rfl; have hcz15_3 : w13.cell? ⟨gb297, 3, none⟩ = some (.slice none 0 0) := (blk_cell BK297.out 3).trans rfl; have hfz15_0 := blk_frozen BK297.out 0; have hfz15_1 := blk_frozen BK297.out 1; have hfz15_2 := blk_frozen BK297.out 2; have hfz15_3 := blk_frozen BK297.out 3))
      (try simp only [Act.put, List.setIfInBounds_toArray, List.set_cons_zero, List.set_cons_succ])
      go_cut [51] (fun v51 wc => ∃ (kq : Nat) (x51_11 : Bool), v51 = .bool x51_11 ∧ Aside0 (impl_bodiesOk.j1 kq l1 x5_1 l0_1 (l0_1.length : Int) x18_1 x51_11 l0_0 l0_1 ((rd_T68 l0_1 x18_1).f0) ((rd_T68 l0_1 x18_1).f1) ((rd_T68 l0_1 x18_1).f2) ((rd_T68 l0_1 x18_1).f3) = some r) ∧ Aside0 (kq ≤ k1) ∧ Aside0 (Kd.R (Kd.int .i64) 3 wc w.heap.size (fun _ => True) v294 x5_1) ∧ Aside0 (wc.heap[gb292]? = some (.cells #[(.slice A0_0 l0_0.length c0_0), (.slice (some ad296) l0_1.length c0_1)] 30 (0, 0))) ∧ Aside0 (wc.heap[gb297]? = some (.cells #[.string ((rd_T68 l0_1 x18_1).f0), .int .i64 ((rd_T68 l0_1 x18_1).f1), .int .i64 ((rd_T68 l0_1 x18_1).f2), (.slice A296_3 ((rd_T68 l0_1 x18_1).f3).length c296_3)] 68 (0, 0))) ∧ Aside0 (Below w.heap.size w wc))
      case first =>
       have H := HC12.out
       clear HC12
       replace H := Option.bind_eq_some_iff.mp H
       obtain ⟨t298, A160, H⟩ := H
       replace H : (if t298 = true then ((impl_isPlace.f ((rd_T68 l0_1 x18_1).f1) (l1.length : Int)).bind fun t299 => (if t299 = true then (if 0 ≤ ((rd_T68 l0_1 x18_1).f1) then (if ((rd_T68 l0_1 x18_1).f1) < (x5_1.length : Int) then (if ((rd_T68 l0_1 x18_1).f2) = (rd x5_1 ((rd_T68 l0_1 x18_1).f1)) then ((impl_ascends.f k1 ((rd_T68 l0_1 x18_1).f3) (l1.length : Int)).bind fun t301 => (impl_bodiesOk.j1 k1 l1 x5_1 l0_1 (l0_1.length : Int) x18_1 (!t301) l0_0 l0_1 ((rd_T68 l0_1 x18_1).f0) ((rd_T68 l0_1 x18_1).f1) ((rd_T68 l0_1 x18_1).f2) ((rd_T68 l0_1 x18_1).f3))) else (impl_bodiesOk.j1 k1 l1 x5_1 l0_1 (l0_1.length : Int) x18_1 true l0_0 l0_1 ((rd_T68 l0_1 x18_1).f0) ((rd_T68 l0_1 x18_1).f1) ((rd_T68 l0_1 x18_1).f2) ((rd_T68 l0_1 x18_1).f3))) else (none)) else (none)) else (impl_bodiesOk.j1 k1 l1 x5_1 l0_1 (l0_1.length : Int) x18_1 true l0_0 l0_1 ((rd_T68 l0_1 x18_1).f0) ((rd_T68 l0_1 x18_1).f1) ((rd_T68 l0_1 x18_1).f2) ((rd_T68 l0_1 x18_1).f3)))) else (impl_bodiesOk.j1 k1 l1 x5_1 l0_1 (l0_1.length : Int) x18_1 true l0_0 l0_1 ((rd_T68 l0_1 x18_1).f0) ((rd_T68 l0_1 x18_1).f1) ((rd_T68 l0_1 x18_1).f2) ((rd_T68 l0_1 x18_1).f3))) = some r := H
       have A16 := Aside0.mk A160
       clear A160
       by_cases c17 : t298 = true
       ·subst c17
        have H1 : ((impl_isPlace.f ((rd_T68 l0_1 x18_1).f1) (l1.length : Int)).bind fun t299 => (if t299 = true then (if 0 ≤ ((rd_T68 l0_1 x18_1).f1) then (if ((rd_T68 l0_1 x18_1).f1) < (x5_1.length : Int) then (if ((rd_T68 l0_1 x18_1).f2) = (rd x5_1 ((rd_T68 l0_1 x18_1).f1)) then ((impl_ascends.f k1 ((rd_T68 l0_1 x18_1).f3) (l1.length : Int)).bind fun t301 => (impl_bodiesOk.j1 k1 l1 x5_1 l0_1 (l0_1.length : Int) x18_1 (!t301) l0_0 l0_1 ((rd_T68 l0_1 x18_1).f0) ((rd_T68 l0_1 x18_1).f1) ((rd_T68 l0_1 x18_1).f2) ((rd_T68 l0_1 x18_1).f3))) else (impl_bodiesOk.j1 k1 l1 x5_1 l0_1 (l0_1.length : Int) x18_1 true l0_0 l0_1 ((rd_T68 l0_1 x18_1).f0) ((rd_T68 l0_1 x18_1).f1) ((rd_T68 l0_1 x18_1).f2) ((rd_T68 l0_1 x18_1).f3))) else (none)) else (none)) else (impl_bodiesOk.j1 k1 l1 x5_1 l0_1 (l0_1.length : Int) x18_1 true l0_0 l0_1 ((rd_T68 l0_1 x18_1).f0) ((rd_T68 l0_1 x18_1).f1) ((rd_T68 l0_1 x18_1).f2) ((rd_T68 l0_1 x18_1).f3)))) = some r := by rw [if_pos rfl] at H; exact H
        clear H
        have H := H1
        clear H1
        replace H := Option.bind_eq_some_iff.mp H
        obtain ⟨t299, A180, H⟩ := H
        replace H : (if t299 = true then (if 0 ≤ ((rd_T68 l0_1 x18_1).f1) then (if ((rd_T68 l0_1 x18_1).f1) < (x5_1.length : Int) then (if ((rd_T68 l0_1 x18_1).f2) = (rd x5_1 ((rd_T68 l0_1 x18_1).f1)) then ((impl_ascends.f k1 ((rd_T68 l0_1 x18_1).f3) (l1.length : Int)).bind fun t301 => (impl_bodiesOk.j1 k1 l1 x5_1 l0_1 (l0_1.length : Int) x18_1 (!t301) l0_0 l0_1 ((rd_T68 l0_1 x18_1).f0) ((rd_T68 l0_1 x18_1).f1) ((rd_T68 l0_1 x18_1).f2) ((rd_T68 l0_1 x18_1).f3))) else (impl_bodiesOk.j1 k1 l1 x5_1 l0_1 (l0_1.length : Int) x18_1 true l0_0 l0_1 ((rd_T68 l0_1 x18_1).f0) ((rd_T68 l0_1 x18_1).f1) ((rd_T68 l0_1 x18_1).f2) ((rd_T68 l0_1 x18_1).f3))) else (none)) else (none)) else (impl_bodiesOk.j1 k1 l1 x5_1 l0_1 (l0_1.length : Int) x18_1 true l0_0 l0_1 ((rd_T68 l0_1 x18_1).f0) ((rd_T68 l0_1 x18_1).f1) ((rd_T68 l0_1 x18_1).f2) ((rd_T68 l0_1 x18_1).f3))) = some r := H
        have A18 := Aside0.mk A180
        clear A180
        by_cases c19 : t299 = true
        ·subst c19
         have H1 : (if 0 ≤ ((rd_T68 l0_1 x18_1).f1) then (if ((rd_T68 l0_1 x18_1).f1) < (x5_1.length : Int) then (if ((rd_T68 l0_1 x18_1).f2) = (rd x5_1 ((rd_T68 l0_1 x18_1).f1)) then ((impl_ascends.f k1 ((rd_T68 l0_1 x18_1).f3) (l1.length : Int)).bind fun t301 => (impl_bodiesOk.j1 k1 l1 x5_1 l0_1 (l0_1.length : Int) x18_1 (!t301) l0_0 l0_1 ((rd_T68 l0_1 x18_1).f0) ((rd_T68 l0_1 x18_1).f1) ((rd_T68 l0_1 x18_1).f2) ((rd_T68 l0_1 x18_1).f3))) else (impl_bodiesOk.j1 k1 l1 x5_1 l0_1 (l0_1.length : Int) x18_1 true l0_0 l0_1 ((rd_T68 l0_1 x18_1).f0) ((rd_T68 l0_1 x18_1).f1) ((rd_T68 l0_1 x18_1).f2) ((rd_T68 l0_1 x18_1).f3))) else (none)) else (none)) = some r := by rw [if_pos rfl] at H; exact H
         clear H
         have H := H1
         clear H1
         by_cases c20 : 0 ≤ ((rd_T68 l0_1 x18_1).f1)
         case neg =>
          rw [if_neg c20] at H
          exact absurd H (by simp)
         rw [if_pos c20] at H
         have c20b0 : decide (0 ≤ ((rd_T68 l0_1 x18_1).f1)) = true := decide_eq_true c20
         clear c20
         (first | rw [c20b0] | (simp only [i64_w, i32_w]; rw [c20b0]) | skip)
         by_cases c21 : ((rd_T68 l0_1 x18_1).f1) < (x5_1.length : Int)
         case neg =>
          rw [if_neg c21] at H
          exact absurd H (by simp)
         rw [if_pos c21] at H
         have c21b0 : decide (((rd_T68 l0_1 x18_1).f1) < (x5_1.length : Int)) = true := decide_eq_true c21
         clear c21
         by_cases c22 : ((rd_T68 l0_1 x18_1).f2) = (rd x5_1 ((rd_T68 l0_1 x18_1).f1))
         ·rw [if_pos c22] at H
          have c22b0 : (((rd_T68 l0_1 x18_1).f2) == (rd x5_1 ((rd_T68 l0_1 x18_1).f1))) = true := beq_iff_eq.mpr c22
          have c22b1 : (((rd_T68 l0_1 x18_1).f2) != (rd x5_1 ((rd_T68 l0_1 x18_1).f1))) = false := bne_eq_false_iff_eq.mpr c22
          clear c22
          replace H := Option.bind_eq_some_iff.mp H
          obtain ⟨t301, A230, H⟩ := H
          replace H : (impl_bodiesOk.j1 k1 l1 x5_1 l0_1 (l0_1.length : Int) x18_1 (!t301) l0_0 l0_1 ((rd_T68 l0_1 x18_1).f0) ((rd_T68 l0_1 x18_1).f1) ((rd_T68 l0_1 x18_1).f2) ((rd_T68 l0_1 x18_1).f3)) = some r := H
          have A23 := Aside0.mk A230
          clear A230
          have H' := Aside0.mk H
          clear H
          try go_wp2
          have n0_ : Aside0 (Kd.R (Kd.int .i64) 3 ((((w13.setCell ⟨gb297, 0, none⟩ (.string ((rd_T68 l0_1 x18_1).f0))).setCell ⟨gb297, 1, none⟩ (.int .i64 ((rd_T68 l0_1 x18_1).f1))).setCell ⟨gb297, 2, none⟩ (.int .i64 ((rd_T68 l0_1 x18_1).f2))).setCell ⟨gb297, 3, none⟩ (.slice A296_3 ((rd_T68 l0_1 x18_1).f3).length c296_3)) w.heap.size (fun _ => True) v294 x5_1) := ⟨by (with_reducible repeat (first | apply Kd.R_alloc | apply Kd.R_drewN | apply Kd.R_drew)); exact Kd.R_mono (Kd.R_far (p := ⟨gb297, 3, none⟩) (Kd.R_far (p := ⟨gb297, 2, none⟩) (Kd.R_far (p := ⟨gb297, 1, none⟩) (Kd.R_far (p := ⟨gb297, 0, none⟩) (Kd.R_types HO_5.out BK297.out (by decide)) (fun _ hk => hk.2) (.string ((rd_T68 l0_1 x18_1).f0))) (fun _ hk => hk.2) (.int .i64 ((rd_T68 l0_1 x18_1).f1))) (fun _ hk => hk.2) (.int .i64 ((rd_T68 l0_1 x18_1).f2))) (fun _ hk => hk.2) (.slice A296_3 ((rd_T68 l0_1 x18_1).f3).length c296_3)) (fun _ hk => trivial)⟩
          have n1_ : Aside0 (((((w13.setCell ⟨gb297, 0, none⟩ (.string ((rd_T68 l0_1 x18_1).f0))).setCell ⟨gb297, 1, none⟩ (.int .i64 ((rd_T68 l0_1 x18_1).f1))).setCell ⟨gb297, 2, none⟩ (.int .i64 ((rd_T68 l0_1 x18_1).f2))).setCell ⟨gb297, 3, none⟩ (.slice A296_3 ((rd_T68 l0_1 x18_1).f3).length c296_3)).heap[gb292]? = some (.cells #[.slice A0_0 l0_0.length c0_0, .slice (some ad296) l0_1.length c0_1] 30 (0, 0))) := ⟨by (with_reducible repeat (first | refine blk_drewN ?_ _ | refine blk_drew ?_ | refine blk_alloc ?_ _)); refine blk_far ?_ NB292_297.out _; (with_reducible repeat (first | refine blk_drewN ?_ _ | refine blk_drew ?_ | refine blk_alloc ?_ _)); refine blk_far ?_ NB292_297.out _; (with_reducible repeat (first | refine blk_drewN ?_ _ | refine blk_drew ?_ | refine blk_alloc ?_ _)); refine blk_far ?_ NB292_297.out _; (with_reducible repeat (first | refine blk_drewN ?_ _ | refine blk_drew ?_ | refine blk_alloc ?_ _)); refine blk_far ?_ NB292_297.out _; (with_reducible repeat (first | refine blk_drewN ?_ _ | refine blk_drew ?_ | refine blk_alloc ?_ _)); exact BK292.out⟩
          have n2_ : Aside0 (((((w13.setCell ⟨gb297, 0, none⟩ (.string ((rd_T68 l0_1 x18_1).f0))).setCell ⟨gb297, 1, none⟩ (.int .i64 ((rd_T68 l0_1 x18_1).f1))).setCell ⟨gb297, 2, none⟩ (.int .i64 ((rd_T68 l0_1 x18_1).f2))).setCell ⟨gb297, 3, none⟩ (.slice A296_3 ((rd_T68 l0_1 x18_1).f3).length c296_3)).heap[gb297]? = some (.cells #[.string ((rd_T68 l0_1 x18_1).f0), .int .i64 ((rd_T68 l0_1 x18_1).f1), .int .i64 ((rd_T68 l0_1 x18_1).f2), .slice A296_3 ((rd_T68 l0_1 x18_1).f3).length c296_3] 68 (0, 0))) := ⟨by (with_reducible repeat (first | refine blk_drewN ?_ _ | refine blk_drew ?_ | refine blk_alloc ?_ _)); refine blk_put (cs := #[.string ((rd_T68 l0_1 x18_1).f0), .int .i64 ((rd_T68 l0_1 x18_1).f1), .int .i64 ((rd_T68 l0_1 x18_1).f2), .slice none 0 0]) ?_ 3 _ rfl; (with_reducible repeat (first | refine blk_drewN ?_ _ | refine blk_drew ?_ | refine blk_alloc ?_ _)); refine blk_put (cs := #[.string ((rd_T68 l0_1 x18_1).f0), .int .i64 ((rd_T68 l0_1 x18_1).f1), .int .i64 0, .slice none 0 0]) ?_ 2 _ rfl; (with_reducible repeat (first | refine blk_drewN ?_ _ | refine blk_drew ?_ | refine blk_alloc ?_ _)); refine blk_put (cs := #[.string ((rd_T68 l0_1 x18_1).f0), .int .i64 0, .int .i64 0, .slice none 0 0]) ?_ 1 _ rfl; (with_reducible repeat (first | refine blk_drewN ?_ _ | refine blk_drew ?_ | refine blk_alloc ?_ _)); refine blk_put (cs := #[.string (⟨#[]⟩ : ByteArray), .int .i64 0, .int .i64 0, .slice none 0 0]) ?_ 0 _ rfl; (with_reducible repeat (first | refine blk_drewN ?_ _ | refine blk_drew ?_ | refine blk_alloc ?_ _)); exact BK297.out⟩
          have n3_ : Aside0 (Below w.heap.size w ((((w13.setCell ⟨gb297, 0, none⟩ (.string ((rd_T68 l0_1 x18_1).f0))).setCell ⟨gb297, 1, none⟩ (.int .i64 ((rd_T68 l0_1 x18_1).f1))).setCell ⟨gb297, 2, none⟩ (.int .i64 ((rd_T68 l0_1 x18_1).f2))).setCell ⟨gb297, 3, none⟩ (.slice A296_3 ((rd_T68 l0_1 x18_1).f3).length c296_3))) := ⟨by repeat (first | (with_reducible first | exact HB.out | apply below_alloc | apply pw_below_drewN | apply below_drew1 | refine below_set ?_ GE292.out | refine below_set ?_ GE297.out) | exact HB.out)⟩
          (try clear HO_5)
          (try clear BK292)
          (try clear BK297)
          (try clear HB)
          generalize ((((w13.setCell ⟨gb297, 0, none⟩ (.string ((rd_T68 l0_1 x18_1).f0))).setCell ⟨gb297, 1, none⟩ (.int .i64 ((rd_T68 l0_1 x18_1).f1))).setCell ⟨gb297, 2, none⟩ (.int .i64 ((rd_T68 l0_1 x18_1).f2))).setCell ⟨gb297, 3, none⟩ (.slice A296_3 ((rd_T68 l0_1 x18_1).f3).length c296_3)) = w24 at n0_ n1_ n2_ n3_ ⊢
          have HO_5 := n0_
          have BK292 := n1_
          have BK297 := n2_
          have HB := n3_
          clear n0_ n1_ n2_ n3_
          have n0_ := Aside0.mk (Kd.R_drew HO_5.out)
          have n1_ := Aside0.mk (blk_drew BK292.out)
          have n2_ := Aside0.mk (blk_drew BK297.out)
          have n3_ := Aside0.mk (below_drew1 HB.out)
          clear HO_5
          clear BK292
          clear BK297
          clear HB
          have HO_5 := n0_
          have BK292 := n1_
          have BK297 := n2_
          have HB := n3_
          clear n0_ n1_ n2_ n3_
          have p300 : 0 ≤ (((rd_T68 l0_1 x18_1).f1) : Int) := of_decide_eq_true q2_
          have q300 : ((rd_T68 l0_1 x18_1).f1) < (x5_1.length : Int) := of_decide_eq_true q2_
          obtain ⟨Aq300_, cq300_, eq300_⟩ := Kd.R_slice HO_5.out
          (first | subst eq300_ | clear eq300_)
          obtain ⟨ad300, e300, hx300_0⟩ := Kd.at_int (Kd.R_reads' HO_5.out).2.2 ((rd_T68 l0_1 x18_1).f1) p300 q300
          cases e300
          replace p300 := eq_true p300
          replace q300 := eq_true q300
          refine start_ (n := 30) (S := fun w' => w'.cell? ⟨gb297, 0, none⟩ = some (.string ((rd_T68 l0_1 x18_1).f0)) ∧ w'.cell? ⟨gb297, 1, none⟩ = some (.int .i64 ((rd_T68 l0_1 x18_1).f1)) ∧ w'.cell? ⟨gb297, 2, none⟩ = some (.int .i64 ((rd_T68 l0_1 x18_1).f2)) ∧ w'.cell? ⟨gb297, 3, none⟩ = some (.slice A296_3 ((rd_T68 l0_1 x18_1).f3).length c296_3) ∧ w'.cell? (ad300.add (((rd_T68 l0_1 x18_1).f1)).toNat) = some (.int .i64 (rd x5_1 ((rd_T68 l0_1 x18_1).f1)))) (ds := []) bv10_0 (by kernel_rfl) rfl rfl ⟨(blk_cell BK297.out 0).trans rfl, (blk_cell BK297.out 1).trans rfl, (blk_cell BK297.out 2).trans rfl, (blk_cell BK297.out 3).trans rfl, hx300_0⟩ (fun hHeld => ?_); refine with_tabW impl_bodiesOk.tab5 impl_bodiesOk.bits5 (fun HT_ HW_ => ?_)
          generalize w24.drew = w25 at HO_5 BK292 BK297 HB hx300_0 hHeld ⊢
          refine pure_ (i := 0) (N := some 22) (v := ?_) (a' := ?_) bv10_1 rfl rfl (any_of HT_.out (by kernel_rfl)) (fun _ _ _ h => h) (Or.inl ⟨by rfl, ?_⟩) ?_ ?_
          rotate_left; exact pw_; rotate_left; exact pz_
          refine take_ (i := 1) (N := some 23) (v := ?_) (a' := ?_) bv10_2 rfl rfl (take_ofW HT_.out HW_.out (by kernel_rfl)) (fun _ _ _ h => h) (Or.inl ⟨by rfl, ?_⟩) hHeld ?_ ?_
          rotate_left; exact pw5_; rotate_left; exact pz_
          refine one_ (i := 2) (N := some 24) bv10_3 rfl rfl (one_of HT_.out (by kernel_rfl)) (by decide) (fun K hK => ?_)
          refine goes_ Try.func99 (by kernel_rfl) rfl #[.string ((rd_T68 l0_1 x18_1).f0)] (by rfl) rfl rfl q1_ ?_
          with_reducible refine (impl_LineOk.calls ((rd_T68 l0_1 x18_1).f0) true _ A16.out).mono ?_
          rintro e w' ⟨rfl, ⟨nd, rfl⟩⟩
          refine ⟨_, rfl, ?_⟩
          refine hK.out _ _ ⟨(blk_cell BK297.out 0).trans rfl, (blk_cell BK297.out 1).trans rfl, (blk_cell BK297.out 2).trans rfl, (blk_cell BK297.out 3).trans rfl, hHeld.2.2.2.2⟩ (fun hHeld => ?_)
          clear hK K
          refine norm_ (a' := ?_) ?_ ?_
          rotate_left
          ·show Act.put _ (some 24) _ = _
           simp only [Act.put, List.setIfInBounds_toArray, List.set_cons_zero, List.set_cons_succ, i64_w, i32_w]
           rfl
          refine pure_ (i := 3) (N := some 25) (v := ?_) (a' := ?_) bv10_4 rfl rfl (any_of HT_.out (by kernel_rfl)) (fun _ _ _ h => h) (Or.inl ⟨by rfl, ?_⟩) ?_ ?_
          rotate_left; exact pw_; rotate_left; exact pz_
          refine pure_ (i := 4) (N := some 26) (v := ?_) (a' := ?_) bv10_5 rfl rfl (any_of HT_.out (by kernel_rfl)) (fun _ _ _ h => h) (Or.inl ⟨by rfl, ?_⟩) ?_ ?_
          rotate_left; exact pw_; rotate_left; exact pz_
          refine pure_ (i := 5) (N := some 27) (v := ?_) (a' := ?_) bv10_6 rfl rfl (any_of HT_.out (by kernel_rfl)) (fun _ _ _ h => h) (Or.inl ⟨by rfl, ?_⟩) ?_ ?_
          rotate_left; exact pw_; rotate_left; exact pz_
          refine pure_ (i := 7) (N := some 29) (v := ?_) (a' := ?_) bv10_7 rfl rfl (any_of HT_.out (by kernel_rfl)) (fun _ _ _ h => h) (Or.inl ⟨by rfl, ?_⟩) ?_ ?_
          rotate_left; exact pw_; rotate_left; exact pz_
          refine pure_ (i := 8) (N := some 30) (v := ?_) (a' := ?_) bv10_8 rfl rfl (any_of HT_.out (by kernel_rfl)) (fun _ _ _ h => h) (Or.inl ⟨by rfl, ?_⟩) ?_ ?_
          rotate_left; exact pw_; rotate_left; exact pz_
          refine take_ (i := 6) (N := some 28) (v := ?_) (a' := ?_) bv10_9 rfl rfl (take_ofW HT_.out HW_.out (by kernel_rfl)) (fun _ _ _ h => h) (Or.inl ⟨by rfl, ?_⟩) hHeld ?_ ?_
          rotate_left; exact pw5_; rotate_left; exact pz_
          refine one_ (i := 9) (N := some 31) bv10_10 rfl rfl (one_of HT_.out (by kernel_rfl)) (by decide) (fun K hK => ?_)
          refine goes_ Try.func74 (by kernel_rfl) rfl #[.int .i64 ((rd_T68 l0_1 x18_1).f1), .int .i64 (l1.length : Int)] (by rfl) rfl rfl q1_ ?_
          with_reducible refine (impl_isPlace.calls ((rd_T68 l0_1 x18_1).f1) (l1.length : Int) true _ A18.out).mono ?_
          rintro e w' ⟨rfl, ⟨nd, rfl⟩⟩
          refine ⟨_, rfl, ?_⟩
          obtain ⟨Ao26, co26, eo26⟩ := Kd.R_slice HO_5.out
          (first | subst eo26 | (injection eo26 with f1_ f2_ f3_; have f4_ := f1_.symm; have f5_ := f3_.symm; clear f1_ f2_ f3_; subst f4_; subst f5_))
          refine hK.out _ _ ⟨(blk_cell BK297.out 0).trans rfl, (blk_cell BK297.out 1).trans rfl, (blk_cell BK297.out 2).trans rfl, (blk_cell BK297.out 3).trans rfl, hHeld.2.2.2.2⟩ (fun hHeld => ?_)
          clear hK K
          refine norm_ (a' := ?_) ?_ ?_
          rotate_left
          ·show Act.put _ (some 31) _ = _
           simp only [Act.put, List.setIfInBounds_toArray, List.set_cons_zero, List.set_cons_succ, i64_w, i32_w]
           rfl
          refine pure_ (i := 10) (N := some 32) (v := ?_) (a' := ?_) bv10_11 rfl rfl (any_of HT_.out (by kernel_rfl)) (fun _ _ _ h => h) (Or.inl ⟨by rfl, ?_⟩) ?_ ?_
          rotate_left; exact pw_; rotate_left; exact pz_
          refine pure_ (i := 11) (N := some 33) (v := ?_) (a' := ?_) bv10_12 rfl rfl (any_of HT_.out (by kernel_rfl)) (fun _ _ _ h => h) (Or.inl ⟨by rfl, ?_⟩) ?_ ?_
          rotate_left; exact pw_; rotate_left; exact pz_
          refine pure_ (i := 12) (N := some 34) (v := ?_) (a' := ?_) bv10_13 rfl rfl (any_of HT_.out (by kernel_rfl)) (fun _ _ _ h => h) (Or.inl ⟨by rfl, ?_⟩) ?_ ?_
          rotate_left; exact pw_; rotate_left; exact pz_
          refine pure_ (i := 13) (N := some 35) (v := ?_) (a' := ?_) bv10_14 rfl rfl (any_of HT_.out (by kernel_rfl)) (fun _ _ _ h => h) (Or.inl ⟨by rfl, ?_⟩) ?_ ?_
          rotate_left; exact pw_; rotate_left; exact pz_
          refine pure_ (i := 15) (N := some 37) (v := ?_) (a' := ?_) bv10_15 rfl rfl (any_of HT_.out (by kernel_rfl)) (fun _ _ _ h => h) (Or.inl ⟨by rfl, ?_⟩) ?_ ?_
          rotate_left; exact pw_; rotate_left; exact pz_
          refine pure_ (i := 16) (N := some 38) (v := ?_) (a' := ?_) bv10_16 rfl rfl (any_of HT_.out (by kernel_rfl)) (fun _ _ _ h => h) (Or.inl ⟨by rfl, ?_⟩) ?_ ?_
          rotate_left; exact pw_; rotate_left; exact pz_
          refine take_ (i := 14) (N := some 36) (v := ?_) (a' := ?_) bv10_17 rfl rfl (take_ofW HT_.out HW_.out (by kernel_rfl)) (fun _ _ _ h => h) (Or.inl ⟨by rfl, ?_⟩) hHeld ?_ ?_
          rotate_left; exact pw5_; rotate_left; exact pz_
          refine take_ (i := 17) (N := some 39) (v := ?_) (a' := ?_) bv10_18 rfl rfl (take_ofW HT_.out HW_.out (by kernel_rfl)) (fun _ _ _ h => h) (Or.inl ⟨by rfl, ?_⟩) hHeld ?_ ?_
          rotate_left; exact pw5_; rotate_left; exact pz_
          refine pure_ (i := 18) (N := some 40) (v := ?_) (a' := ?_) bv10_19 rfl rfl (any_of HT_.out (by kernel_rfl)) (fun _ _ _ h => h) (Or.inl ⟨by rfl, ?_⟩) ?_ ?_
          rotate_left; exact pw_; rotate_left; exact pz_
          refine take_ (i := 19) (N := some 41) (v := ?_) (a' := ?_) bv10_20 rfl rfl (take_ofW HT_.out HW_.out (by kernel_rfl)) (fun _ _ _ h => h) (Or.inl ⟨by rfl, ?_⟩) hHeld ?_ ?_
          rotate_left; exact pw5_; rotate_left; exact pz_
          refine pure_ (i := 20) (N := some 42) (v := ?_) (a' := ?_) bv10_21 rfl rfl (any_of HT_.out (by kernel_rfl)) (fun _ _ _ h => h) (Or.inl ⟨by rfl, ?_⟩) ?_ ?_
          rotate_left; exact pw_; rotate_left; exact pz_
          refine pure_ (i := 21) (N := some 43) (v := ?_) (a' := ?_) bv10_22 rfl rfl (any_of HT_.out (by kernel_rfl)) (fun _ _ _ h => h) (Or.inl ⟨by rfl, ?_⟩) ?_ ?_
          rotate_left; exact pw_; rotate_left; exact pz_
          refine pure_ (i := 22) (N := some 44) (v := ?_) (a' := ?_) bv10_23 rfl rfl (any_of HT_.out (by kernel_rfl)) (fun _ _ _ h => h) (Or.inl ⟨by rfl, ?_⟩) ?_ ?_
          rotate_left; exact pw_; rotate_left; exact pz_
          refine pure_ (i := 23) (N := some 45) (v := ?_) (a' := ?_) bv10_24 rfl rfl (any_of HT_.out (by kernel_rfl)) (fun _ _ _ h => h) (Or.inl ⟨by rfl, ?_⟩) ?_ ?_
          rotate_left; exact pw_; rotate_left; exact pz_
          refine pure_ (i := 25) (N := some 47) (v := ?_) (a' := ?_) #[true, true, true, true, true, true, true, true, true, true, true, true, true, true, true, true, true, true, true, true, true, true, true, true, false, true, false, false, false, false] rfl rfl (any_of HT_.out (by kernel_rfl)) (fun _ _ _ h => h) (Or.inl ⟨by rfl, ?_⟩) ?_ ?_
          rotate_left; exact pw_; rotate_left; exact pz_
          refine pure_ (i := 26) (N := some 48) (v := ?_) (a' := ?_) #[true, true, true, true, true, true, true, true, true, true, true, true, true, true, true, true, true, true, true, true, true, true, true, true, false, true, true, false, false, false] rfl rfl (any_of HT_.out (by kernel_rfl)) (fun _ _ _ h => h) (Or.inl ⟨by rfl, ?_⟩) ?_ ?_
          rotate_left; exact pw_; rotate_left; exact pz_
          refine take_ (i := 24) (N := some 46) (v := ?_) (a' := ?_) bv10_25 rfl rfl (take_ofW HT_.out HW_.out (by kernel_rfl)) (fun _ _ _ h => h) (Or.inl ⟨by rfl, ?_⟩) hHeld ?_ ?_
          rotate_left; exact pw5_; rotate_left; exact pz_
          refine one_ (i := 27) (N := some 49) bv10_26 rfl rfl (one_of HT_.out (by kernel_rfl)) (by decide) (fun K hK => ?_)
          refine goes_ Try.func98 (by kernel_rfl) rfl #[.slice A296_3 ((rd_T68 l0_1 x18_1).f3).length c296_3, .int .i64 (l1.length : Int)] (by rfl) rfl rfl q1_ ?_
          with_reducible refine (impl_ascends.calls k1 _ _ ((rd_T68 l0_1 x18_1).f3) (l1.length : Int) t301 _ ?side1 ?side2 A23.out).mono ?_
          (case side1 => exact q33_)
          (case side2 => exact HC296_3.out)
          rintro e w' ⟨rfl, ⟨nd, rfl⟩⟩
          refine ⟨_, rfl, ?_⟩
          refine hK.out _ _ ⟨(blk_cell BK297.out 0).trans rfl, (blk_cell BK297.out 1).trans rfl, (blk_cell BK297.out 2).trans rfl, (blk_cell BK297.out 3).trans rfl, hHeld.2.2.2.2⟩ (fun hHeld => ?_)
          clear hK K
          refine norm_ (a' := ?_) ?_ ?_
          rotate_left
          ·show Act.put _ (some 49) _ = _
           simp only [Act.put, List.setIfInBounds_toArray, List.set_cons_zero, List.set_cons_succ, i64_w, i32_w]
           rfl
          refine pure_ (i := 28) (N := some 50) (v := ?_) (a' := ?_) bv10_27 rfl rfl (any_of HT_.out (by kernel_rfl)) (fun _ _ _ h => h) (Or.inl ⟨by rfl, ?_⟩) ?_ ?_
          rotate_left; exact pw_; rotate_left; exact pz_
          refine pure_ (i := 29) (N := some 51) (v := ?_) (a' := ?_) bv10_28 rfl rfl (any_of HT_.out (by kernel_rfl)) (fun _ _ _ h => h) (Or.inl ⟨by rfl, ?_⟩) ?_ ?_
          rotate_left; exact pw_; rotate_left; exact pz_
          refine done_ (done_of HT_.out (by kernel_rfl)) ?_
          try go_wp2
          go_meet
          case rel => exact ⟨_, (!t301), q6_, H', ⟨by have := HK1.out; first | omega | exact Nat.le_refl _⟩, ⟨by (with_reducible repeat (first | apply Kd.R_alloc | apply Kd.R_drewN | apply Kd.R_drew)); exact HO_5.out⟩, ⟨by (with_reducible repeat (first | refine blk_drewN ?_ _ | refine blk_drew ?_ | refine blk_alloc ?_ _)); exact BK292.out⟩, ⟨by (with_reducible repeat (first | refine blk_drewN ?_ _ | refine blk_drew ?_ | refine blk_alloc ?_ _)); exact BK297.out⟩, ⟨by repeat (first | (with_reducible first | exact HB.out | apply below_alloc | apply pw_below_drewN | apply below_drew1 | refine below_set ?_ GE292.out | refine below_set ?_ GE297.out) | exact HB.out)⟩⟩
         ·rw [if_neg c22] at H
          have c22b0 : (((rd_T68 l0_1 x18_1).f2) == (rd x5_1 ((rd_T68 l0_1 x18_1).f1))) = false := beq_eq_false_iff_ne.mpr c22
          have c22b1 : (((rd_T68 l0_1 x18_1).f2) != (rd x5_1 ((rd_T68 l0_1 x18_1).f1))) = true := bne_iff_ne.mpr c22
          have H' := Aside0.mk H
          clear H
          try go_wp2
          have n0_ : Aside0 (Kd.R (Kd.int .i64) 3 ((((w13.setCell ⟨gb297, 0, none⟩ (.string ((rd_T68 l0_1 x18_1).f0))).setCell ⟨gb297, 1, none⟩ (.int .i64 ((rd_T68 l0_1 x18_1).f1))).setCell ⟨gb297, 2, none⟩ (.int .i64 ((rd_T68 l0_1 x18_1).f2))).setCell ⟨gb297, 3, none⟩ (.slice A296_3 ((rd_T68 l0_1 x18_1).f3).length c296_3)) w.heap.size (fun _ => True) v294 x5_1) := ⟨by (with_reducible repeat (first | apply Kd.R_alloc | apply Kd.R_drewN | apply Kd.R_drew)); exact Kd.R_mono (Kd.R_far (p := ⟨gb297, 3, none⟩) (Kd.R_far (p := ⟨gb297, 2, none⟩) (Kd.R_far (p := ⟨gb297, 1, none⟩) (Kd.R_far (p := ⟨gb297, 0, none⟩) (Kd.R_types HO_5.out BK297.out (by decide)) (fun _ hk => hk.2) (.string ((rd_T68 l0_1 x18_1).f0))) (fun _ hk => hk.2) (.int .i64 ((rd_T68 l0_1 x18_1).f1))) (fun _ hk => hk.2) (.int .i64 ((rd_T68 l0_1 x18_1).f2))) (fun _ hk => hk.2) (.slice A296_3 ((rd_T68 l0_1 x18_1).f3).length c296_3)) (fun _ hk => trivial)⟩
          have n1_ : Aside0 (((((w13.setCell ⟨gb297, 0, none⟩ (.string ((rd_T68 l0_1 x18_1).f0))).setCell ⟨gb297, 1, none⟩ (.int .i64 ((rd_T68 l0_1 x18_1).f1))).setCell ⟨gb297, 2, none⟩ (.int .i64 ((rd_T68 l0_1 x18_1).f2))).setCell ⟨gb297, 3, none⟩ (.slice A296_3 ((rd_T68 l0_1 x18_1).f3).length c296_3)).heap[gb292]? = some (.cells #[.slice A0_0 l0_0.length c0_0, .slice (some ad296) l0_1.length c0_1] 30 (0, 0))) := ⟨by (with_reducible repeat (first | refine blk_drewN ?_ _ | refine blk_drew ?_ | refine blk_alloc ?_ _)); refine blk_far ?_ NB292_297.out _; (with_reducible repeat (first | refine blk_drewN ?_ _ | refine blk_drew ?_ | refine blk_alloc ?_ _)); refine blk_far ?_ NB292_297.out _; (with_reducible repeat (first | refine blk_drewN ?_ _ | refine blk_drew ?_ | refine blk_alloc ?_ _)); refine blk_far ?_ NB292_297.out _; (with_reducible repeat (first | refine blk_drewN ?_ _ | refine blk_drew ?_ | refine blk_alloc ?_ _)); refine blk_far ?_ NB292_297.out _; (with_reducible repeat (first | refine blk_drewN ?_ _ | refine blk_drew ?_ | refine blk_alloc ?_ _)); exact BK292.out⟩
          have n2_ : Aside0 (((((w13.setCell ⟨gb297, 0, none⟩ (.string ((rd_T68 l0_1 x18_1).f0))).setCell ⟨gb297, 1, none⟩ (.int .i64 ((rd_T68 l0_1 x18_1).f1))).setCell ⟨gb297, 2, none⟩ (.int .i64 ((rd_T68 l0_1 x18_1).f2))).setCell ⟨gb297, 3, none⟩ (.slice A296_3 ((rd_T68 l0_1 x18_1).f3).length c296_3)).heap[gb297]? = some (.cells #[.string ((rd_T68 l0_1 x18_1).f0), .int .i64 ((rd_T68 l0_1 x18_1).f1), .int .i64 ((rd_T68 l0_1 x18_1).f2), .slice A296_3 ((rd_T68 l0_1 x18_1).f3).length c296_3] 68 (0, 0))) := ⟨by (with_reducible repeat (first | refine blk_drewN ?_ _ | refine blk_drew ?_ | refine blk_alloc ?_ _)); refine blk_put (cs := #[.string ((rd_T68 l0_1 x18_1).f0), .int .i64 ((rd_T68 l0_1 x18_1).f1), .int .i64 ((rd_T68 l0_1 x18_1).f2), .slice none 0 0]) ?_ 3 _ rfl; (with_reducible repeat (first | refine blk_drewN ?_ _ | refine blk_drew ?_ | refine blk_alloc ?_ _)); refine blk_put (cs := #[.string ((rd_T68 l0_1 x18_1).f0), .int .i64 ((rd_T68 l0_1 x18_1).f1), .int .i64 0, .slice none 0 0]) ?_ 2 _ rfl; (with_reducible repeat (first | refine blk_drewN ?_ _ | refine blk_drew ?_ | refine blk_alloc ?_ _)); refine blk_put (cs := #[.string ((rd_T68 l0_1 x18_1).f0), .int .i64 0, .int .i64 0, .slice none 0 0]) ?_ 1 _ rfl; (with_reducible repeat (first | refine blk_drewN ?_ _ | refine blk_drew ?_ | refine blk_alloc ?_ _)); refine blk_put (cs := #[.string (⟨#[]⟩ : ByteArray), .int .i64 0, .int .i64 0, .slice none 0 0]) ?_ 0 _ rfl; (with_reducible repeat (first | refine blk_drewN ?_ _ | refine blk_drew ?_ | refine blk_alloc ?_ _)); exact BK297.out⟩
          have n3_ : Aside0 (Below w.heap.size w ((((w13.setCell ⟨gb297, 0, none⟩ (.string ((rd_T68 l0_1 x18_1).f0))).setCell ⟨gb297, 1, none⟩ (.int .i64 ((rd_T68 l0_1 x18_1).f1))).setCell ⟨gb297, 2, none⟩ (.int .i64 ((rd_T68 l0_1 x18_1).f2))).setCell ⟨gb297, 3, none⟩ (.slice A296_3 ((rd_T68 l0_1 x18_1).f3).length c296_3))) := ⟨by repeat (first | (with_reducible first | exact HB.out | apply below_alloc | apply pw_below_drewN | apply below_drew1 | refine below_set ?_ GE292.out | refine below_set ?_ GE297.out) | exact HB.out)⟩
          (try clear HO_5)
          (try clear BK292)
          (try clear BK297)
          (try clear HB)
          generalize ((((w13.setCell ⟨gb297, 0, none⟩ (.string ((rd_T68 l0_1 x18_1).f0))).setCell ⟨gb297, 1, none⟩ (.int .i64 ((rd_T68 l0_1 x18_1).f1))).setCell ⟨gb297, 2, none⟩ (.int .i64 ((rd_T68 l0_1 x18_1).f2))).setCell ⟨gb297, 3, none⟩ (.slice A296_3 ((rd_T68 l0_1 x18_1).f3).length c296_3)) = w27 at n0_ n1_ n2_ n3_ ⊢
          have HO_5 := n0_
          have BK292 := n1_
          have BK297 := n2_
          have HB := n3_
          clear n0_ n1_ n2_ n3_
          have n0_ := Aside0.mk (Kd.R_drew HO_5.out)
          have n1_ := Aside0.mk (blk_drew BK292.out)
          have n2_ := Aside0.mk (blk_drew BK297.out)
          have n3_ := Aside0.mk (below_drew1 HB.out)
          clear HO_5
          clear BK292
          clear BK297
          clear HB
          have HO_5 := n0_
          have BK292 := n1_
          have BK297 := n2_
          have HB := n3_
          clear n0_ n1_ n2_ n3_
          have p300 : 0 ≤ (((rd_T68 l0_1 x18_1).f1) : Int) := of_decide_eq_true q2_
          have q300 : ((rd_T68 l0_1 x18_1).f1) < (x5_1.length : Int) := of_decide_eq_true q2_
          obtain ⟨Aq300_, cq300_, eq300_⟩ := Kd.R_slice HO_5.out
          (first | subst eq300_ | clear eq300_)
          obtain ⟨ad300, e300, hx300_0⟩ := Kd.at_int (Kd.R_reads' HO_5.out).2.2 ((rd_T68 l0_1 x18_1).f1) p300 q300
          cases e300
          replace p300 := eq_true p300
          replace q300 := eq_true q300
          refine start_ (n := 30) (S := fun w' => w'.cell? ⟨gb297, 0, none⟩ = some (.string ((rd_T68 l0_1 x18_1).f0)) ∧ w'.cell? ⟨gb297, 1, none⟩ = some (.int .i64 ((rd_T68 l0_1 x18_1).f1)) ∧ w'.cell? ⟨gb297, 2, none⟩ = some (.int .i64 ((rd_T68 l0_1 x18_1).f2)) ∧ w'.cell? ⟨gb297, 3, none⟩ = some (.slice A296_3 ((rd_T68 l0_1 x18_1).f3).length c296_3) ∧ w'.cell? (ad300.add (((rd_T68 l0_1 x18_1).f1)).toNat) = some (.int .i64 (rd x5_1 ((rd_T68 l0_1 x18_1).f1)))) (ds := []) bv10_0 (by kernel_rfl) rfl rfl ⟨(blk_cell BK297.out 0).trans rfl, (blk_cell BK297.out 1).trans rfl, (blk_cell BK297.out 2).trans rfl, (blk_cell BK297.out 3).trans rfl, hx300_0⟩ (fun hHeld => ?_); refine with_tabW impl_bodiesOk.tab5 impl_bodiesOk.bits5 (fun HT_ HW_ => ?_)
          generalize w27.drew = w28 at HO_5 BK292 BK297 HB hx300_0 hHeld ⊢
          refine pure_ (i := 0) (N := some 22) (v := ?_) (a' := ?_) bv10_1 rfl rfl (any_of HT_.out (by kernel_rfl)) (fun _ _ _ h => h) (Or.inl ⟨by rfl, ?_⟩) ?_ ?_
          rotate_left; exact pw_; rotate_left; exact pz_
          refine take_ (i := 1) (N := some 23) (v := ?_) (a' := ?_) bv10_2 rfl rfl (take_ofW HT_.out HW_.out (by kernel_rfl)) (fun _ _ _ h => h) (Or.inl ⟨by rfl, ?_⟩) hHeld ?_ ?_
          rotate_left; exact pw5_; rotate_left; exact pz_
          refine one_ (i := 2) (N := some 24) bv10_3 rfl rfl (one_of HT_.out (by kernel_rfl)) (by decide) (fun K hK => ?_)
          refine goes_ Try.func99 (by kernel_rfl) rfl #[.string ((rd_T68 l0_1 x18_1).f0)] (by rfl) rfl rfl q1_ ?_
          with_reducible refine (impl_LineOk.calls ((rd_T68 l0_1 x18_1).f0) true _ A16.out).mono ?_
          rintro e w' ⟨rfl, ⟨nd, rfl⟩⟩
          refine ⟨_, rfl, ?_⟩
          refine hK.out _ _ ⟨(blk_cell BK297.out 0).trans rfl, (blk_cell BK297.out 1).trans rfl, (blk_cell BK297.out 2).trans rfl, (blk_cell BK297.out 3).trans rfl, hHeld.2.2.2.2⟩ (fun hHeld => ?_)
          clear hK K
          refine norm_ (a' := ?_) ?_ ?_
          rotate_left
          ·show Act.put _ (some 24) _ = _
           simp only [Act.put, List.setIfInBounds_toArray, List.set_cons_zero, List.set_cons_succ, i64_w, i32_w]
           rfl
          refine pure_ (i := 3) (N := some 25) (v := ?_) (a' := ?_) bv10_4 rfl rfl (any_of HT_.out (by kernel_rfl)) (fun _ _ _ h => h) (Or.inl ⟨by rfl, ?_⟩) ?_ ?_
          rotate_left; exact pw_; rotate_left; exact pz_
          refine pure_ (i := 4) (N := some 26) (v := ?_) (a' := ?_) bv10_5 rfl rfl (any_of HT_.out (by kernel_rfl)) (fun _ _ _ h => h) (Or.inl ⟨by rfl, ?_⟩) ?_ ?_
          rotate_left; exact pw_; rotate_left; exact pz_
          refine pure_ (i := 5) (N := some 27) (v := ?_) (a' := ?_) bv10_6 rfl rfl (any_of HT_.out (by kernel_rfl)) (fun _ _ _ h => h) (Or.inl ⟨by rfl, ?_⟩) ?_ ?_
          rotate_left; exact pw_; rotate_left; exact pz_
          refine pure_ (i := 7) (N := some 29) (v := ?_) (a' := ?_) bv10_7 rfl rfl (any_of HT_.out (by kernel_rfl)) (fun _ _ _ h => h) (Or.inl ⟨by rfl, ?_⟩) ?_ ?_
          rotate_left; exact pw_; rotate_left; exact pz_
          refine pure_ (i := 8) (N := some 30) (v := ?_) (a' := ?_) bv10_8 rfl rfl (any_of HT_.out (by kernel_rfl)) (fun _ _ _ h => h) (Or.inl ⟨by rfl, ?_⟩) ?_ ?_
          rotate_left; exact pw_; rotate_left; exact pz_
          refine take_ (i := 6) (N := some 28) (v := ?_) (a' := ?_) bv10_9 rfl rfl (take_ofW HT_.out HW_.out (by kernel_rfl)) (fun _ _ _ h => h) (Or.inl ⟨by rfl, ?_⟩) hHeld ?_ ?_
          rotate_left; exact pw5_; rotate_left; exact pz_
          refine one_ (i := 9) (N := some 31) bv10_10 rfl rfl (one_of HT_.out (by kernel_rfl)) (by decide) (fun K hK => ?_)
          refine goes_ Try.func74 (by kernel_rfl) rfl #[.int .i64 ((rd_T68 l0_1 x18_1).f1), .int .i64 (l1.length : Int)] (by rfl) rfl rfl q1_ ?_
          with_reducible refine (impl_isPlace.calls ((rd_T68 l0_1 x18_1).f1) (l1.length : Int) true _ A18.out).mono ?_
          rintro e w' ⟨rfl, ⟨nd, rfl⟩⟩
          refine ⟨_, rfl, ?_⟩
          obtain ⟨Ao29, co29, eo29⟩ := Kd.R_slice HO_5.out
          (first | subst eo29 | (injection eo29 with f1_ f2_ f3_; have f4_ := f1_.symm; have f5_ := f3_.symm; clear f1_ f2_ f3_; subst f4_; subst f5_))
          refine hK.out _ _ ⟨(blk_cell BK297.out 0).trans rfl, (blk_cell BK297.out 1).trans rfl, (blk_cell BK297.out 2).trans rfl, (blk_cell BK297.out 3).trans rfl, hHeld.2.2.2.2⟩ (fun hHeld => ?_)
          clear hK K
          refine norm_ (a' := ?_) ?_ ?_
          rotate_left
          ·show Act.put _ (some 31) _ = _
           simp only [Act.put, List.setIfInBounds_toArray, List.set_cons_zero, List.set_cons_succ, i64_w, i32_w]
           rfl
          refine pure_ (i := 10) (N := some 32) (v := ?_) (a' := ?_) bv10_11 rfl rfl (any_of HT_.out (by kernel_rfl)) (fun _ _ _ h => h) (Or.inl ⟨by rfl, ?_⟩) ?_ ?_
          rotate_left; exact pw_; rotate_left; exact pz_
          refine pure_ (i := 11) (N := some 33) (v := ?_) (a' := ?_) bv10_12 rfl rfl (any_of HT_.out (by kernel_rfl)) (fun _ _ _ h => h) (Or.inl ⟨by rfl, ?_⟩) ?_ ?_
          rotate_left; exact pw_; rotate_left; exact pz_
          refine pure_ (i := 12) (N := some 34) (v := ?_) (a' := ?_) bv10_13 rfl rfl (any_of HT_.out (by kernel_rfl)) (fun _ _ _ h => h) (Or.inl ⟨by rfl, ?_⟩) ?_ ?_
          rotate_left; exact pw_; rotate_left; exact pz_
          refine pure_ (i := 13) (N := some 35) (v := ?_) (a' := ?_) bv10_14 rfl rfl (any_of HT_.out (by kernel_rfl)) (fun _ _ _ h => h) (Or.inl ⟨by rfl, ?_⟩) ?_ ?_
          rotate_left; exact pw_; rotate_left; exact pz_
          refine pure_ (i := 15) (N := some 37) (v := ?_) (a' := ?_) bv10_15 rfl rfl (any_of HT_.out (by kernel_rfl)) (fun _ _ _ h => h) (Or.inl ⟨by rfl, ?_⟩) ?_ ?_
          rotate_left; exact pw_; rotate_left; exact pz_
          refine pure_ (i := 16) (N := some 38) (v := ?_) (a' := ?_) bv10_16 rfl rfl (any_of HT_.out (by kernel_rfl)) (fun _ _ _ h => h) (Or.inl ⟨by rfl, ?_⟩) ?_ ?_
          rotate_left; exact pw_; rotate_left; exact pz_
          refine take_ (i := 14) (N := some 36) (v := ?_) (a' := ?_) bv10_17 rfl rfl (take_ofW HT_.out HW_.out (by kernel_rfl)) (fun _ _ _ h => h) (Or.inl ⟨by rfl, ?_⟩) hHeld ?_ ?_
          rotate_left; exact pw5_; rotate_left; exact pz_
          refine take_ (i := 17) (N := some 39) (v := ?_) (a' := ?_) bv10_18 rfl rfl (take_ofW HT_.out HW_.out (by kernel_rfl)) (fun _ _ _ h => h) (Or.inl ⟨by rfl, ?_⟩) hHeld ?_ ?_
          rotate_left; exact pw5_; rotate_left; exact pz_
          refine pure_ (i := 18) (N := some 40) (v := ?_) (a' := ?_) bv10_19 rfl rfl (any_of HT_.out (by kernel_rfl)) (fun _ _ _ h => h) (Or.inl ⟨by rfl, ?_⟩) ?_ ?_
          rotate_left; exact pw_; rotate_left; exact pz_
          refine take_ (i := 19) (N := some 41) (v := ?_) (a' := ?_) bv10_20 rfl rfl (take_ofW HT_.out HW_.out (by kernel_rfl)) (fun _ _ _ h => h) (Or.inl ⟨by rfl, ?_⟩) hHeld ?_ ?_
          rotate_left; exact pw5_; rotate_left; exact pz_
          refine pure_ (i := 20) (N := some 42) (v := ?_) (a' := ?_) bv10_21 rfl rfl (any_of HT_.out (by kernel_rfl)) (fun _ _ _ h => h) (Or.inl ⟨by rfl, ?_⟩) ?_ ?_
          rotate_left; exact pw_; rotate_left; exact pz_
          refine pure_ (i := 21) (N := some 43) (v := ?_) (a' := ?_) bv10_22 rfl rfl (any_of HT_.out (by kernel_rfl)) (fun _ _ _ h => h) (Or.inl ⟨by rfl, ?_⟩) ?_ ?_
          rotate_left; exact pw_; rotate_left; exact pz_
          refine pure_ (i := 22) (N := some 44) (v := ?_) (a' := ?_) bv10_23 rfl rfl (any_of HT_.out (by kernel_rfl)) (fun _ _ _ h => h) (Or.inl ⟨by rfl, ?_⟩) ?_ ?_
          rotate_left; exact pw_; rotate_left; exact pz_
          refine pure_ (i := 23) (N := some 45) (v := undef) (a' := ?_) bv10_24 rfl rfl (any_of HT_.out (by kernel_rfl)) (fun _ _ _ h => h) (Or.inr ⟨by rfl, rfl⟩) ?_ ?_
          rotate_left; exact pz_
          refine pure_ (i := 24) (N := some 46) (v := undef) (a' := ?_) bv10_29 rfl rfl (any_of HT_.out (by kernel_rfl)) (fun _ _ _ h => h) (Or.inr ⟨by rfl, rfl⟩) ?_ ?_
          rotate_left; exact pz_
          refine pure_ (i := 25) (N := some 47) (v := undef) (a' := ?_) bv10_30 rfl rfl (any_of HT_.out (by kernel_rfl)) (fun _ _ _ h => h) (Or.inr ⟨by rfl, rfl⟩) ?_ ?_
          rotate_left; exact pz_
          refine pure_ (i := 26) (N := some 48) (v := undef) (a' := ?_) bv10_25 rfl rfl (any_of HT_.out (by kernel_rfl)) (fun _ _ _ h => h) (Or.inr ⟨by rfl, rfl⟩) ?_ ?_
          rotate_left; exact pz_
          refine pure_ (i := 27) (N := some 49) (v := undef) (a' := ?_) bv10_26 rfl rfl (any_of HT_.out (by kernel_rfl)) (fun _ _ _ h => h) (Or.inr ⟨by rfl, rfl⟩) ?_ ?_
          rotate_left; exact pz_
          refine pure_ (i := 28) (N := some 50) (v := undef) (a' := ?_) bv10_27 rfl rfl (any_of HT_.out (by kernel_rfl)) (fun _ _ _ h => h) (Or.inr ⟨by rfl, rfl⟩) ?_ ?_
          rotate_left; exact pz_
          refine pure_ (i := 29) (N := some 51) (v := ?_) (a' := ?_) bv10_28 rfl rfl (any_of HT_.out (by kernel_rfl)) (fun _ _ _ h => h) (Or.inl ⟨by rfl, ?_⟩) ?_ ?_
          rotate_left; exact pw_; rotate_left; exact pz_
          refine done_ (done_of HT_.out (by kernel_rfl)) ?_
          try go_wp2
          go_meet
          case rel => exact ⟨_, (true), q6_, H', ⟨by have := HK1.out; first | omega | exact Nat.le_refl _⟩, ⟨by (with_reducible repeat (first | apply Kd.R_alloc | apply Kd.R_drewN | apply Kd.R_drew)); exact HO_5.out⟩, ⟨by (with_reducible repeat (first | refine blk_drewN ?_ _ | refine blk_drew ?_ | refine blk_alloc ?_ _)); exact BK292.out⟩, ⟨by (with_reducible repeat (first | refine blk_drewN ?_ _ | refine blk_drew ?_ | refine blk_alloc ?_ _)); exact BK297.out⟩, ⟨by repeat (first | (with_reducible first | exact HB.out | apply below_alloc | apply pw_below_drewN | apply below_drew1 | refine below_set ?_ GE292.out | refine below_set ?_ GE297.out) | exact HB.out)⟩⟩
        ·replace c19 := Bool.eq_false_iff.mpr c19
         subst c19
         have H1 : (impl_bodiesOk.j1 k1 l1 x5_1 l0_1 (l0_1.length : Int) x18_1 true l0_0 l0_1 ((rd_T68 l0_1 x18_1).f0) ((rd_T68 l0_1 x18_1).f1) ((rd_T68 l0_1 x18_1).f2) ((rd_T68 l0_1 x18_1).f3)) = some r := by rw [if_neg (show ¬ (false = true) by decide)] at H; exact H
         clear H
         have H := H1
         clear H1
         have H' := Aside0.mk H
         clear H
         try go_wp2
         have n0_ : Aside0 (Kd.R (Kd.int .i64) 3 ((((w13.setCell ⟨gb297, 0, none⟩ (.string ((rd_T68 l0_1 x18_1).f0))).setCell ⟨gb297, 1, none⟩ (.int .i64 ((rd_T68 l0_1 x18_1).f1))).setCell ⟨gb297, 2, none⟩ (.int .i64 ((rd_T68 l0_1 x18_1).f2))).setCell ⟨gb297, 3, none⟩ (.slice A296_3 ((rd_T68 l0_1 x18_1).f3).length c296_3)) w.heap.size (fun _ => True) v294 x5_1) := ⟨by (with_reducible repeat (first | apply Kd.R_alloc | apply Kd.R_drewN | apply Kd.R_drew)); exact Kd.R_mono (Kd.R_far (p := ⟨gb297, 3, none⟩) (Kd.R_far (p := ⟨gb297, 2, none⟩) (Kd.R_far (p := ⟨gb297, 1, none⟩) (Kd.R_far (p := ⟨gb297, 0, none⟩) (Kd.R_types HO_5.out BK297.out (by decide)) (fun _ hk => hk.2) (.string ((rd_T68 l0_1 x18_1).f0))) (fun _ hk => hk.2) (.int .i64 ((rd_T68 l0_1 x18_1).f1))) (fun _ hk => hk.2) (.int .i64 ((rd_T68 l0_1 x18_1).f2))) (fun _ hk => hk.2) (.slice A296_3 ((rd_T68 l0_1 x18_1).f3).length c296_3)) (fun _ hk => trivial)⟩
         have n1_ : Aside0 (((((w13.setCell ⟨gb297, 0, none⟩ (.string ((rd_T68 l0_1 x18_1).f0))).setCell ⟨gb297, 1, none⟩ (.int .i64 ((rd_T68 l0_1 x18_1).f1))).setCell ⟨gb297, 2, none⟩ (.int .i64 ((rd_T68 l0_1 x18_1).f2))).setCell ⟨gb297, 3, none⟩ (.slice A296_3 ((rd_T68 l0_1 x18_1).f3).length c296_3)).heap[gb292]? = some (.cells #[.slice A0_0 l0_0.length c0_0, .slice (some ad296) l0_1.length c0_1] 30 (0, 0))) := ⟨by (with_reducible repeat (first | refine blk_drewN ?_ _ | refine blk_drew ?_ | refine blk_alloc ?_ _)); refine blk_far ?_ NB292_297.out _; (with_reducible repeat (first | refine blk_drewN ?_ _ | refine blk_drew ?_ | refine blk_alloc ?_ _)); refine blk_far ?_ NB292_297.out _; (with_reducible repeat (first | refine blk_drewN ?_ _ | refine blk_drew ?_ | refine blk_alloc ?_ _)); refine blk_far ?_ NB292_297.out _; (with_reducible repeat (first | refine blk_drewN ?_ _ | refine blk_drew ?_ | refine blk_alloc ?_ _)); refine blk_far ?_ NB292_297.out _; (with_reducible repeat (first | refine blk_drewN ?_ _ | refine blk_drew ?_ | refine blk_alloc ?_ _)); exact BK292.out⟩
         have n2_ : Aside0 (((((w13.setCell ⟨gb297, 0, none⟩ (.string ((rd_T68 l0_1 x18_1).f0))).setCell ⟨gb297, 1, none⟩ (.int .i64 ((rd_T68 l0_1 x18_1).f1))).setCell ⟨gb297, 2, none⟩ (.int .i64 ((rd_T68 l0_1 x18_1).f2))).setCell ⟨gb297, 3, none⟩ (.slice A296_3 ((rd_T68 l0_1 x18_1).f3).length c296_3)).heap[gb297]? = some (.cells #[.string ((rd_T68 l0_1 x18_1).f0), .int .i64 ((rd_T68 l0_1 x18_1).f1), .int .i64 ((rd_T68 l0_1 x18_1).f2), .slice A296_3 ((rd_T68 l0_1 x18_1).f3).length c296_3] 68 (0, 0))) := ⟨by (with_reducible repeat (first | refine blk_drewN ?_ _ | refine blk_drew ?_ | refine blk_alloc ?_ _)); refine blk_put (cs := #[.string ((rd_T68 l0_1 x18_1).f0), .int .i64 ((rd_T68 l0_1 x18_1).f1), .int .i64 ((rd_T68 l0_1 x18_1).f2), .slice none 0 0]) ?_ 3 _ rfl; (with_reducible repeat (first | refine blk_drewN ?_ _ | refine blk_drew ?_ | refine blk_alloc ?_ _)); refine blk_put (cs := #[.string ((rd_T68 l0_1 x18_1).f0), .int .i64 ((rd_T68 l0_1 x18_1).f1), .int .i64 0, .slice none 0 0]) ?_ 2 _ rfl; (with_reducible repeat (first | refine blk_drewN ?_ _ | refine blk_drew ?_ | refine blk_alloc ?_ _)); refine blk_put (cs := #[.string ((rd_T68 l0_1 x18_1).f0), .int .i64 0, .int .i64 0, .slice none 0 0]) ?_ 1 _ rfl; (with_reducible repeat (first | refine blk_drewN ?_ _ | refine blk_drew ?_ | refine blk_alloc ?_ _)); refine blk_put (cs := #[.string (⟨#[]⟩ : ByteArray), .int .i64 0, .int .i64 0, .slice none 0 0]) ?_ 0 _ rfl; (with_reducible repeat (first | refine blk_drewN ?_ _ | refine blk_drew ?_ | refine blk_alloc ?_ _)); exact BK297.out⟩
         have n3_ : Aside0 (Below w.heap.size w ((((w13.setCell ⟨gb297, 0, none⟩ (.string ((rd_T68 l0_1 x18_1).f0))).setCell ⟨gb297, 1, none⟩ (.int .i64 ((rd_T68 l0_1 x18_1).f1))).setCell ⟨gb297, 2, none⟩ (.int .i64 ((rd_T68 l0_1 x18_1).f2))).setCell ⟨gb297, 3, none⟩ (.slice A296_3 ((rd_T68 l0_1 x18_1).f3).length c296_3))) := ⟨by repeat (first | (with_reducible first | exact HB.out | apply below_alloc | apply pw_below_drewN | apply below_drew1 | refine below_set ?_ GE292.out | refine below_set ?_ GE297.out) | exact HB.out)⟩
         (try clear HO_5)
         (try clear BK292)
         (try clear BK297)
         (try clear HB)
         generalize ((((w13.setCell ⟨gb297, 0, none⟩ (.string ((rd_T68 l0_1 x18_1).f0))).setCell ⟨gb297, 1, none⟩ (.int .i64 ((rd_T68 l0_1 x18_1).f1))).setCell ⟨gb297, 2, none⟩ (.int .i64 ((rd_T68 l0_1 x18_1).f2))).setCell ⟨gb297, 3, none⟩ (.slice A296_3 ((rd_T68 l0_1 x18_1).f3).length c296_3)) = w30 at n0_ n1_ n2_ n3_ ⊢
         have HO_5 := n0_
         have BK292 := n1_
         have BK297 := n2_
         have HB := n3_
         clear n0_ n1_ n2_ n3_
         have n0_ := Aside0.mk (Kd.R_drew HO_5.out)
         have n1_ := Aside0.mk (blk_drew BK292.out)
         have n2_ := Aside0.mk (blk_drew BK297.out)
         have n3_ := Aside0.mk (below_drew1 HB.out)
         clear HO_5
         clear BK292
         clear BK297
         clear HB
         have HO_5 := n0_
         have BK292 := n1_
         have BK297 := n2_
         have HB := n3_
         clear n0_ n1_ n2_ n3_
         refine start_ (n := 30) (S := fun w' => w'.cell? ⟨gb297, 0, none⟩ = some (.string ((rd_T68 l0_1 x18_1).f0)) ∧ w'.cell? ⟨gb297, 1, none⟩ = some (.int .i64 ((rd_T68 l0_1 x18_1).f1)) ∧ w'.cell? ⟨gb297, 2, none⟩ = some (.int .i64 ((rd_T68 l0_1 x18_1).f2)) ∧ w'.cell? ⟨gb297, 3, none⟩ = some (.slice A296_3 ((rd_T68 l0_1 x18_1).f3).length c296_3)) (ds := []) bv10_0 (by kernel_rfl) rfl rfl ⟨(blk_cell BK297.out 0).trans rfl, (blk_cell BK297.out 1).trans rfl, (blk_cell BK297.out 2).trans rfl, (blk_cell BK297.out 3).trans rfl⟩ (fun hHeld => ?_); refine with_tabW impl_bodiesOk.tab5 impl_bodiesOk.bits5 (fun HT_ HW_ => ?_)
         generalize w30.drew = w31 at HO_5 BK292 BK297 HB hHeld ⊢
         refine pure_ (i := 0) (N := some 22) (v := ?_) (a' := ?_) bv10_1 rfl rfl (any_of HT_.out (by kernel_rfl)) (fun _ _ _ h => h) (Or.inl ⟨by rfl, ?_⟩) ?_ ?_
         rotate_left; exact pw_; rotate_left; exact pz_
         refine take_ (i := 1) (N := some 23) (v := ?_) (a' := ?_) bv10_2 rfl rfl (take_ofW HT_.out HW_.out (by kernel_rfl)) (fun _ _ _ h => h) (Or.inl ⟨by rfl, ?_⟩) hHeld ?_ ?_
         rotate_left; exact pw4_; rotate_left; exact pz_
         refine one_ (i := 2) (N := some 24) bv10_3 rfl rfl (one_of HT_.out (by kernel_rfl)) (by decide) (fun K hK => ?_)
         refine goes_ Try.func99 (by kernel_rfl) rfl #[.string ((rd_T68 l0_1 x18_1).f0)] (by rfl) rfl rfl q1_ ?_
         with_reducible refine (impl_LineOk.calls ((rd_T68 l0_1 x18_1).f0) true _ A16.out).mono ?_
         rintro e w' ⟨rfl, ⟨nd, rfl⟩⟩
         refine ⟨_, rfl, ?_⟩
         refine hK.out _ _ ⟨(blk_cell BK297.out 0).trans rfl, (blk_cell BK297.out 1).trans rfl, (blk_cell BK297.out 2).trans rfl, (blk_cell BK297.out 3).trans rfl⟩ (fun hHeld => ?_)
         clear hK K
         refine norm_ (a' := ?_) ?_ ?_
         rotate_left
         ·show Act.put _ (some 24) _ = _
          simp only [Act.put, List.setIfInBounds_toArray, List.set_cons_zero, List.set_cons_succ, i64_w, i32_w]
          rfl
         refine pure_ (i := 3) (N := some 25) (v := ?_) (a' := ?_) bv10_4 rfl rfl (any_of HT_.out (by kernel_rfl)) (fun _ _ _ h => h) (Or.inl ⟨by rfl, ?_⟩) ?_ ?_
         rotate_left; exact pw_; rotate_left; exact pz_
         refine pure_ (i := 4) (N := some 26) (v := ?_) (a' := ?_) bv10_5 rfl rfl (any_of HT_.out (by kernel_rfl)) (fun _ _ _ h => h) (Or.inl ⟨by rfl, ?_⟩) ?_ ?_
         rotate_left; exact pw_; rotate_left; exact pz_
         refine pure_ (i := 5) (N := some 27) (v := ?_) (a' := ?_) bv10_6 rfl rfl (any_of HT_.out (by kernel_rfl)) (fun _ _ _ h => h) (Or.inl ⟨by rfl, ?_⟩) ?_ ?_
         rotate_left; exact pw_; rotate_left; exact pz_
         refine pure_ (i := 7) (N := some 29) (v := ?_) (a' := ?_) bv10_7 rfl rfl (any_of HT_.out (by kernel_rfl)) (fun _ _ _ h => h) (Or.inl ⟨by rfl, ?_⟩) ?_ ?_
         rotate_left; exact pw_; rotate_left; exact pz_
         refine pure_ (i := 8) (N := some 30) (v := ?_) (a' := ?_) bv10_8 rfl rfl (any_of HT_.out (by kernel_rfl)) (fun _ _ _ h => h) (Or.inl ⟨by rfl, ?_⟩) ?_ ?_
         rotate_left; exact pw_; rotate_left; exact pz_
         refine take_ (i := 6) (N := some 28) (v := ?_) (a' := ?_) bv10_9 rfl rfl (take_ofW HT_.out HW_.out (by kernel_rfl)) (fun _ _ _ h => h) (Or.inl ⟨by rfl, ?_⟩) hHeld ?_ ?_
         rotate_left; exact pw4_; rotate_left; exact pz_
         refine one_ (i := 9) (N := some 31) bv10_10 rfl rfl (one_of HT_.out (by kernel_rfl)) (by decide) (fun K hK => ?_)
         refine goes_ Try.func74 (by kernel_rfl) rfl #[.int .i64 ((rd_T68 l0_1 x18_1).f1), .int .i64 (l1.length : Int)] (by rfl) rfl rfl q1_ ?_
         with_reducible refine (impl_isPlace.calls ((rd_T68 l0_1 x18_1).f1) (l1.length : Int) false _ A18.out).mono ?_
         rintro e w' ⟨rfl, ⟨nd, rfl⟩⟩
         refine ⟨_, rfl, ?_⟩
         refine hK.out _ _ ⟨(blk_cell BK297.out 0).trans rfl, (blk_cell BK297.out 1).trans rfl, (blk_cell BK297.out 2).trans rfl, (blk_cell BK297.out 3).trans rfl⟩ (fun hHeld => ?_)
         clear hK K
         refine norm_ (a' := ?_) ?_ ?_
         rotate_left
         ·show Act.put _ (some 31) _ = _
          simp only [Act.put, List.setIfInBounds_toArray, List.set_cons_zero, List.set_cons_succ, i64_w, i32_w]
          rfl
         refine pure_ (i := 10) (N := some 32) (v := ?_) (a' := ?_) bv10_11 rfl rfl (any_of HT_.out (by kernel_rfl)) (fun _ _ _ h => h) (Or.inl ⟨by rfl, ?_⟩) ?_ ?_
         rotate_left; exact pw_; rotate_left; exact pz_
         refine pure_ (i := 11) (N := some 33) (v := ?_) (a' := ?_) bv10_12 rfl rfl (any_of HT_.out (by kernel_rfl)) (fun _ _ _ h => h) (Or.inl ⟨by rfl, ?_⟩) ?_ ?_
         rotate_left; exact pw_; rotate_left; exact pz_
         refine pure_ (i := 12) (N := some 34) (v := ?_) (a' := ?_) bv10_13 rfl rfl (any_of HT_.out (by kernel_rfl)) (fun _ _ _ h => h) (Or.inl ⟨by rfl, ?_⟩) ?_ ?_
         rotate_left; exact pw_; rotate_left; exact pz_
         refine pure_ (i := 13) (N := some 35) (v := undef) (a' := ?_) bv10_14 rfl rfl (any_of HT_.out (by kernel_rfl)) (fun _ _ _ h => h) (Or.inr ⟨by rfl, rfl⟩) ?_ ?_
         rotate_left; exact pz_
         refine pure_ (i := 14) (N := some 36) (v := undef) (a' := ?_) bv10_31 rfl rfl (any_of HT_.out (by kernel_rfl)) (fun _ _ _ h => h) (Or.inr ⟨by rfl, rfl⟩) ?_ ?_
         rotate_left; exact pz_
         refine pure_ (i := 15) (N := some 37) (v := undef) (a' := ?_) bv10_32 rfl rfl (any_of HT_.out (by kernel_rfl)) (fun _ _ _ h => h) (Or.inr ⟨by rfl, rfl⟩) ?_ ?_
         rotate_left; exact pz_
         refine pure_ (i := 16) (N := some 38) (v := undef) (a' := ?_) bv10_17 rfl rfl (any_of HT_.out (by kernel_rfl)) (fun _ _ _ h => h) (Or.inr ⟨by rfl, rfl⟩) ?_ ?_
         rotate_left; exact pz_
         refine pure_ (i := 17) (N := some 39) (v := undef) (a' := ?_) bv10_18 rfl rfl (any_of HT_.out (by kernel_rfl)) (fun _ _ _ h => h) (Or.inr ⟨by rfl, rfl⟩) ?_ ?_
         rotate_left; exact pz_
         refine pure_ (i := 18) (N := some 40) (v := undef) (a' := ?_) bv10_19 rfl rfl (any_of HT_.out (by kernel_rfl)) (fun _ _ _ h => h) (Or.inr ⟨by rfl, rfl⟩) ?_ ?_
         rotate_left; exact pz_
         refine pure_ (i := 19) (N := some 41) (v := undef) (a' := ?_) bv10_20 rfl rfl (any_of HT_.out (by kernel_rfl)) (fun _ _ _ h => h) (Or.inr ⟨by rfl, rfl⟩) ?_ ?_
         rotate_left; exact pz_
         refine pure_ (i := 20) (N := some 42) (v := undef) (a' := ?_) bv10_21 rfl rfl (any_of HT_.out (by kernel_rfl)) (fun _ _ _ h => h) (Or.inr ⟨by rfl, rfl⟩) ?_ ?_
         rotate_left; exact pz_
         refine pure_ (i := 21) (N := some 43) (v := ?_) (a' := ?_) bv10_22 rfl rfl (any_of HT_.out (by kernel_rfl)) (fun _ _ _ h => h) (Or.inl ⟨by rfl, ?_⟩) ?_ ?_
         rotate_left; exact pw_; rotate_left; exact pz_
         refine pure_ (i := 22) (N := some 44) (v := ?_) (a' := ?_) bv10_23 rfl rfl (any_of HT_.out (by kernel_rfl)) (fun _ _ _ h => h) (Or.inl ⟨by rfl, ?_⟩) ?_ ?_
         rotate_left; exact pw_; rotate_left; exact pz_
         refine pure_ (i := 23) (N := some 45) (v := undef) (a' := ?_) bv10_24 rfl rfl (any_of HT_.out (by kernel_rfl)) (fun _ _ _ h => h) (Or.inr ⟨by rfl, rfl⟩) ?_ ?_
         rotate_left; exact pz_
         refine pure_ (i := 24) (N := some 46) (v := undef) (a' := ?_) bv10_29 rfl rfl (any_of HT_.out (by kernel_rfl)) (fun _ _ _ h => h) (Or.inr ⟨by rfl, rfl⟩) ?_ ?_
         rotate_left; exact pz_
         refine pure_ (i := 25) (N := some 47) (v := undef) (a' := ?_) bv10_30 rfl rfl (any_of HT_.out (by kernel_rfl)) (fun _ _ _ h => h) (Or.inr ⟨by rfl, rfl⟩) ?_ ?_
         rotate_left; exact pz_
         refine pure_ (i := 26) (N := some 48) (v := undef) (a' := ?_) bv10_25 rfl rfl (any_of HT_.out (by kernel_rfl)) (fun _ _ _ h => h) (Or.inr ⟨by rfl, rfl⟩) ?_ ?_
         rotate_left; exact pz_
         refine pure_ (i := 27) (N := some 49) (v := undef) (a' := ?_) bv10_26 rfl rfl (any_of HT_.out (by kernel_rfl)) (fun _ _ _ h => h) (Or.inr ⟨by rfl, rfl⟩) ?_ ?_
         rotate_left; exact pz_
         refine pure_ (i := 28) (N := some 50) (v := undef) (a' := ?_) bv10_27 rfl rfl (any_of HT_.out (by kernel_rfl)) (fun _ _ _ h => h) (Or.inr ⟨by rfl, rfl⟩) ?_ ?_
         rotate_left; exact pz_
         refine pure_ (i := 29) (N := some 51) (v := ?_) (a' := ?_) bv10_28 rfl rfl (any_of HT_.out (by kernel_rfl)) (fun _ _ _ h => h) (Or.inl ⟨by rfl, ?_⟩) ?_ ?_
         rotate_left; exact pw_; rotate_left; exact pz_
         refine done_ (done_of HT_.out (by kernel_rfl)) ?_
         try go_wp2
         go_meet
         case rel => exact ⟨_, (true), q6_, H', ⟨by have := HK1.out; first | omega | exact Nat.le_refl _⟩, ⟨by (with_reducible repeat (first | apply Kd.R_alloc | apply Kd.R_drewN | apply Kd.R_drew)); exact HO_5.out⟩, ⟨by (with_reducible repeat (first | refine blk_drewN ?_ _ | refine blk_drew ?_ | refine blk_alloc ?_ _)); exact BK292.out⟩, ⟨by (with_reducible repeat (first | refine blk_drewN ?_ _ | refine blk_drew ?_ | refine blk_alloc ?_ _)); exact BK297.out⟩, ⟨by repeat (first | (with_reducible first | exact HB.out | apply below_alloc | apply pw_below_drewN | apply below_drew1 | refine below_set ?_ GE292.out | refine below_set ?_ GE297.out) | exact HB.out)⟩⟩
       ·replace c17 := Bool.eq_false_iff.mpr c17
        subst c17
        have H1 : (impl_bodiesOk.j1 k1 l1 x5_1 l0_1 (l0_1.length : Int) x18_1 true l0_0 l0_1 ((rd_T68 l0_1 x18_1).f0) ((rd_T68 l0_1 x18_1).f1) ((rd_T68 l0_1 x18_1).f2) ((rd_T68 l0_1 x18_1).f3)) = some r := by rw [if_neg (show ¬ (false = true) by decide)] at H; exact H
        clear H
        have H := H1
        clear H1
        have H' := Aside0.mk H
        clear H
        try go_wp2
        have n0_ : Aside0 (Kd.R (Kd.int .i64) 3 ((((w13.setCell ⟨gb297, 0, none⟩ (.string ((rd_T68 l0_1 x18_1).f0))).setCell ⟨gb297, 1, none⟩ (.int .i64 ((rd_T68 l0_1 x18_1).f1))).setCell ⟨gb297, 2, none⟩ (.int .i64 ((rd_T68 l0_1 x18_1).f2))).setCell ⟨gb297, 3, none⟩ (.slice A296_3 ((rd_T68 l0_1 x18_1).f3).length c296_3)) w.heap.size (fun _ => True) v294 x5_1) := ⟨by (with_reducible repeat (first | apply Kd.R_alloc | apply Kd.R_drewN | apply Kd.R_drew)); exact Kd.R_mono (Kd.R_far (p := ⟨gb297, 3, none⟩) (Kd.R_far (p := ⟨gb297, 2, none⟩) (Kd.R_far (p := ⟨gb297, 1, none⟩) (Kd.R_far (p := ⟨gb297, 0, none⟩) (Kd.R_types HO_5.out BK297.out (by decide)) (fun _ hk => hk.2) (.string ((rd_T68 l0_1 x18_1).f0))) (fun _ hk => hk.2) (.int .i64 ((rd_T68 l0_1 x18_1).f1))) (fun _ hk => hk.2) (.int .i64 ((rd_T68 l0_1 x18_1).f2))) (fun _ hk => hk.2) (.slice A296_3 ((rd_T68 l0_1 x18_1).f3).length c296_3)) (fun _ hk => trivial)⟩
        have n1_ : Aside0 (((((w13.setCell ⟨gb297, 0, none⟩ (.string ((rd_T68 l0_1 x18_1).f0))).setCell ⟨gb297, 1, none⟩ (.int .i64 ((rd_T68 l0_1 x18_1).f1))).setCell ⟨gb297, 2, none⟩ (.int .i64 ((rd_T68 l0_1 x18_1).f2))).setCell ⟨gb297, 3, none⟩ (.slice A296_3 ((rd_T68 l0_1 x18_1).f3).length c296_3)).heap[gb292]? = some (.cells #[.slice A0_0 l0_0.length c0_0, .slice (some ad296) l0_1.length c0_1] 30 (0, 0))) := ⟨by (with_reducible repeat (first | refine blk_drewN ?_ _ | refine blk_drew ?_ | refine blk_alloc ?_ _)); refine blk_far ?_ NB292_297.out _; (with_reducible repeat (first | refine blk_drewN ?_ _ | refine blk_drew ?_ | refine blk_alloc ?_ _)); refine blk_far ?_ NB292_297.out _; (with_reducible repeat (first | refine blk_drewN ?_ _ | refine blk_drew ?_ | refine blk_alloc ?_ _)); refine blk_far ?_ NB292_297.out _; (with_reducible repeat (first | refine blk_drewN ?_ _ | refine blk_drew ?_ | refine blk_alloc ?_ _)); refine blk_far ?_ NB292_297.out _; (with_reducible repeat (first | refine blk_drewN ?_ _ | refine blk_drew ?_ | refine blk_alloc ?_ _)); exact BK292.out⟩
        have n2_ : Aside0 (((((w13.setCell ⟨gb297, 0, none⟩ (.string ((rd_T68 l0_1 x18_1).f0))).setCell ⟨gb297, 1, none⟩ (.int .i64 ((rd_T68 l0_1 x18_1).f1))).setCell ⟨gb297, 2, none⟩ (.int .i64 ((rd_T68 l0_1 x18_1).f2))).setCell ⟨gb297, 3, none⟩ (.slice A296_3 ((rd_T68 l0_1 x18_1).f3).length c296_3)).heap[gb297]? = some (.cells #[.string ((rd_T68 l0_1 x18_1).f0), .int .i64 ((rd_T68 l0_1 x18_1).f1), .int .i64 ((rd_T68 l0_1 x18_1).f2), .slice A296_3 ((rd_T68 l0_1 x18_1).f3).length c296_3] 68 (0, 0))) := ⟨by (with_reducible repeat (first | refine blk_drewN ?_ _ | refine blk_drew ?_ | refine blk_alloc ?_ _)); refine blk_put (cs := #[.string ((rd_T68 l0_1 x18_1).f0), .int .i64 ((rd_T68 l0_1 x18_1).f1), .int .i64 ((rd_T68 l0_1 x18_1).f2), .slice none 0 0]) ?_ 3 _ rfl; (with_reducible repeat (first | refine blk_drewN ?_ _ | refine blk_drew ?_ | refine blk_alloc ?_ _)); refine blk_put (cs := #[.string ((rd_T68 l0_1 x18_1).f0), .int .i64 ((rd_T68 l0_1 x18_1).f1), .int .i64 0, .slice none 0 0]) ?_ 2 _ rfl; (with_reducible repeat (first | refine blk_drewN ?_ _ | refine blk_drew ?_ | refine blk_alloc ?_ _)); refine blk_put (cs := #[.string ((rd_T68 l0_1 x18_1).f0), .int .i64 0, .int .i64 0, .slice none 0 0]) ?_ 1 _ rfl; (with_reducible repeat (first | refine blk_drewN ?_ _ | refine blk_drew ?_ | refine blk_alloc ?_ _)); refine blk_put (cs := #[.string (⟨#[]⟩ : ByteArray), .int .i64 0, .int .i64 0, .slice none 0 0]) ?_ 0 _ rfl; (with_reducible repeat (first | refine blk_drewN ?_ _ | refine blk_drew ?_ | refine blk_alloc ?_ _)); exact BK297.out⟩
        have n3_ : Aside0 (Below w.heap.size w ((((w13.setCell ⟨gb297, 0, none⟩ (.string ((rd_T68 l0_1 x18_1).f0))).setCell ⟨gb297, 1, none⟩ (.int .i64 ((rd_T68 l0_1 x18_1).f1))).setCell ⟨gb297, 2, none⟩ (.int .i64 ((rd_T68 l0_1 x18_1).f2))).setCell ⟨gb297, 3, none⟩ (.slice A296_3 ((rd_T68 l0_1 x18_1).f3).length c296_3))) := ⟨by repeat (first | (with_reducible first | exact HB.out | apply below_alloc | apply pw_below_drewN | apply below_drew1 | refine below_set ?_ GE292.out | refine below_set ?_ GE297.out) | exact HB.out)⟩
        (try clear HO_5)
        (try clear BK292)
        (try clear BK297)
        (try clear HB)
        generalize ((((w13.setCell ⟨gb297, 0, none⟩ (.string ((rd_T68 l0_1 x18_1).f0))).setCell ⟨gb297, 1, none⟩ (.int .i64 ((rd_T68 l0_1 x18_1).f1))).setCell ⟨gb297, 2, none⟩ (.int .i64 ((rd_T68 l0_1 x18_1).f2))).setCell ⟨gb297, 3, none⟩ (.slice A296_3 ((rd_T68 l0_1 x18_1).f3).length c296_3)) = w32 at n0_ n1_ n2_ n3_ ⊢
        have HO_5 := n0_
        have BK292 := n1_
        have BK297 := n2_
        have HB := n3_
        clear n0_ n1_ n2_ n3_
        have n0_ := Aside0.mk (Kd.R_drew HO_5.out)
        have n1_ := Aside0.mk (blk_drew BK292.out)
        have n2_ := Aside0.mk (blk_drew BK297.out)
        have n3_ := Aside0.mk (below_drew1 HB.out)
        clear HO_5
        clear BK292
        clear BK297
        clear HB
        have HO_5 := n0_
        have BK292 := n1_
        have BK297 := n2_
        have HB := n3_
        clear n0_ n1_ n2_ n3_
        refine start_ (n := 30) (S := fun w' => w'.cell? ⟨gb297, 0, none⟩ = some (.string ((rd_T68 l0_1 x18_1).f0)) ∧ w'.cell? ⟨gb297, 1, none⟩ = some (.int .i64 ((rd_T68 l0_1 x18_1).f1)) ∧ w'.cell? ⟨gb297, 2, none⟩ = some (.int .i64 ((rd_T68 l0_1 x18_1).f2)) ∧ w'.cell? ⟨gb297, 3, none⟩ = some (.slice A296_3 ((rd_T68 l0_1 x18_1).f3).length c296_3)) (ds := []) bv10_0 (by kernel_rfl) rfl rfl ⟨(blk_cell BK297.out 0).trans rfl, (blk_cell BK297.out 1).trans rfl, (blk_cell BK297.out 2).trans rfl, (blk_cell BK297.out 3).trans rfl⟩ (fun hHeld => ?_); refine with_tabW impl_bodiesOk.tab5 impl_bodiesOk.bits5 (fun HT_ HW_ => ?_)
        generalize w32.drew = w33 at HO_5 BK292 BK297 HB hHeld ⊢
        refine pure_ (i := 0) (N := some 22) (v := ?_) (a' := ?_) bv10_1 rfl rfl (any_of HT_.out (by kernel_rfl)) (fun _ _ _ h => h) (Or.inl ⟨by rfl, ?_⟩) ?_ ?_
        rotate_left; exact pw_; rotate_left; exact pz_
        refine take_ (i := 1) (N := some 23) (v := ?_) (a' := ?_) bv10_2 rfl rfl (take_ofW HT_.out HW_.out (by kernel_rfl)) (fun _ _ _ h => h) (Or.inl ⟨by rfl, ?_⟩) hHeld ?_ ?_
        rotate_left; exact pw4_; rotate_left; exact pz_
        refine one_ (i := 2) (N := some 24) bv10_3 rfl rfl (one_of HT_.out (by kernel_rfl)) (by decide) (fun K hK => ?_)
        refine goes_ Try.func99 (by kernel_rfl) rfl #[.string ((rd_T68 l0_1 x18_1).f0)] (by rfl) rfl rfl q1_ ?_
        with_reducible refine (impl_LineOk.calls ((rd_T68 l0_1 x18_1).f0) false _ A16.out).mono ?_
        rintro e w' ⟨rfl, ⟨nd, rfl⟩⟩
        refine ⟨_, rfl, ?_⟩
        refine hK.out _ _ ⟨(blk_cell BK297.out 0).trans rfl, (blk_cell BK297.out 1).trans rfl, (blk_cell BK297.out 2).trans rfl, (blk_cell BK297.out 3).trans rfl⟩ (fun hHeld => ?_)
        clear hK K
        refine norm_ (a' := ?_) ?_ ?_
        rotate_left
        ·show Act.put _ (some 24) _ = _
         simp only [Act.put, List.setIfInBounds_toArray, List.set_cons_zero, List.set_cons_succ, i64_w, i32_w]
         rfl
        refine pure_ (i := 3) (N := some 25) (v := ?_) (a' := ?_) bv10_4 rfl rfl (any_of HT_.out (by kernel_rfl)) (fun _ _ _ h => h) (Or.inl ⟨by rfl, ?_⟩) ?_ ?_
        rotate_left; exact pw_; rotate_left; exact pz_
        refine pure_ (i := 4) (N := some 26) (v := ?_) (a' := ?_) bv10_5 rfl rfl (any_of HT_.out (by kernel_rfl)) (fun _ _ _ h => h) (Or.inl ⟨by rfl, ?_⟩) ?_ ?_
        rotate_left; exact pw_; rotate_left; exact pz_
        refine pure_ (i := 5) (N := some 27) (v := undef) (a' := ?_) bv10_6 rfl rfl (any_of HT_.out (by kernel_rfl)) (fun _ _ _ h => h) (Or.inr ⟨by rfl, rfl⟩) ?_ ?_
        rotate_left; exact pz_
        refine pure_ (i := 6) (N := some 28) (v := undef) (a' := ?_) #[true, true, true, true, true, true, true, false, false, false, false, false, false, false, false, false, false, false, false, false, false, false, false, false, false, false, false, false, false, false] rfl rfl (any_of HT_.out (by kernel_rfl)) (fun _ _ _ h => h) (Or.inr ⟨by rfl, rfl⟩) ?_ ?_
        rotate_left; exact pz_
        refine pure_ (i := 7) (N := some 29) (v := undef) (a' := ?_) #[true, true, true, true, true, true, true, true, false, false, false, false, false, false, false, false, false, false, false, false, false, false, false, false, false, false, false, false, false, false] rfl rfl (any_of HT_.out (by kernel_rfl)) (fun _ _ _ h => h) (Or.inr ⟨by rfl, rfl⟩) ?_ ?_
        rotate_left; exact pz_
        refine pure_ (i := 8) (N := some 30) (v := undef) (a' := ?_) bv10_9 rfl rfl (any_of HT_.out (by kernel_rfl)) (fun _ _ _ h => h) (Or.inr ⟨by rfl, rfl⟩) ?_ ?_
        rotate_left; exact pz_
        refine pure_ (i := 9) (N := some 31) (v := undef) (a' := ?_) bv10_10 rfl rfl (any_of HT_.out (by kernel_rfl)) (fun _ _ _ h => h) (Or.inr ⟨by rfl, rfl⟩) ?_ ?_
        rotate_left; exact pz_
        refine pure_ (i := 10) (N := some 32) (v := undef) (a' := ?_) bv10_11 rfl rfl (any_of HT_.out (by kernel_rfl)) (fun _ _ _ h => h) (Or.inr ⟨by rfl, rfl⟩) ?_ ?_
        rotate_left; exact pz_
        refine pure_ (i := 11) (N := some 33) (v := ?_) (a' := ?_) bv10_12 rfl rfl (any_of HT_.out (by kernel_rfl)) (fun _ _ _ h => h) (Or.inl ⟨by rfl, ?_⟩) ?_ ?_
        rotate_left; exact pw_; rotate_left; exact pz_
        refine pure_ (i := 12) (N := some 34) (v := ?_) (a' := ?_) bv10_13 rfl rfl (any_of HT_.out (by kernel_rfl)) (fun _ _ _ h => h) (Or.inl ⟨by rfl, ?_⟩) ?_ ?_
        rotate_left; exact pw_; rotate_left; exact pz_
        refine pure_ (i := 13) (N := some 35) (v := undef) (a' := ?_) bv10_14 rfl rfl (any_of HT_.out (by kernel_rfl)) (fun _ _ _ h => h) (Or.inr ⟨by rfl, rfl⟩) ?_ ?_
        rotate_left; exact pz_
        refine pure_ (i := 14) (N := some 36) (v := undef) (a' := ?_) bv10_31 rfl rfl (any_of HT_.out (by kernel_rfl)) (fun _ _ _ h => h) (Or.inr ⟨by rfl, rfl⟩) ?_ ?_
        rotate_left; exact pz_
        refine pure_ (i := 15) (N := some 37) (v := undef) (a' := ?_) bv10_32 rfl rfl (any_of HT_.out (by kernel_rfl)) (fun _ _ _ h => h) (Or.inr ⟨by rfl, rfl⟩) ?_ ?_
        rotate_left; exact pz_
        refine pure_ (i := 16) (N := some 38) (v := undef) (a' := ?_) bv10_17 rfl rfl (any_of HT_.out (by kernel_rfl)) (fun _ _ _ h => h) (Or.inr ⟨by rfl, rfl⟩) ?_ ?_
        rotate_left; exact pz_
        refine pure_ (i := 17) (N := some 39) (v := undef) (a' := ?_) bv10_18 rfl rfl (any_of HT_.out (by kernel_rfl)) (fun _ _ _ h => h) (Or.inr ⟨by rfl, rfl⟩) ?_ ?_
        rotate_left; exact pz_
        refine pure_ (i := 18) (N := some 40) (v := undef) (a' := ?_) bv10_19 rfl rfl (any_of HT_.out (by kernel_rfl)) (fun _ _ _ h => h) (Or.inr ⟨by rfl, rfl⟩) ?_ ?_
        rotate_left; exact pz_
        refine pure_ (i := 19) (N := some 41) (v := undef) (a' := ?_) bv10_20 rfl rfl (any_of HT_.out (by kernel_rfl)) (fun _ _ _ h => h) (Or.inr ⟨by rfl, rfl⟩) ?_ ?_
        rotate_left; exact pz_
        refine pure_ (i := 20) (N := some 42) (v := undef) (a' := ?_) bv10_21 rfl rfl (any_of HT_.out (by kernel_rfl)) (fun _ _ _ h => h) (Or.inr ⟨by rfl, rfl⟩) ?_ ?_
        rotate_left; exact pz_
        refine pure_ (i := 21) (N := some 43) (v := ?_) (a' := ?_) bv10_22 rfl rfl (any_of HT_.out (by kernel_rfl)) (fun _ _ _ h => h) (Or.inl ⟨by rfl, ?_⟩) ?_ ?_
        rotate_left; exact pw_; rotate_left; exact pz_
        refine pure_ (i := 22) (N := some 44) (v := ?_) (a' := ?_) bv10_23 rfl rfl (any_of HT_.out (by kernel_rfl)) (fun _ _ _ h => h) (Or.inl ⟨by rfl, ?_⟩) ?_ ?_
        rotate_left; exact pw_; rotate_left; exact pz_
        refine pure_ (i := 23) (N := some 45) (v := undef) (a' := ?_) bv10_24 rfl rfl (any_of HT_.out (by kernel_rfl)) (fun _ _ _ h => h) (Or.inr ⟨by rfl, rfl⟩) ?_ ?_
        rotate_left; exact pz_
        refine pure_ (i := 24) (N := some 46) (v := undef) (a' := ?_) bv10_29 rfl rfl (any_of HT_.out (by kernel_rfl)) (fun _ _ _ h => h) (Or.inr ⟨by rfl, rfl⟩) ?_ ?_
        rotate_left; exact pz_
        refine pure_ (i := 25) (N := some 47) (v := undef) (a' := ?_) bv10_30 rfl rfl (any_of HT_.out (by kernel_rfl)) (fun _ _ _ h => h) (Or.inr ⟨by rfl, rfl⟩) ?_ ?_
        rotate_left; exact pz_
        refine pure_ (i := 26) (N := some 48) (v := undef) (a' := ?_) bv10_25 rfl rfl (any_of HT_.out (by kernel_rfl)) (fun _ _ _ h => h) (Or.inr ⟨by rfl, rfl⟩) ?_ ?_
        rotate_left; exact pz_
        refine pure_ (i := 27) (N := some 49) (v := undef) (a' := ?_) bv10_26 rfl rfl (any_of HT_.out (by kernel_rfl)) (fun _ _ _ h => h) (Or.inr ⟨by rfl, rfl⟩) ?_ ?_
        rotate_left; exact pz_
        refine pure_ (i := 28) (N := some 50) (v := undef) (a' := ?_) bv10_27 rfl rfl (any_of HT_.out (by kernel_rfl)) (fun _ _ _ h => h) (Or.inr ⟨by rfl, rfl⟩) ?_ ?_
        rotate_left; exact pz_
        refine pure_ (i := 29) (N := some 51) (v := ?_) (a' := ?_) bv10_28 rfl rfl (any_of HT_.out (by kernel_rfl)) (fun _ _ _ h => h) (Or.inl ⟨by rfl, ?_⟩) ?_ ?_
        rotate_left; exact pw_; rotate_left; exact pz_
        refine done_ (done_of HT_.out (by kernel_rfl)) ?_
        try go_wp2
        go_meet
        case rel => exact ⟨_, (true), q6_, H', ⟨by have := HK1.out; first | omega | exact Nat.le_refl _⟩, ⟨by (with_reducible repeat (first | apply Kd.R_alloc | apply Kd.R_drewN | apply Kd.R_drew)); exact HO_5.out⟩, ⟨by (with_reducible repeat (first | refine blk_drewN ?_ _ | refine blk_drew ?_ | refine blk_alloc ?_ _)); exact BK292.out⟩, ⟨by (with_reducible repeat (first | refine blk_drewN ?_ _ | refine blk_drew ?_ | refine blk_alloc ?_ _)); exact BK297.out⟩, ⟨by repeat (first | (with_reducible first | exact HB.out | apply below_alloc | apply pw_below_drewN | apply below_drew1 | refine below_set ?_ GE292.out | refine below_set ?_ GE297.out) | exact HB.out)⟩⟩
      case rest =>
       clear HC12
       try clear c1
       try clear c2
       try clear p2
       try clear c7
       try clear c9
       try clear c17
       try clear c19
       try clear c20
       try clear c21
       try clear c29
       obtain ⟨kq, x51_11, rfl, HA, HJ11, HO_5, BK292, BK297, HB⟩ := hcut
       cases kq with
       | zero => exact absurd HA.out (by simp [impl_bodiesOk.j1])
       | succ kj11 =>
        have H := HA.out
        clear HA
        simp only [impl_bodiesOk.j1] at H
        by_cases c34 : x51_11 = true
        ·subst c34
         have H1 : (some false) = some r := by rw [if_pos rfl] at H; exact H
         clear H
         have H := H1
         clear H1
         obtain rfl := Option.some.inj H
         go_wp2
         go_ret
         exact ⟨by first | rfl | (simp [errW_none, errW_some] <;> rfl) | (simp [*, errW_none, errW_some] <;> rfl), by repeat (first | (with_reducible first | exact HB.out | apply below_alloc | apply pw_below_drewN | apply below_drew1 | refine below_set ?_ GE292.out | refine below_set ?_ GE297.out) | exact HB.out)⟩
        ·replace c34 := Bool.eq_false_iff.mpr c34
         subst c34
         have H1 : (if 0 ≤ ((rd_T68 l0_1 x18_1).f1) then (if ((rd_T68 l0_1 x18_1).f1) < (x5_1.length : Int) then (impl_bodiesOk.l1 kj11 l1 (x5_1.set (((rd_T68 l0_1 x18_1).f1) : Int).toNat (wrap64 ((rd x5_1 ((rd_T68 l0_1 x18_1).f1)) + 1))) l0_1 (l0_1.length : Int) x18_1 ((rd_T68 l0_1 x18_1).f3) (((rd_T68 l0_1 x18_1).f3).length : Int) 0 l0_0 l0_1 ((rd_T68 l0_1 x18_1).f0) ((rd_T68 l0_1 x18_1).f1) ((rd_T68 l0_1 x18_1).f2) ((rd_T68 l0_1 x18_1).f3)) else (none)) else (none)) = some r := by rw [if_neg (show ¬ (false = true) by decide)] at H; exact H
         clear H
         have H := H1
         clear H1
         by_cases c35 : 0 ≤ ((rd_T68 l0_1 x18_1).f1)
         case neg =>
          rw [if_neg c35] at H
          exact absurd H (by simp)
         rw [if_pos c35] at H
         have c35b0 : decide (0 ≤ ((rd_T68 l0_1 x18_1).f1)) = true := decide_eq_true c35
         clear c35
         by_cases c36 : ((rd_T68 l0_1 x18_1).f1) < (x5_1.length : Int)
         case neg =>
          rw [if_neg c36] at H
          exact absurd H (by simp)
         rw [if_pos c36] at H
         have c36b0 : decide (((rd_T68 l0_1 x18_1).f1) < (x5_1.length : Int)) = true := decide_eq_true c36
         clear c36
         obtain ⟨y303, hy303⟩ : ∃ y_ : List Int, y_ = (x5_1.set (((rd_T68 l0_1 x18_1).f1) : Int).toNat (wrap64 ((rd x5_1 ((rd_T68 l0_1 x18_1).f1)) + 1))) := ⟨_, rfl⟩
         replace H : (impl_bodiesOk.l1 kj11 l1 y303 l0_1 (l0_1.length : Int) x18_1 ((rd_T68 l0_1 x18_1).f3) (((rd_T68 l0_1 x18_1).f3).length : Int) 0 l0_0 l0_1 ((rd_T68 l0_1 x18_1).f0) ((rd_T68 l0_1 x18_1).f1) ((rd_T68 l0_1 x18_1).f2) ((rd_T68 l0_1 x18_1).f3)) = some r := by first | (rw [hy303]; with_reducible exact H) | (have H2_ := (Option.bind_some _ _).symm.trans H; rw [hy303]; with_reducible exact H2_) | (have H2_ := (Option.bind_some _ _).symm.trans H; with_reducible exact H2_) | with_reducible exact H | (rw [hy303]; exact H) | exact H
         have Ny303 := Aside0.mk hy303
         clear hy303
         have H' := Aside0.mk H
         clear H
         have hnb38 := NB297_292.out
         have hnc38 := NB292_297.out
         have hcz39_0 : wc.cell? ⟨gb297, 0, none⟩ = some (.string ((rd_T68 l0_1 x18_1).f0)) := (blk_cell BK297.out 0).trans rfl
         have hcz39_1 : wc.cell? ⟨gb297, 1, none⟩ = some (.int .i64 ((rd_T68 l0_1 x18_1).f1)) := (blk_cell BK297.out 1).trans rfl
         have hcz39_2 : wc.cell? ⟨gb297, 2, none⟩ = some (.int .i64 ((rd_T68 l0_1 x18_1).f2)) := (blk_cell BK297.out 2).trans rfl
         have hcz39_3 : wc.cell? ⟨gb297, 3, none⟩ = some (.slice A296_3 ((rd_T68 l0_1 x18_1).f3).length c296_3) := (blk_cell BK297.out 3).trans rfl
         have hfz39_0 := blk_frozen BK297.out 0
         have hfz39_1 := blk_frozen BK297.out 1
         have hfz39_2 := blk_frozen BK297.out 2
         have hfz39_3 := blk_frozen BK297.out 3
         obtain ⟨Ao40, co40, eo40⟩ := Kd.R_slice HO_5.out
         subst eo40
         have p302 : 0 ≤ (((rd_T68 l0_1 x18_1).f1) : Int) := of_decide_eq_true q2_
         have q302 : ((rd_T68 l0_1 x18_1).f1) < (x5_1.length : Int) := of_decide_eq_true q2_
         obtain ⟨ad302, e302, hx302_0⟩ := Kd.at_int (Kd.R_reads' HO_5.out).2.2 ((rd_T68 l0_1 x18_1).f1) p302 q302
         cases e302
         replace p302 := eq_true p302
         replace q302 := eq_true q302
         have p37 : 0 ≤ (((rd_T68 l0_1 x18_1).f1) : Int) := of_decide_eq_true q2_
         have q37 : (((rd_T68 l0_1 x18_1).f1) : Int) < ((x5_1.length : Int) : Int) := of_decide_eq_true q2_
         obtain ⟨go37, co37, eo37, gb37, gl37, cl37, HG37⟩ := Kd.R_form HO_5.out (by omega)
         (first | cases eo37 | (injection eo37 with ea_ en_ ec_; (first | subst ea_ | (injection ea_ with ea_; subst ea_)); subst ec_; clear en_))
         have GB37 := Aside0.mk gb37
         have GG37 := Aside0.mk HG37
         clear gb37 gl37 HG37
         (first | simp only [add_plain] at hx302_0 | skip)
         obtain ⟨hx37_0, hf37_0⟩ := Kd.R_celln 0 HO_5.out (((rd_T68 l0_1 x18_1).f1) : Int) p37 q37
         replace p37 := eq_true p37
         replace q37 := eq_true q37
         have HP41 := Kd.R_putg HO_5.out (((rd_T68 l0_1 x18_1).f1) : Int) (wrap64 ((rd x5_1 ((rd_T68 l0_1 x18_1).f1)) + 1))
         go_wp2_with (first | ((with_reducible refine gate_store (t := 3) (p := 58) rfl ?_); refine store_event (t := 3) (p := 58) (v := ?vo_w42) (w1 := (wc.setCell ⟨go37, (((rd_T68 l0_1 x18_1).f1) : Int).toNat, none⟩ (.int .i64 (wrap64 ((rd x5_1 ((rd_T68 l0_1 x18_1).f1)) + 1))))) ?hg ?ho ?hn ?hr ?_; (case ho => rfl); (case hg => rfl); (case hn => rfl); (case hr => first | (go_simp; done) | (go_simp; rfl)); intro w42 hw; have hg : wc.grownBy w42 (some go37) := (by rw [hw]; exact HP41.2); have hp_ : Kd.R (Kd.int .i64) 3 w42 w.heap.size (fun _ => True) (.slice (some ⟨go37, 0, none⟩) x5_1.length co40) y303 := (by rw [hw, Ny303.out]; exact HP41.1); clear HP41; have n0_ := Aside0.mk (hp_); have n1_ := Aside0.mk (blk_grown (g := gb292) (o := .cells #[.slice A0_0 l0_0.length c0_0, .slice (some ad296) l0_1.length c0_1] 30 (0, 0)) q24_ hg (Kd.R_ne HO_5.out BK292.out (by decide))); have n2_ := Aside0.mk (blk_grown (g := gb297) (o := .cells #[.string ((rd_T68 l0_1 x18_1).f0), .int .i64 ((rd_T68 l0_1 x18_1).f1), .int .i64 ((rd_T68 l0_1 x18_1).f2), .slice A296_3 ((rd_T68 l0_1 x18_1).f3).length c296_3] 68 (0, 0)) (by (with_reducible repeat (first | refine blk_drewN ?_ _ | refine blk_drew ?_ | refine blk_alloc ?_ _)); exact BK297.out) hg (Kd.R_ne HO_5.out BK297.out (by decide))); have n3_ := Aside0.mk ((by rw [hw]; exact below_set (HB.out) GB37.out : Below w.heap.size w w42)); clear HO_5; clear BK292; clear BK297; clear HB; have HO_5 := n0_; have BK292 := n1_; have BK297 := n2_; have HB := n3_; clear n0_ n1_ n2_ n3_; clear hg hw hp_; have hcz43_0 : w42.cell? ⟨gb297, 0, none⟩ = some (.string ((rd_T68 l0_1 x18_1).f0)) := (blk_cell BK297.out 0).trans rfl; have hcz43_1 : w42.cell? ⟨gb297, 1, none⟩ = some (.int .i64 ((rd_T68 l0_1 x18_1).f1)) := (blk_cell BK297.out 1).trans rfl; have hcz43_2 : w42.cell? ⟨gb297, 2, none⟩ = some (.int .i64 ((rd_T68 l0_1 x18_1).f2)) := (blk_cell BK297.out 2).trans rfl; have hcz43_3 : w42.cell? ⟨gb297, 3, none⟩ = some (.slice A296_3 ((rd_T68 l0_1 x18_1).f3).length c296_3) := (blk_cell BK297.out 3).trans rfl; have hfz43_0 := blk_frozen BK297.out 0; have hfz43_1 := blk_frozen BK297.out 1; have hfz43_2 := blk_frozen BK297.out 2; have hfz43_3 := blk_frozen BK297.out 3))
         go_loopg [62] kj11 (fun kq v62 w' => ∃ (x62_3 : Int), v62 = .int .i64 x62_3 ∧ Aside0 (impl_bodiesOk.l1 kq l1 y303 l0_1 (l0_1.length : Int) x18_1 ((rd_T68 l0_1 x18_1).f3) (((rd_T68 l0_1 x18_1).f3).length : Int) x62_3 l0_0 l0_1 ((rd_T68 l0_1 x18_1).f0) ((rd_T68 l0_1 x18_1).f1) ((rd_T68 l0_1 x18_1).f2) ((rd_T68 l0_1 x18_1).f3) = some r) ∧ Aside0 (kq ≤ kj11) ∧ Aside0 (Kd.R (Kd.int .i64) 3 w' w.heap.size (fun _ => True) (.slice (some ⟨go37, 0, none⟩) x5_1.length co40) y303) ∧ Aside0 (w'.heap[gb292]? = some (.cells #[(.slice A0_0 l0_0.length c0_0), (.slice (some ad296) l0_1.length c0_1)] 30 (0, 0))) ∧ Aside0 (w'.heap[gb297]? = some (.cells #[.string ((rd_T68 l0_1 x18_1).f0), .int .i64 ((rd_T68 l0_1 x18_1).f1), .int .i64 ((rd_T68 l0_1 x18_1).f2), (.slice A296_3 ((rd_T68 l0_1 x18_1).f3).length c296_3)] 68 (0, 0))) ∧ Aside0 (Below w.heap.size w w'))
         case atStart => exact ⟨(0), q6_, H', ⟨Nat.le_refl _⟩, ⟨by (with_reducible repeat (first | apply Kd.R_alloc | apply Kd.R_drewN | apply Kd.R_drew)); exact HO_5.out⟩, ⟨by (with_reducible repeat (first | refine blk_drewN ?_ _ | refine blk_drew ?_ | refine blk_alloc ?_ _)); exact BK292.out⟩, ⟨by (with_reducible repeat (first | refine blk_drewN ?_ _ | refine blk_drew ?_ | refine blk_alloc ?_ _)); exact BK297.out⟩, ⟨by repeat (first | (with_reducible first | exact HB.out | apply below_alloc | apply pw_below_drewN | apply below_drew1 | refine below_set ?_ GE292.out | refine below_set ?_ GE297.out) | exact HB.out)⟩⟩
         case round =>
          clear H'
          try clear c1
          try clear c2
          try clear p2
          try clear c3
          try clear p3
          try clear q3
          try clear hx3
          try clear hf3
          try clear p6
          try clear c7
          try clear c9
          try clear c17
          try clear c19
          try clear c20
          try clear c21
          try clear c29
          try clear p30
          try clear q30
          try clear hx30
          try clear c34
          try clear c35
          try clear c35b0
          try clear c36
          try clear c36b0
          try clear p37
          try clear q37
          try clear hx37
          try clear hf37
          try clear c38
          try clear hcz39_0
          try clear hcz39_1
          try clear hcz39_2
          try clear hcz39_3
          try clear hcz43_0
          try clear hcz43_1
          try clear hcz43_2
          try clear hcz43_3
          try clear hfz39_0
          try clear hfz39_1
          try clear hfz39_2
          try clear hfz39_3
          try clear hfz43_0
          try clear hfz43_1
          try clear hfz43_2
          try clear hfz43_3
          try clear hx302_0
          try clear hx37_0
          try clear p2
          try clear p302
          try clear p37
          try clear q302
          try clear q37
          obtain ⟨x62_3, rfl, HA, HK3, HO_5, BK292, BK297, HB⟩ := hrel
          have hl5_3 := (Kd.R_reads' HO_5.out).1
          rw [hl5_3] at HO_5
          (try simp only [hl5_3])
          (try simp only [hl5_3] at BK292)
          (try simp only [hl5_3] at BK297)
          cases gk with
          | zero => exact absurd HA.out (by simp [impl_bodiesOk.l1])
          | succ k3 =>
           have H := HA.out
           clear HA
           simp only [impl_bodiesOk.l1] at H
           by_cases c44 : x62_3 < (((rd_T68 l0_1 x18_1).f3).length : Int)
           ·rw [if_pos c44] at H
            have c44b0 : decide (x62_3 < (((rd_T68 l0_1 x18_1).f3).length : Int)) = true := decide_eq_true c44
            clear c44
            by_cases c45 : 0 ≤ x62_3
            case neg =>
             rw [if_neg c45] at H
             exact absurd H (by simp)
            rw [if_pos c45] at H
            have c45b0 : decide (0 ≤ x62_3) = true := decide_eq_true c45
            clear c45
            by_cases c46 : x62_3 < (((rd_T68 l0_1 x18_1).f3).length : Int)
            case neg =>
             rw [if_neg c46] at H
             exact absurd H (by simp)
            rw [if_pos c46] at H
            have c46b0 : decide (x62_3 < (((rd_T68 l0_1 x18_1).f3).length : Int)) = true := decide_eq_true c46
            clear c46
            by_cases c47 : 0 ≤ (rd ((rd_T68 l0_1 x18_1).f3) x62_3)
            case neg =>
             rw [if_neg c47] at H
             exact absurd H (by simp)
            rw [if_pos c47] at H
            have c47b0 : decide (0 ≤ (rd ((rd_T68 l0_1 x18_1).f3) x62_3)) = true := decide_eq_true c47
            clear c47
            by_cases c48 : (rd ((rd_T68 l0_1 x18_1).f3) x62_3) < (l0_0.length : Int)
            case neg =>
             rw [if_neg c48] at H
             exact absurd H (by simp)
            rw [if_pos c48] at H
            have c48b0 : decide ((rd ((rd_T68 l0_1 x18_1).f3) x62_3) < (l0_0.length : Int)) = true := decide_eq_true c48
            clear c48
            replace H := Option.bind_eq_some_iff.mp H
            obtain ⟨t306, A490, H⟩ := H
            replace H : ((impl_Body_isLive.f k3 ((rd_T68 l0_1 x18_1).f0) ((rd_T68 l0_1 x18_1).f1) ((rd_T68 l0_1 x18_1).f2) ((rd_T68 l0_1 x18_1).f3) t306).bind fun t307 => (if t307 = true then (impl_bodiesOk.l1 k3 l1 y303 l0_1 (l0_1.length : Int) x18_1 ((rd_T68 l0_1 x18_1).f3) (((rd_T68 l0_1 x18_1).f3).length : Int) (wrap64 (x62_3 + 1)) l0_0 l0_1 ((rd_T68 l0_1 x18_1).f0) ((rd_T68 l0_1 x18_1).f1) ((rd_T68 l0_1 x18_1).f2) ((rd_T68 l0_1 x18_1).f3)) else (some false))) = some r := H
            have A49 := Aside0.mk A490
            clear A490
            replace H := Option.bind_eq_some_iff.mp H
            obtain ⟨t307, A500, H⟩ := H
            replace H : (if t307 = true then (impl_bodiesOk.l1 k3 l1 y303 l0_1 (l0_1.length : Int) x18_1 ((rd_T68 l0_1 x18_1).f3) (((rd_T68 l0_1 x18_1).f3).length : Int) (wrap64 (x62_3 + 1)) l0_0 l0_1 ((rd_T68 l0_1 x18_1).f0) ((rd_T68 l0_1 x18_1).f1) ((rd_T68 l0_1 x18_1).f2) ((rd_T68 l0_1 x18_1).f3)) else (some false)) = some r := H
            have A50 := Aside0.mk A500
            clear A500
            by_cases c51 : t307 = true
            ·subst c51
             have H1 : (impl_bodiesOk.l1 k3 l1 y303 l0_1 (l0_1.length : Int) x18_1 ((rd_T68 l0_1 x18_1).f3) (((rd_T68 l0_1 x18_1).f3).length : Int) (wrap64 (x62_3 + 1)) l0_0 l0_1 ((rd_T68 l0_1 x18_1).f0) ((rd_T68 l0_1 x18_1).f1) ((rd_T68 l0_1 x18_1).f2) ((rd_T68 l0_1 x18_1).f3)) = some r := by rw [if_pos rfl] at H; exact H
             clear H
             have H := H1
             clear H1
             have H' := Aside0.mk H
             clear H
             have p304 : 0 ≤ (x62_3 : Int) := of_decide_eq_true q2_
             have q304 : x62_3 < (((rd_T68 l0_1 x18_1).f3).length : Int) := of_decide_eq_true q2_
             obtain ⟨ad304, e304, hx304_0⟩ := Kd.at_int HR296_3.out x62_3 p304 q304
             cases e304
             replace hx304_0 := (HB.out.cell (World.block_lt_of_cell? w _ hx304_0)).trans hx304_0
             replace p304 := eq_true p304
             replace q304 := eq_true q304
             try go_wp2
             have n0_ := Aside0.mk (Kd.R_drew HO_5.out)
             have n1_ := Aside0.mk (blk_drew BK292.out)
             have n2_ := Aside0.mk (blk_drew BK297.out)
             have n3_ := Aside0.mk (below_drew1 HB.out)
             clear HO_5
             clear BK292
             clear BK297
             clear HB
             have HO_5 := n0_
             have BK292 := n1_
             have BK297 := n2_
             have HB := n3_
             clear n0_ n1_ n2_ n3_
             have p305 : 0 ≤ ((rd ((rd_T68 l0_1 x18_1).f3) x62_3) : Int) := of_decide_eq_true q2_
             have q305 : (rd ((rd_T68 l0_1 x18_1).f3) x62_3) < (l0_0.length : Int) := of_decide_eq_true q2_
             obtain ⟨ad305, A305_0, c305_0, e305, hx305_0, hl305_0, hi305_0⟩ := at_L1 HR0_0.out (rd ((rd_T68 l0_1 x18_1).f3) x62_3) p305 q305
             have hw305_0 := hx305_0
             cases e305
             replace hx305_0 := (HB.out.cell (World.block_lt_of_cell? w _ hx305_0)).trans hx305_0
             have HR305_0 := Aside0.mk hi305_0
             have HC305_0 := Aside0.mk hl305_0
             clear hi305_0 hl305_0
             replace p305 := eq_true p305
             replace q305 := eq_true q305
             refine start_ (n := 10) (S := fun w' => w'.cell? ⟨gb297, 0, none⟩ = some (.string ((rd_T68 l0_1 x18_1).f0)) ∧ w'.cell? ⟨gb297, 1, none⟩ = some (.int .i64 ((rd_T68 l0_1 x18_1).f1)) ∧ w'.cell? ⟨gb297, 2, none⟩ = some (.int .i64 ((rd_T68 l0_1 x18_1).f2)) ∧ w'.cell? ⟨gb297, 3, none⟩ = some (.slice (some ad304) ((rd_T68 l0_1 x18_1).f3).length c296_3) ∧ w'.cell? ⟨gb292, 0, none⟩ = some (.slice (some ad305) l0_0.length c0_0) ∧ w'.cell? ⟨gb292, 1, none⟩ = some (.slice (some ad296) l0_1.length c0_1) ∧ w'.cell? (ad305.add ((rd ((rd_T68 l0_1 x18_1).f3) x62_3)).toNat) = some (.slice A305_0 (rd_L1 l0_0 (rd ((rd_T68 l0_1 x18_1).f3) x62_3)).length c305_0)) (ds := []) #[false, false, false, false, false, false, false, false, false, false] (by kernel_rfl) rfl rfl ⟨(blk_cell BK297.out 0).trans rfl, (blk_cell BK297.out 1).trans rfl, (blk_cell BK297.out 2).trans rfl, (blk_cell BK297.out 3).trans rfl, (blk_cell BK292.out 0).trans rfl, (blk_cell BK292.out 1).trans rfl, ((HB.out.cell (World.block_lt_of_cell? w _ hw305_0)).trans hw305_0)⟩ (fun hHeld => ?_); refine with_tabW impl_bodiesOk.tab11 impl_bodiesOk.bits11 (fun HT_ HW_ => ?_)
             generalize wr.drew = w52 at HO_5 BK292 BK297 HB HR305_0 hx305_0 hHeld ⊢
             refine pure_ (i := 1) (N := some 67) (v := ?_) (a' := ?_) #[false, true, false, false, false, false, false, false, false, false] rfl rfl (any_of HT_.out (by kernel_rfl)) (fun _ _ _ h => h) (Or.inl ⟨by rfl, ?_⟩) ?_ ?_
             rotate_left; exact pw_; rotate_left; exact pz_
             refine pure_ (i := 2) (N := some 68) (v := ?_) (a' := ?_) #[false, true, true, false, false, false, false, false, false, false] rfl rfl (any_of HT_.out (by kernel_rfl)) (fun _ _ _ h => h) (Or.inl ⟨by rfl, ?_⟩) ?_ ?_
             rotate_left; exact pw_; rotate_left; exact pz_
             refine pure_ (i := 4) (N := some 70) (v := ?_) (a' := ?_) #[false, true, true, false, true, false, false, false, false, false] rfl rfl (any_of HT_.out (by kernel_rfl)) (fun _ _ _ h => h) (Or.inl ⟨by rfl, ?_⟩) ?_ ?_
             rotate_left; exact pw_; rotate_left; exact pz_
             refine take_ (i := 0) (N := some 66) (v := ?_) (a' := ?_) #[true, true, true, false, true, false, false, false, false, false] rfl rfl (take_ofW HT_.out HW_.out (by kernel_rfl)) (fun _ _ _ h => h) (Or.inl ⟨by rfl, ?_⟩) hHeld ?_ ?_
             rotate_left; exact pw7_; rotate_left; exact pz_
             refine take_ (i := 3) (N := some 69) (v := ?_) (a' := ?_) #[true, true, true, true, true, false, false, false, false, false] rfl rfl (take_ofW HT_.out HW_.out (by kernel_rfl)) (fun _ _ _ h => h) (Or.inl ⟨by rfl, ?_⟩) hHeld ?_ ?_
             rotate_left; exact pw7_; rotate_left; exact pz_
             refine pure_ (i := 5) (N := some 71) (v := ?_) (a' := ?_) #[true, true, true, true, true, true, false, false, false, false] rfl rfl (any_of HT_.out (by kernel_rfl)) (fun _ _ _ h => h) (Or.inl ⟨by rfl, ?_⟩) ?_ ?_
             rotate_left; exact pw_; rotate_left; exact pz_
             refine take_ (i := 6) (N := some 72) (v := ?_) (a' := ?_) #[true, true, true, true, true, true, true, false, false, false] rfl rfl (take_ofW HT_.out HW_.out (by kernel_rfl)) (fun _ _ _ h => h) (Or.inl ⟨by rfl, ?_⟩) hHeld ?_ ?_
             rotate_left; exact pw7_; rotate_left; exact pz_
             refine one_ (i := 7) (N := some 73) #[true, true, true, true, true, true, true, true, false, false] rfl rfl (one_of HT_.out (by kernel_rfl)) (by decide) (fun K hK => ?_)
             refine goes_ Try.func85 (by kernel_rfl) rfl #[.slice A1 l1.length c1, .slice A305_0 (rd_L1 l0_0 (rd ((rd_T68 l0_1 x18_1).f3) x62_3)).length c305_0] (by rfl) rfl rfl q1_ ?_
             with_reducible refine (impl_unionOf.calls k3 _ _ l1 _ _ (rd_L1 l0_0 (rd ((rd_T68 l0_1 x18_1).f3) x62_3)) t306 _ ?side1 ?side2 ?side3 ?side4 A49.out).mono ?_
             (case side1 => exact q35_)
             (case side2 => exact HC1.out)
             (case side3 => exact (by repeat (first | exact (Kd.C_below HR305_0.out HB.out) | (with_reducible refine Kd.C_alloc ?_ _) | (with_reducible refine Kd.C_drewN ?_ _) | (with_reducible refine Kd.C_drew ?_))))
             (case side4 => exact HC305_0.out)
             rintro e w' ⟨rfl, ⟨nd, rfl⟩⟩
             refine ⟨_, rfl, ?_⟩
             refine hK.out _ _ ⟨(blk_cell BK297.out 0).trans rfl, (blk_cell BK297.out 1).trans rfl, (blk_cell BK297.out 2).trans rfl, (blk_cell BK297.out 3).trans rfl, (blk_cell BK292.out 0).trans rfl, (blk_cell BK292.out 1).trans rfl, ((HB.out.cell (World.block_lt_of_cell? w _ hw305_0)).trans hw305_0)⟩ (fun hHeld => ?_)
             clear hK K
             refine norm_ (a' := ?_) ?_ ?_
             rotate_left
             ·show Act.put _ (some 73) _ = _
              simp only [Act.put, List.setIfInBounds_toArray, List.set_cons_zero, List.set_cons_succ, i64_w, i32_w]
              rfl
             refine one_ (i := 8) (N := some 74) #[true, true, true, true, true, true, true, true, true, false] rfl rfl (one_of HT_.out (by kernel_rfl)) (by decide) (fun K hK => ?_)
             refine goes_ Try.func68 (by kernel_rfl) rfl #[.agg #[.string ((rd_T68 l0_1 x18_1).f0), .int .i64 ((rd_T68 l0_1 x18_1).f1), .int .i64 ((rd_T68 l0_1 x18_1).f2), .slice (some ad304) ((rd_T68 l0_1 x18_1).f3).length c296_3], .int .u64 t306] (by rfl) rfl rfl q1_ ?_
             with_reducible refine (impl_Body_isLive.calls k3 ((rd_T68 l0_1 x18_1).f0) ((rd_T68 l0_1 x18_1).f1) ((rd_T68 l0_1 x18_1).f2) _ _ ((rd_T68 l0_1 x18_1).f3) t306 true _ ?side1 ?side2 A50.out).mono ?_
             (case side1 => exact q33_)
             (case side2 => exact HC296_3.out)
             rintro e w53 ⟨rfl, hb⟩
             refine ⟨_, rfl, ?_⟩
             have n0_ := Aside0.mk (Kd.R_below q16_ hb)
             have n1_ := Aside0.mk (blk_below (g := gb292) (o := .cells #[.slice (some ad305) l0_0.length c0_0, .slice (some ad296) l0_1.length c0_1] 30 (0, 0)) q24_ hb)
             have n2_ := Aside0.mk (blk_below (g := gb297) (o := .cells #[.string ((rd_T68 l0_1 x18_1).f0), .int .i64 ((rd_T68 l0_1 x18_1).f1), .int .i64 ((rd_T68 l0_1 x18_1).f2), .slice (some ad304) ((rd_T68 l0_1 x18_1).f3).length c296_3] 68 (0, 0)) (by (with_reducible repeat (first | refine blk_drewN ?_ _ | refine blk_drew ?_ | refine blk_alloc ?_ _)); exact BK297.out) hb)
             have n3_ := Aside0.mk (below_step q37_ hb)
             clear HO_5
             clear BK292
             clear BK297
             clear HB
             have HO_5 := n0_
             have BK292 := n1_
             have BK297 := n2_
             have HB := n3_
             clear n0_ n1_ n2_ n3_
             (try clear hb)
             (try clear hb2)
             (try clear hk)
             (try clear hi)
             refine hK.out _ _ ⟨(blk_cell BK297.out 0).trans rfl, (blk_cell BK297.out 1).trans rfl, (blk_cell BK297.out 2).trans rfl, (blk_cell BK297.out 3).trans rfl, (blk_cell BK292.out 0).trans rfl, (blk_cell BK292.out 1).trans rfl, ((HB.out.cell (World.block_lt_of_cell? w _ hw305_0)).trans hw305_0)⟩ (fun hHeld => ?_)
             clear hK K
             refine norm_ (a' := ?_) ?_ ?_
             rotate_left
             ·show Act.put _ (some 74) _ = _
              simp only [Act.put, List.setIfInBounds_toArray, List.set_cons_zero, List.set_cons_succ, i64_w, i32_w]
              rfl
             refine pure_ (i := 9) (N := some 75) (v := ?_) (a' := ?_) #[true, true, true, true, true, true, true, true, true, true] rfl rfl (any_of HT_.out (by kernel_rfl)) (fun _ _ _ h => h) (Or.inl ⟨by rfl, ?_⟩) ?_ ?_
             rotate_left; exact pw_; rotate_left; exact pz_
             refine done_ (done_of HT_.out (by kernel_rfl)) ?_
             try go_wp2
             (try simp only [← hl5_3])
             go_roundg k3
             case measure => have := HK1.out; have := HJ11.out; have := HK3.out; omega
             case rel => exact ⟨(wrap64 (x62_3 + 1)), q6_, H', ⟨by have := HK1.out; have := HJ11.out; have := HK3.out; omega⟩, ⟨by (try simp only [hl5_3]); (with_reducible repeat (first | apply Kd.R_alloc | apply Kd.R_drewN | apply Kd.R_drew)); exact HO_5.out⟩, ⟨by (try simp only [hl5_3]); (with_reducible repeat (first | refine blk_drewN ?_ _ | refine blk_drew ?_ | refine blk_alloc ?_ _)); exact BK292.out⟩, ⟨by (try simp only [hl5_3]); (with_reducible repeat (first | refine blk_drewN ?_ _ | refine blk_drew ?_ | refine blk_alloc ?_ _)); exact BK297.out⟩, ⟨by repeat (first | (with_reducible first | exact HB.out | apply below_alloc | apply pw_below_drewN | apply below_drew1 | refine below_set ?_ GE292.out | refine below_set ?_ GE297.out) | exact HB.out)⟩⟩
            ·replace c51 := Bool.eq_false_iff.mpr c51
             subst c51
             have H1 : (some false) = some r := by rw [if_neg (show ¬ (false = true) by decide)] at H; exact H
             clear H
             have H := H1
             clear H1
             obtain rfl := Option.some.inj H
             have p304 : 0 ≤ (x62_3 : Int) := of_decide_eq_true q2_
             have q304 : x62_3 < (((rd_T68 l0_1 x18_1).f3).length : Int) := of_decide_eq_true q2_
             obtain ⟨ad304, e304, hx304_0⟩ := Kd.at_int HR296_3.out x62_3 p304 q304
             cases e304
             replace hx304_0 := (HB.out.cell (World.block_lt_of_cell? w _ hx304_0)).trans hx304_0
             replace p304 := eq_true p304
             replace q304 := eq_true q304
             try go_wp2
             have n0_ := Aside0.mk (Kd.R_drew HO_5.out)
             have n1_ := Aside0.mk (blk_drew BK292.out)
             have n2_ := Aside0.mk (blk_drew BK297.out)
             have n3_ := Aside0.mk (below_drew1 HB.out)
             clear HO_5
             clear BK292
             clear BK297
             clear HB
             have HO_5 := n0_
             have BK292 := n1_
             have BK297 := n2_
             have HB := n3_
             clear n0_ n1_ n2_ n3_
             have p305 : 0 ≤ ((rd ((rd_T68 l0_1 x18_1).f3) x62_3) : Int) := of_decide_eq_true q2_
             have q305 : (rd ((rd_T68 l0_1 x18_1).f3) x62_3) < (l0_0.length : Int) := of_decide_eq_true q2_
             obtain ⟨ad305, A305_0, c305_0, e305, hx305_0, hl305_0, hi305_0⟩ := at_L1 HR0_0.out (rd ((rd_T68 l0_1 x18_1).f3) x62_3) p305 q305
             have hw305_0 := hx305_0
             cases e305
             replace hx305_0 := (HB.out.cell (World.block_lt_of_cell? w _ hx305_0)).trans hx305_0
             have HR305_0 := Aside0.mk hi305_0
             have HC305_0 := Aside0.mk hl305_0
             clear hi305_0 hl305_0
             replace p305 := eq_true p305
             replace q305 := eq_true q305
             refine start_ (n := 10) (S := fun w' => w'.cell? ⟨gb297, 0, none⟩ = some (.string ((rd_T68 l0_1 x18_1).f0)) ∧ w'.cell? ⟨gb297, 1, none⟩ = some (.int .i64 ((rd_T68 l0_1 x18_1).f1)) ∧ w'.cell? ⟨gb297, 2, none⟩ = some (.int .i64 ((rd_T68 l0_1 x18_1).f2)) ∧ w'.cell? ⟨gb297, 3, none⟩ = some (.slice (some ad304) ((rd_T68 l0_1 x18_1).f3).length c296_3) ∧ w'.cell? ⟨gb292, 0, none⟩ = some (.slice (some ad305) l0_0.length c0_0) ∧ w'.cell? ⟨gb292, 1, none⟩ = some (.slice (some ad296) l0_1.length c0_1) ∧ w'.cell? (ad305.add ((rd ((rd_T68 l0_1 x18_1).f3) x62_3)).toNat) = some (.slice A305_0 (rd_L1 l0_0 (rd ((rd_T68 l0_1 x18_1).f3) x62_3)).length c305_0)) (ds := []) #[false, false, false, false, false, false, false, false, false, false] (by kernel_rfl) rfl rfl ⟨(blk_cell BK297.out 0).trans rfl, (blk_cell BK297.out 1).trans rfl, (blk_cell BK297.out 2).trans rfl, (blk_cell BK297.out 3).trans rfl, (blk_cell BK292.out 0).trans rfl, (blk_cell BK292.out 1).trans rfl, ((HB.out.cell (World.block_lt_of_cell? w _ hw305_0)).trans hw305_0)⟩ (fun hHeld => ?_); refine with_tabW impl_bodiesOk.tab11 impl_bodiesOk.bits11 (fun HT_ HW_ => ?_)
             generalize wr.drew = w54 at HO_5 BK292 BK297 HB HR305_0 hx305_0 hHeld ⊢
             refine pure_ (i := 1) (N := some 67) (v := ?_) (a' := ?_) #[false, true, false, false, false, false, false, false, false, false] rfl rfl (any_of HT_.out (by kernel_rfl)) (fun _ _ _ h => h) (Or.inl ⟨by rfl, ?_⟩) ?_ ?_
             rotate_left; exact pw_; rotate_left; exact pz_
             refine pure_ (i := 2) (N := some 68) (v := ?_) (a' := ?_) #[false, true, true, false, false, false, false, false, false, false] rfl rfl (any_of HT_.out (by kernel_rfl)) (fun _ _ _ h => h) (Or.inl ⟨by rfl, ?_⟩) ?_ ?_
             rotate_left; exact pw_; rotate_left; exact pz_
             refine pure_ (i := 4) (N := some 70) (v := ?_) (a' := ?_) #[false, true, true, false, true, false, false, false, false, false] rfl rfl (any_of HT_.out (by kernel_rfl)) (fun _ _ _ h => h) (Or.inl ⟨by rfl, ?_⟩) ?_ ?_
             rotate_left; exact pw_; rotate_left; exact pz_
             refine take_ (i := 0) (N := some 66) (v := ?_) (a' := ?_) #[true, true, true, false, true, false, false, false, false, false] rfl rfl (take_ofW HT_.out HW_.out (by kernel_rfl)) (fun _ _ _ h => h) (Or.inl ⟨by rfl, ?_⟩) hHeld ?_ ?_
             rotate_left; exact pw7_; rotate_left; exact pz_
             refine take_ (i := 3) (N := some 69) (v := ?_) (a' := ?_) #[true, true, true, true, true, false, false, false, false, false] rfl rfl (take_ofW HT_.out HW_.out (by kernel_rfl)) (fun _ _ _ h => h) (Or.inl ⟨by rfl, ?_⟩) hHeld ?_ ?_
             rotate_left; exact pw7_; rotate_left; exact pz_
             refine pure_ (i := 5) (N := some 71) (v := ?_) (a' := ?_) #[true, true, true, true, true, true, false, false, false, false] rfl rfl (any_of HT_.out (by kernel_rfl)) (fun _ _ _ h => h) (Or.inl ⟨by rfl, ?_⟩) ?_ ?_
             rotate_left; exact pw_; rotate_left; exact pz_
             refine take_ (i := 6) (N := some 72) (v := ?_) (a' := ?_) #[true, true, true, true, true, true, true, false, false, false] rfl rfl (take_ofW HT_.out HW_.out (by kernel_rfl)) (fun _ _ _ h => h) (Or.inl ⟨by rfl, ?_⟩) hHeld ?_ ?_
             rotate_left; exact pw7_; rotate_left; exact pz_
             refine one_ (i := 7) (N := some 73) #[true, true, true, true, true, true, true, true, false, false] rfl rfl (one_of HT_.out (by kernel_rfl)) (by decide) (fun K hK => ?_)
             refine goes_ Try.func85 (by kernel_rfl) rfl #[.slice A1 l1.length c1, .slice A305_0 (rd_L1 l0_0 (rd ((rd_T68 l0_1 x18_1).f3) x62_3)).length c305_0] (by rfl) rfl rfl q1_ ?_
             with_reducible refine (impl_unionOf.calls k3 _ _ l1 _ _ (rd_L1 l0_0 (rd ((rd_T68 l0_1 x18_1).f3) x62_3)) t306 _ ?side1 ?side2 ?side3 ?side4 A49.out).mono ?_
             (case side1 => exact q35_)
             (case side2 => exact HC1.out)
             (case side3 => exact (by repeat (first | exact (Kd.C_below HR305_0.out HB.out) | (with_reducible refine Kd.C_alloc ?_ _) | (with_reducible refine Kd.C_drewN ?_ _) | (with_reducible refine Kd.C_drew ?_))))
             (case side4 => exact HC305_0.out)
             rintro e w' ⟨rfl, ⟨nd, rfl⟩⟩
             refine ⟨_, rfl, ?_⟩
             refine hK.out _ _ ⟨(blk_cell BK297.out 0).trans rfl, (blk_cell BK297.out 1).trans rfl, (blk_cell BK297.out 2).trans rfl, (blk_cell BK297.out 3).trans rfl, (blk_cell BK292.out 0).trans rfl, (blk_cell BK292.out 1).trans rfl, ((HB.out.cell (World.block_lt_of_cell? w _ hw305_0)).trans hw305_0)⟩ (fun hHeld => ?_)
             clear hK K
             refine norm_ (a' := ?_) ?_ ?_
             rotate_left
             ·show Act.put _ (some 73) _ = _
              simp only [Act.put, List.setIfInBounds_toArray, List.set_cons_zero, List.set_cons_succ, i64_w, i32_w]
              rfl
             refine one_ (i := 8) (N := some 74) #[true, true, true, true, true, true, true, true, true, false] rfl rfl (one_of HT_.out (by kernel_rfl)) (by decide) (fun K hK => ?_)
             refine goes_ Try.func68 (by kernel_rfl) rfl #[.agg #[.string ((rd_T68 l0_1 x18_1).f0), .int .i64 ((rd_T68 l0_1 x18_1).f1), .int .i64 ((rd_T68 l0_1 x18_1).f2), .slice (some ad304) ((rd_T68 l0_1 x18_1).f3).length c296_3], .int .u64 t306] (by rfl) rfl rfl q1_ ?_
             with_reducible refine (impl_Body_isLive.calls k3 ((rd_T68 l0_1 x18_1).f0) ((rd_T68 l0_1 x18_1).f1) ((rd_T68 l0_1 x18_1).f2) _ _ ((rd_T68 l0_1 x18_1).f3) t306 false _ ?side1 ?side2 A50.out).mono ?_
             (case side1 => exact q33_)
             (case side2 => exact HC296_3.out)
             rintro e w55 ⟨rfl, hb⟩
             refine ⟨_, rfl, ?_⟩
             have n0_ := Aside0.mk (Kd.R_below q16_ hb)
             have n1_ := Aside0.mk (blk_below (g := gb292) (o := .cells #[.slice (some ad305) l0_0.length c0_0, .slice (some ad296) l0_1.length c0_1] 30 (0, 0)) q24_ hb)
             have n2_ := Aside0.mk (blk_below (g := gb297) (o := .cells #[.string ((rd_T68 l0_1 x18_1).f0), .int .i64 ((rd_T68 l0_1 x18_1).f1), .int .i64 ((rd_T68 l0_1 x18_1).f2), .slice (some ad304) ((rd_T68 l0_1 x18_1).f3).length c296_3] 68 (0, 0)) (by (with_reducible repeat (first | refine blk_drewN ?_ _ | refine blk_drew ?_ | refine blk_alloc ?_ _)); exact BK297.out) hb)
             have n3_ := Aside0.mk (below_step q37_ hb)
             clear HO_5
             clear BK292
             clear BK297
             clear HB
             have HO_5 := n0_
             have BK292 := n1_
             have BK297 := n2_
             have HB := n3_
             clear n0_ n1_ n2_ n3_
             (try clear hb)
             (try clear hb2)
             (try clear hk)
             (try clear hi)
             refine hK.out _ _ ⟨(blk_cell BK297.out 0).trans rfl, (blk_cell BK297.out 1).trans rfl, (blk_cell BK297.out 2).trans rfl, (blk_cell BK297.out 3).trans rfl, (blk_cell BK292.out 0).trans rfl, (blk_cell BK292.out 1).trans rfl, ((HB.out.cell (World.block_lt_of_cell? w _ hw305_0)).trans hw305_0)⟩ (fun hHeld => ?_)
             clear hK K
             refine norm_ (a' := ?_) ?_ ?_
             rotate_left
             ·show Act.put _ (some 74) _ = _
              simp only [Act.put, List.setIfInBounds_toArray, List.set_cons_zero, List.set_cons_succ, i64_w, i32_w]
              rfl
             refine pure_ (i := 9) (N := some 75) (v := ?_) (a' := ?_) #[true, true, true, true, true, true, true, true, true, true] rfl rfl (any_of HT_.out (by kernel_rfl)) (fun _ _ _ h => h) (Or.inl ⟨by rfl, ?_⟩) ?_ ?_
             rotate_left; exact pw_; rotate_left; exact pz_
             refine done_ (done_of HT_.out (by kernel_rfl)) ?_
             try go_wp2
             go_ret
             exact ⟨by first | rfl | (simp [errW_none, errW_some] <;> rfl) | (simp [*, errW_none, errW_some] <;> rfl), by repeat (first | (with_reducible first | exact HB.out | apply below_alloc | apply pw_below_drewN | apply below_drew1 | refine below_set ?_ GE292.out | refine below_set ?_ GE297.out) | exact HB.out)⟩
           ·rw [if_neg c44] at H
            have c44b0 : decide (x62_3 < (((rd_T68 l0_1 x18_1).f3).length : Int)) = false := decide_eq_false c44
            clear c44
            have H' := Aside0.mk H
            clear H
            go_wp2
            (try simp only [← hl5_3])
            go_roundg k3
            case measure => have := HK1.out; have := HJ11.out; have := HK3.out; omega
            case rel => exact ⟨(y303), (wrap64 (x18_1 + 1)), q6_, H', ⟨by have := HK1.out; have := HJ11.out; have := HK3.out; omega⟩, ⟨by (try simp only [hl5_3]); (with_reducible repeat (first | apply Kd.R_alloc | apply Kd.R_drewN | apply Kd.R_drew)); exact HO_5.out⟩, ⟨by (try simp only [hl5_3]); (with_reducible repeat (first | refine blk_drewN ?_ _ | refine blk_drew ?_ | refine blk_alloc ?_ _)); exact BK292.out⟩, ⟨by repeat (first | (with_reducible first | exact HB.out | apply below_alloc | apply pw_below_drewN | apply below_drew1 | refine below_set ?_ GE292.out | refine below_set ?_ GE297.out) | exact HB.out)⟩⟩
     ·rw [if_neg c9] at H
      have c9b0 : decide (x18_1 < (l0_1.length : Int)) = false := decide_eq_false c9
      clear c9
      have H' := Aside0.mk H
      clear H
      go_wp2
      go_loopg [80] k1 (fun kq v80 w' => ∃ (x80_2 : Int), v80 = .int .i64 x80_2 ∧ Aside0 (impl_bodiesOk.l2 kq x5_1 l1 (l1.length : Int) x80_2 l0_0 l0_1 = some r) ∧ Aside0 (kq ≤ k1) ∧ Aside0 (Kd.R (Kd.int .i64) 3 w' w.heap.size (fun _ => True) v294 x5_1) ∧ Aside0 (w'.heap[gb292]? = some (.cells #[(.slice A0_0 l0_0.length c0_0), (.slice A0_1 l0_1.length c0_1)] 30 (0, 0))) ∧ Aside0 (Below w.heap.size w w'))
      case atStart => exact ⟨(0), q6_, H', ⟨Nat.le_refl _⟩, ⟨by (with_reducible repeat (first | apply Kd.R_alloc | apply Kd.R_drewN | apply Kd.R_drew)); exact HO_5.out⟩, ⟨by (with_reducible repeat (first | refine blk_drewN ?_ _ | refine blk_drew ?_ | refine blk_alloc ?_ _)); exact BK292.out⟩, ⟨by repeat (first | (with_reducible first | exact HB.out | apply below_alloc | apply pw_below_drewN | apply below_drew1 | refine below_set ?_ GE292.out) | exact HB.out)⟩⟩
      case round =>
       clear H'
       try clear c1
       try clear c2
       try clear p2
       try clear c3
       try clear p3
       try clear q3
       try clear hx3
       try clear hf3
       try clear c4
       try clear c5
       try clear c6
       try clear p6
       try clear c7
       try clear c8
       try clear c9
       try clear c9b0
       try clear c10
       try clear c11
       try clear c17
       try clear c19
       try clear c20
       try clear c21
       try clear c29
       try clear c30
       try clear p30
       try clear q30
       try clear hx30
       try clear c34
       try clear c35
       try clear c35b0
       try clear c36
       try clear c36b0
       try clear p37
       try clear q37
       try clear hx37
       try clear hf37
       try clear c38
       try clear c44
       try clear c44b0
       try clear c45
       try clear c45b0
       try clear c46
       try clear c46b0
       try clear c47
       try clear c47b0
       try clear c48
       try clear c48b0
       try clear c51
       try clear hcz39_0
       try clear hcz39_1
       try clear hcz39_2
       try clear hcz39_3
       try clear hcz43_0
       try clear hcz43_1
       try clear hcz43_2
       try clear hcz43_3
       try clear hfz39_0
       try clear hfz39_1
       try clear hfz39_2
       try clear hfz39_3
       try clear hfz43_0
       try clear hfz43_1
       try clear hfz43_2
       try clear hfz43_3
       try clear hx302_0
       try clear hx304_0
       try clear hx305_0
       try clear hx37_0
       try clear p2
       try clear p3
       try clear p30
       try clear p302
       try clear p304
       try clear p305
       try clear p37
       try clear p6
       try clear q3
       try clear q30
       try clear q302
       try clear q304
       try clear q305
       try clear q37
       obtain ⟨x80_2, rfl, HA, HK2, HO_5, BK292, HB⟩ := hrel
       cases gk with
       | zero => exact absurd HA.out (by simp [impl_bodiesOk.l2])
       | succ k2 =>
        have H := HA.out
        clear HA
        simp only [impl_bodiesOk.l2] at H
        by_cases c56 : x80_2 < (l1.length : Int)
        ·rw [if_pos c56] at H
         have c56b0 : decide (x80_2 < (l1.length : Int)) = true := decide_eq_true c56
         clear c56
         by_cases c57 : 0 ≤ x80_2
         case neg =>
          rw [if_neg c57] at H
          exact absurd H (by simp)
         rw [if_pos c57] at H
         have c57b0 : decide (0 ≤ x80_2) = true := decide_eq_true c57
         clear c57
         by_cases c58 : x80_2 < (l1.length : Int)
         case neg =>
          rw [if_neg c58] at H
          exact absurd H (by simp)
         rw [if_pos c58] at H
         have c58b0 : decide (x80_2 < (l1.length : Int)) = true := decide_eq_true c58
         clear c58
         by_cases c59 : x80_2 < (x5_1.length : Int)
         case neg =>
          rw [if_neg c59] at H
          exact absurd H (by simp)
         rw [if_pos c59] at H
         have c59b0 : decide (x80_2 < (x5_1.length : Int)) = true := decide_eq_true c59
         clear c59
         by_cases c60 : (rd x5_1 x80_2) > 80
         ·rw [if_pos c60] at H
          have c60b0 : decide (80 < (rd x5_1 x80_2)) = true := decide_eq_true c60
          clear c60
          obtain rfl := Option.some.inj H
          have p308 : 0 ≤ (x80_2 : Int) := of_decide_eq_true q2_
          have q308 : x80_2 < (l1.length : Int) := of_decide_eq_true q2_
          obtain ⟨ad308, e308, hx308_0⟩ := Kd.at_int HR1.out x80_2 p308 q308
          cases e308
          replace hx308_0 := (HB.out.cell (World.block_lt_of_cell? w _ hx308_0)).trans hx308_0
          replace p308 := eq_true p308
          replace q308 := eq_true q308
          obtain ⟨Ao61, co61, eo61⟩ := Kd.R_slice HO_5.out
          subst eo61
          have p309 : 0 ≤ (x80_2 : Int) := of_decide_eq_true q2_
          have q309 : x80_2 < (x5_1.length : Int) := of_decide_eq_true q2_
          obtain ⟨ad309, e309, hx309_0⟩ := Kd.at_int (Kd.R_reads' HO_5.out).2.2 x80_2 p309 q309
          cases e309
          replace p309 := eq_true p309
          replace q309 := eq_true q309
          go_wp2
          go_ret
          exact ⟨by first | rfl | (simp [errW_none, errW_some] <;> rfl) | (simp [*, errW_none, errW_some] <;> rfl), by repeat (first | (with_reducible first | exact HB.out | apply below_alloc | apply pw_below_drewN | apply below_drew1 | refine below_set ?_ GE292.out) | exact HB.out)⟩
         ·rw [if_neg c60] at H
          have c60b0 : decide (80 < (rd x5_1 x80_2)) = false := decide_eq_false c60
          clear c60
          replace H := Option.bind_eq_some_iff.mp H
          obtain ⟨t310, A620, H⟩ := H
          replace H : (if (t310.length : Int) > 80 then (some false) else (impl_bodiesOk.l2 k2 x5_1 l1 (l1.length : Int) (wrap64 (x80_2 + 1)) l0_0 l0_1)) = some r := H
          have A62 := Aside0.mk A620
          clear A620
          by_cases c63 : (t310.length : Int) > 80
          ·rw [if_pos c63] at H
           have c63b0 : decide (80 < (t310.length : Int)) = true := decide_eq_true c63
           have c63b1 : decide (80 < t310.length) = true := decide_eq_true (by omega)
           clear c63
           obtain rfl := Option.some.inj H
           have p308 : 0 ≤ (x80_2 : Int) := of_decide_eq_true q2_
           have q308 : x80_2 < (l1.length : Int) := of_decide_eq_true q2_
           obtain ⟨ad308, e308, hx308_0⟩ := Kd.at_int HR1.out x80_2 p308 q308
           cases e308
           replace hx308_0 := (HB.out.cell (World.block_lt_of_cell? w _ hx308_0)).trans hx308_0
           replace p308 := eq_true p308
           replace q308 := eq_true q308
           obtain ⟨Ao64, co64, eo64⟩ := Kd.R_slice HO_5.out
           subst eo64
           have p309 : 0 ≤ (x80_2 : Int) := of_decide_eq_true q2_
           have q309 : x80_2 < (x5_1.length : Int) := of_decide_eq_true q2_
           obtain ⟨ad309, e309, hx309_0⟩ := Kd.at_int (Kd.R_reads' HO_5.out).2.2 x80_2 p309 q309
           cases e309
           replace p309 := eq_true p309
           replace q309 := eq_true q309
           go_wp2_with (first | (go_at_call 69; (try simp only [i64_w]); (with_reducible refine (impl_Weave_liveIn.calls k2 gb292 A0_0 c0_0 l0_0 A0_1 c0_1 l0_1 (rd l1 x80_2) t310 _ ?side1 ?side2 ?side3 ?side4 ?side5 A62.out).mono ?_); (case side1 => exact q24_); (case side2 => exact q3_); (case side3 => exact HC0_0.out); (case side4 => exact q4_); (case side5 => exact HC0_1.out); rintro e w65 ⟨v311, rfl, ho0, hb⟩; have n0_ := Aside0.mk (Kd.R_elder' q16_ (Kd.R_base ho0) hb); have n1_ := Aside0.mk (Kd.R_lower (Kd.R_new' ho0 (Kd.R_lt q16_)) (below_size q19_)); have n2_ := Aside0.mk (blk_below (g := gb292) (o := .cells #[.slice A0_0 l0_0.length c0_0, .slice A0_1 l0_1.length c0_1] 30 (0, 0)) q24_ hb); have n3_ := Aside0.mk (below_step q19_ hb); clear HO_5; clear BK292; clear HB; have HO_5 := n0_; have HO312 := n1_; have BK292 := n2_; have HB := n3_; clear n0_ n1_ n2_ n3_; (try clear hb); (try clear hb2); (try clear hk); (try clear hi); (try clear ho0); obtain ⟨Ao66, co66, eo66⟩ := Kd.R_slice HO312.out; subst eo66))
           go_ret
           exact ⟨by first | rfl | (simp [errW_none, errW_some] <;> rfl) | (simp [*, errW_none, errW_some] <;> rfl), by repeat (first | (with_reducible first | exact HB.out | apply below_alloc | apply pw_below_drewN | apply below_drew1 | refine below_set ?_ GE292.out) | exact HB.out)⟩
          ·rw [if_neg c63] at H
           have c63b0 : decide (80 < (t310.length : Int)) = false := decide_eq_false c63
           have c63b1 : decide (80 < t310.length) = false := decide_eq_false (by omega)
           clear c63
           have H' := Aside0.mk H
           clear H
           have p308 : 0 ≤ (x80_2 : Int) := of_decide_eq_true q2_
           have q308 : x80_2 < (l1.length : Int) := of_decide_eq_true q2_
           obtain ⟨ad308, e308, hx308_0⟩ := Kd.at_int HR1.out x80_2 p308 q308
           cases e308
           replace hx308_0 := (HB.out.cell (World.block_lt_of_cell? w _ hx308_0)).trans hx308_0
           replace p308 := eq_true p308
           replace q308 := eq_true q308
           obtain ⟨Ao67, co67, eo67⟩ := Kd.R_slice HO_5.out
           subst eo67
           have p309 : 0 ≤ (x80_2 : Int) := of_decide_eq_true q2_
           have q309 : x80_2 < (x5_1.length : Int) := of_decide_eq_true q2_
           obtain ⟨ad309, e309, hx309_0⟩ := Kd.at_int (Kd.R_reads' HO_5.out).2.2 x80_2 p309 q309
           cases e309
           replace p309 := eq_true p309
           replace q309 := eq_true q309
           go_wp2_with (first | (go_at_call 69; (try simp only [i64_w]); (with_reducible refine (impl_Weave_liveIn.calls k2 gb292 A0_0 c0_0 l0_0 A0_1 c0_1 l0_1 (rd l1 x80_2) t310 _ ?side1 ?side2 ?side3 ?side4 ?side5 A62.out).mono ?_); (case side1 => exact q24_); (case side2 => exact q3_); (case side3 => exact HC0_0.out); (case side4 => exact q4_); (case side5 => exact HC0_1.out); rintro e w68 ⟨v311, rfl, ho0, hb⟩; have n0_ := Aside0.mk (Kd.R_elder' q16_ (Kd.R_base ho0) hb); have n1_ := Aside0.mk (Kd.R_lower (Kd.R_new' ho0 (Kd.R_lt q16_)) (below_size q19_)); have n2_ := Aside0.mk (blk_below (g := gb292) (o := .cells #[.slice A0_0 l0_0.length c0_0, .slice A0_1 l0_1.length c0_1] 30 (0, 0)) q24_ hb); have n3_ := Aside0.mk (below_step q19_ hb); clear HO_5; clear BK292; clear HB; have HO_5 := n0_; have HO312 := n1_; have BK292 := n2_; have HB := n3_; clear n0_ n1_ n2_ n3_; (try clear hb); (try clear hb2); (try clear hk); (try clear hi); (try clear ho0); obtain ⟨Ao69, co69, eo69⟩ := Kd.R_slice HO312.out; subst eo69))
           go_roundg k2
           case measure => have := HK1.out; have := HK2.out; omega
           case rel => exact ⟨(wrap64 (x80_2 + 1)), q6_, H', ⟨by have := HK1.out; have := HK2.out; omega⟩, ⟨by (with_reducible repeat (first | apply Kd.R_alloc | apply Kd.R_drewN | apply Kd.R_drew)); exact Kd.R_mono HO_5.out (fun _ hk => trivial)⟩, ⟨by (with_reducible repeat (first | refine blk_drewN ?_ _ | refine blk_drew ?_ | refine blk_alloc ?_ _)); exact BK292.out⟩, ⟨by repeat (first | (with_reducible first | exact HB.out | apply below_alloc | apply pw_below_drewN | apply below_drew1 | refine below_set ?_ GE292.out) | exact HB.out)⟩⟩
        ·rw [if_neg c56] at H
         have c56b0 : decide (x80_2 < (l1.length : Int)) = false := decide_eq_false c56
         clear c56
         obtain rfl := Option.some.inj H
         go_wp2
         go_ret
         exact ⟨by first | rfl | (simp [errW_none, errW_some] <;> rfl) | (simp [*, errW_none, errW_some] <;> rfl), by repeat (first | (with_reducible first | exact HB.out | apply below_alloc | apply pw_below_drewN | apply below_drew1 | refine below_set ?_ GE292.out) | exact HB.out)⟩
end Go.Proofs.Ytcgelllmdcnmfaa.PFnExactOldest
-- (flat)
-- (thin)
