-- Made by a program (the kit's print with additions of this session: wip/tools/patch_print.py, ext.py).
-- (turned)
import Derived.Test.YtcgelllmdcnmfaaPFnExactLivesInx0
import Derived.Test.YtcgelllmdcnmfaaPFnExactLivesInx3
import Derived.Test.YtcgelllmdcnmfaaPFnExactLivesInx4
import Derived.Test.YtcgelllmdcnmfaaPFnExactLivesInx5
namespace Go.Proofs.Ytcgelllmdcnmfaa.PFnExactLivesIn
open Go.RowKit Go.Proofs.YtcgelllmdcnmfaaW.PrintWords Go.Proofs.YtcgelllmdcnmfaaW.PrintLast Go.Proofs.YtcgelllmdcnmfaaW.PrintMore
attribute [local go_sem] max2_int min2_int max_two min_two max_three min_three max_four min_four   -- for this text's walks alone
set_option linter.unusedVariables false
set_option linter.unusedSimpArgs false

def bv6_0 : Array Bool := #[false, false, false, false, false, false, false, false, false, false, false, false, false, false, false, false, false, false, false, false, false, false, false, false, false, false, false, false, false]
def bv6_1 : Array Bool := #[true, false, false, false, false, false, false, false, false, false, false, false, false, false, false, false, false, false, false, false, false, false, false, false, false, false, false, false, false]
def bv6_2 : Array Bool := #[true, true, false, false, false, false, false, false, false, false, false, false, false, false, false, false, false, false, false, false, false, false, false, false, false, false, false, false, false]
def bv6_3 : Array Bool := #[true, true, true, false, false, false, false, false, false, false, false, false, false, false, false, false, false, false, false, false, false, false, false, false, false, false, false, false, false]
def bv6_4 : Array Bool := #[true, true, true, true, false, false, false, false, false, false, false, false, false, false, false, false, false, false, false, false, false, false, false, false, false, false, false, false, false]
def bv6_5 : Array Bool := #[true, true, true, true, true, false, false, false, false, false, false, false, false, false, false, false, false, false, false, false, false, false, false, false, false, false, false, false, false]
def bv6_6 : Array Bool := #[true, true, true, true, true, true, false, false, false, false, false, false, false, false, false, false, false, false, false, false, false, false, false, false, false, false, false, false, false]
def bv6_7 : Array Bool := #[true, true, true, true, true, true, false, true, false, false, false, false, false, false, false, false, false, false, false, false, false, false, false, false, false, false, false, false, false]
def bv6_8 : Array Bool := #[true, true, true, true, true, true, false, true, true, false, false, false, false, false, false, false, false, false, false, false, false, false, false, false, false, false, false, false, false]
def bv6_9 : Array Bool := #[true, true, true, true, true, true, true, true, true, false, false, false, false, false, false, false, false, false, false, false, false, false, false, false, false, false, false, false, false]
def bv6_10 : Array Bool := #[true, true, true, true, true, true, true, true, true, true, false, false, false, false, false, false, false, false, false, false, false, false, false, false, false, false, false, false, false]
def bv6_11 : Array Bool := #[true, true, true, true, true, true, true, true, true, true, true, false, false, false, false, false, false, false, false, false, false, false, false, false, false, false, false, false, false]
def bv6_12 : Array Bool := #[true, true, true, true, true, true, true, true, true, true, true, true, false, false, false, false, false, false, false, false, false, false, false, false, false, false, false, false, false]
def bv6_13 : Array Bool := #[true, true, true, true, true, true, true, true, true, true, true, true, true, false, false, false, false, false, false, false, false, false, false, false, false, false, false, false, false]
def bv6_14 : Array Bool := #[true, true, true, true, true, true, true, true, true, true, true, true, true, true, false, false, false, false, false, false, false, false, false, false, false, false, false, false, false]
def bv6_15 : Array Bool := #[true, true, true, true, true, true, true, true, true, true, true, true, true, true, false, true, false, false, false, false, false, false, false, false, false, false, false, false, false]
def bv6_16 : Array Bool := #[true, true, true, true, true, true, true, true, true, true, true, true, true, true, false, true, true, false, false, false, false, false, false, false, false, false, false, false, false]
def bv6_17 : Array Bool := #[true, true, true, true, true, true, true, true, true, true, true, true, true, true, true, true, true, false, false, false, false, false, false, false, false, false, false, false, false]
def bv6_18 : Array Bool := #[true, true, true, true, true, true, true, true, true, true, true, true, true, true, true, true, true, true, false, false, false, false, false, false, false, false, false, false, false]
def bv6_19 : Array Bool := #[true, true, true, true, true, true, true, true, true, true, true, true, true, true, true, true, true, true, true, false, false, false, false, false, false, false, false, false, false]
def bv6_20 : Array Bool := #[true, true, true, true, true, true, true, true, true, true, true, true, true, true, true, true, true, true, true, true, false, false, false, false, false, false, false, false, false]
def bv6_21 : Array Bool := #[true, true, true, true, true, true, true, true, true, true, true, true, true, true, true, true, true, true, true, true, true, false, false, false, false, false, false, false, false]
def bv6_22 : Array Bool := #[true, true, true, true, true, true, true, true, true, true, true, true, true, true, true, true, true, true, true, true, true, true, false, false, false, false, false, false, false]
def bv6_23 : Array Bool := #[true, true, true, true, true, true, true, true, true, true, true, true, true, true, true, true, true, true, true, true, true, true, true, false, false, false, false, false, false]
def bv6_24 : Array Bool := #[true, true, true, true, true, true, true, true, true, true, true, true, true, true, true, true, true, true, true, true, true, true, true, true, false, false, false, false, false]
def bv6_25 : Array Bool := #[true, true, true, true, true, true, true, true, true, true, true, true, true, true, true, true, true, true, true, true, true, true, true, true, true, true, false, false, false]
def bv6_26 : Array Bool := #[true, true, true, true, true, true, true, true, true, true, true, true, true, true, true, true, true, true, true, true, true, true, true, true, true, true, true, false, false]
def bv6_27 : Array Bool := #[true, true, true, true, true, true, true, true, true, true, true, true, true, true, true, true, true, true, true, true, true, true, true, true, true, true, true, true, false]
def bv6_28 : Array Bool := #[true, true, true, true, true, true, true, true, true, true, true, true, true, true, true, true, true, true, true, true, true, true, true, true, true, true, true, true, true]
def bv6_29 : Array Bool := #[true, true, true, true, true, true, true, true, true, true, true, true, true, true, true, true, true, true, true, true, true, true, true, true, true, false, false, false, false]
def bv6_30 : Array Bool := #[true, true, true, true, true, true, true, true, true, true, true, true, true, true, true, false, false, false, false, false, false, false, false, false, false, false, false, false, false]
def bv6_31 : Array Bool := #[true, true, true, true, true, true, true, true, true, true, true, true, true, true, true, true, false, false, false, false, false, false, false, false, false, false, false, false, false]
def bv6_32 : Array Bool := #[false, false, false, false, false, false, false, false, false, false, false]
def bv6_33 : Array Bool := #[true, true, true, true, true, false, false, false, false, false, false]
def bv6_34 : Array Bool := #[true, true, true, true, true, true, false, false, false, false, false]
def bv6_35 : Array Bool := #[true, true, true, true, true, true, true, false, false, false, false]
def bv6_36 : Array Bool := #[true, true, true, true, true, true, true, true, false, false, false]
def bv6_37 : Array Bool := #[true, true, true, true, true, true, true, true, true, false, false]
def bv6_38 : Array Bool := #[true, true, true, true, true, true, true, true, true, true, false]
def bv6_39 : Array Bool := #[true, true, true, true, true, true, true, true, true, true, true]
def bv6_40 : Array Bool := #[false, false, false, false, false, false, false, false, false, false, false, false, false, false]
def bv6_41 : Array Bool := #[true, false, false, false, false, false, false, false, false, false, false, false, false, false]
def bv6_42 : Array Bool := #[true, true, false, false, false, false, false, false, false, false, false, false, false, false]
def bv6_43 : Array Bool := #[true, true, true, false, false, false, false, false, false, false, false, false, false, false]
def bv6_44 : Array Bool := #[true, true, true, true, false, false, false, false, false, false, false, false, false, false]
def bv6_45 : Array Bool := #[true, true, true, true, true, false, false, false, false, false, false, false, false, false]
def bv6_46 : Array Bool := #[true, true, true, true, true, true, false, false, false, false, false, false, false, false]
def bv6_47 : Array Bool := #[true, true, true, true, true, true, true, true, true, false, false, false, false, false]
def bv6_48 : Array Bool := #[true, true, true, true, true, true, true, true, true, true, false, false, false, false]
def bv6_49 : Array Bool := #[true, true, true, true, true, true, true, true, true, true, true, false, false, false]
def bv6_50 : Array Bool := #[true, true, true, true, true, true, true, true, true, true, true, true, false, false]
def bv6_51 : Array Bool := #[true, true, true, true, true, true, true, true, true, true, true, true, true, false]
def bv6_52 : Array Bool := #[true, true, true, true, true, true, true, true, true, true, true, true, true, true]
/-! ### spec_WeaveOk: function 15 -/
mutual
def spec_WeaveOk.j0 : Nat → Bool → List (List Int) → List (S68) → Option (Bool)
  | 0, _, _, _ => none
  | k + 1, x20, x212000, x212001 => if x20 = true then (some false) else (if 0 ≤ (x212000.length : Int) then (if ((x212000.length : Int) : Int).toNat ≤ 35184372088832 then (spec_WeaveOk.l0 k (x212000.length : Int) (List.replicate ((x212000.length : Int) : Int).toNat 0) (([] : List (List Bool))) 0 x212000 x212001) else (none)) else (none))
def spec_WeaveOk.l0 : Nat → Int → List Int → List (List Bool) → Int → List (List Int) → List (S68) → Option (Bool)
  | 0, _, _, _, _, _, _ => none
  | k + 1, x3, x4, x5, x6, x212000, x212001 => if x6 < x3 then (if 0 ≤ x6 then (if x6 < (x212000.length : Int) then ((spec_l05Set.f k x212000 (rd_L1 x212000 x6)).bind fun t220 => (if x5.length < 5864062014805 then (spec_WeaveOk.l0 k x3 x4 (x5 ++ [t220]) (wrap64 (x6 + 1)) x212000 x212001) else (none))) else (none)) else (none)) else (spec_WeaveOk.l1 k x3 x4 x5 0 x212000 x212001)
def spec_WeaveOk.l1 : Nat → Int → List Int → List (List Bool) → Int → List (List Int) → List (S68) → Option (Bool)
  | 0, _, _, _, _, _, _ => none
  | k + 1, x3, x4, x5, x7, x212000, x212001 => if x7 < (x212001.length : Int) then (if 0 ≤ x7 then ((spec_LineOk.f k ((rd_T68 x212001 x7).f0)).bind fun t228 => (if t228 = true then ((spec_l01In.f ((rd_T68 x212001 x7).f1) 0 (wrap64 (x3 - 1))).bind fun t229 => (if t229 = true then (if 0 ≤ ((rd_T68 x212001 x7).f1) then (if ((rd_T68 x212001 x7).f1) < (x4.length : Int) then (if ((rd_T68 x212001 x7).f2) = (rd x4 ((rd_T68 x212001 x7).f1)) then ((spec_l05Rise.f k ((rd_T68 x212001 x7).f3) x3).bind fun t231 => (spec_WeaveOk.j3 k x3 x4 x5 x7 (!t231) x212000 x212001 ((rd_T68 x212001 x7).f0) ((rd_T68 x212001 x7).f1) ((rd_T68 x212001 x7).f2) ((rd_T68 x212001 x7).f3))) else (spec_WeaveOk.j3 k x3 x4 x5 x7 true x212000 x212001 ((rd_T68 x212001 x7).f0) ((rd_T68 x212001 x7).f1) ((rd_T68 x212001 x7).f2) ((rd_T68 x212001 x7).f3))) else (none)) else (none)) else (spec_WeaveOk.j3 k x3 x4 x5 x7 true x212000 x212001 ((rd_T68 x212001 x7).f0) ((rd_T68 x212001 x7).f1) ((rd_T68 x212001 x7).f2) ((rd_T68 x212001 x7).f3)))) else (spec_WeaveOk.j3 k x3 x4 x5 x7 true x212000 x212001 ((rd_T68 x212001 x7).f0) ((rd_T68 x212001 x7).f1) ((rd_T68 x212001 x7).f2) ((rd_T68 x212001 x7).f3)))) else (none)) else (spec_WeaveOk.l3 k x3 x4 0 x212000 x212001)
def spec_WeaveOk.j3 : Nat → Int → List Int → List (List Bool) → Int → Bool → List (List Int) → List (S68) → ByteArray → Int → Int → List Int → Option (Bool)
  | 0, _, _, _, _, _, _, _, _, _, _, _ => none
  | k + 1, x3, x4, x5, x7, x83, x212000, x212001, x228000, x228001, x228002, x228003 => if x83 = true then (some false) else (if 0 ≤ x228001 then (if x228001 < (x4.length : Int) then (spec_WeaveOk.l2 k x3 (x4.set (x228001 : Int).toNat (wrap64 ((rd x4 x228001) + 1))) x5 x7 0 x212000 x212001 x228000 x228001 x228002 x228003) else (none)) else (none))
def spec_WeaveOk.l2 : Nat → Int → List Int → List (List Bool) → Int → Int → List (List Int) → List (S68) → ByteArray → Int → Int → List Int → Option (Bool)
  | 0, _, _, _, _, _, _, _, _, _, _, _ => none
  | k + 1, x3, x4, x5, x7, x9, x212000, x212001, x228000, x228001, x228002, x228003 => if x9 < (x228003.length : Int) then (if 0 ≤ x9 then (if 0 ≤ (rd x228003 x9) then (if (rd x228003 x9) < (x5.length : Int) then ((spec_l06Live.f k x228000 x228001 x228002 x228003 (rd_L8 x5 (rd x228003 x9))).bind fun t236 => (if t236 = true then (spec_WeaveOk.l2 k x3 x4 x5 x7 (wrap64 (x9 + 1)) x212000 x212001 x228000 x228001 x228002 x228003) else (some false))) else (none)) else (none)) else (none)) else (spec_WeaveOk.l1 k x3 x4 x5 (wrap64 (x7 + 1)) x212000 x212001)
def spec_WeaveOk.l3 : Nat → Int → List Int → Int → List (List Int) → List (S68) → Option (Bool)
  | 0, _, _, _, _, _ => none
  | k + 1, x3, x4, x10, x212000, x212001 => if x10 < x3 then (if 0 ≤ x10 then (if x10 < (x4.length : Int) then (if (rd x4 x10) > 80 then (some false) else ((spec_l06Closure.f k x212000 x212001 x10).bind fun t238 => ((spec_l06Places.f k x212000 x212001 t238).bind fun t241 => (if (t241.length : Int) > 80 then (some false) else (spec_WeaveOk.l3 k x3 x4 (wrap64 (x10 + 1)) x212000 x212001))))) else (none)) else (none)) else (some true)
end
def spec_WeaveOk.f (k : Nat) (l0_0 : List (List Int)) (l0_1 : List (S68)) : Option (Bool) := (spec_GraphOk.f k l0_0).bind fun t212 => (if t212 = true then (spec_WeaveOk.j0 k (decide ((l0_1.length : Int) > 300)) l0_0 l0_1) else (spec_WeaveOk.j0 k true l0_0 l0_1))
theorem spec_WeaveOk.mono_l : ∀ k, (∀ y0 y1 y2, LeO (spec_WeaveOk.j0 k y0 y1 y2) (spec_WeaveOk.j0 (k + 1) y0 y1 y2)) ∧ (∀ y0 y1 y2 y3 y4 y5, LeO (spec_WeaveOk.l0 k y0 y1 y2 y3 y4 y5) (spec_WeaveOk.l0 (k + 1) y0 y1 y2 y3 y4 y5)) ∧ (∀ y0 y1 y2 y3 y4 y5, LeO (spec_WeaveOk.l1 k y0 y1 y2 y3 y4 y5) (spec_WeaveOk.l1 (k + 1) y0 y1 y2 y3 y4 y5)) ∧ (∀ y0 y1 y2 y3 y4 y5 y6 y7 y8 y9 y10, LeO (spec_WeaveOk.j3 k y0 y1 y2 y3 y4 y5 y6 y7 y8 y9 y10) (spec_WeaveOk.j3 (k + 1) y0 y1 y2 y3 y4 y5 y6 y7 y8 y9 y10)) ∧ (∀ y0 y1 y2 y3 y4 y5 y6 y7 y8 y9 y10, LeO (spec_WeaveOk.l2 k y0 y1 y2 y3 y4 y5 y6 y7 y8 y9 y10) (spec_WeaveOk.l2 (k + 1) y0 y1 y2 y3 y4 y5 y6 y7 y8 y9 y10)) ∧ (∀ y0 y1 y2 y3 y4, LeO (spec_WeaveOk.l3 k y0 y1 y2 y3 y4) (spec_WeaveOk.l3 (k + 1) y0 y1 y2 y3 y4))
  | 0 => ⟨fun _ _ _ r h => by simp [spec_WeaveOk.j0] at h, fun _ _ _ _ _ _ r h => by simp [spec_WeaveOk.l0] at h, fun _ _ _ _ _ _ r h => by simp [spec_WeaveOk.l1] at h, fun _ _ _ _ _ _ _ _ _ _ _ r h => by simp [spec_WeaveOk.j3] at h, fun _ _ _ _ _ _ _ _ _ _ _ r h => by simp [spec_WeaveOk.l2] at h, fun _ _ _ _ _ r h => by simp [spec_WeaveOk.l3] at h⟩
  | k + 1 => by
    obtain ⟨ih0, ih1, ih2, ih3, ih4, ih5⟩ := spec_WeaveOk.mono_l k
    refine ⟨?_, ?_, ?_, ?_, ?_, ?_⟩
    ·intro y0 y1 y2
     unfold spec_WeaveOk.j0
     repeat' first
     | (with_reducible exact ih0 _ _ _)
     | (with_reducible exact ih1 _ _ _ _ _ _)
     | (with_reducible exact ih2 _ _ _ _ _ _)
     | (with_reducible exact ih3 _ _ _ _ _ _ _ _ _ _ _)
     | (with_reducible exact ih4 _ _ _ _ _ _ _ _ _ _ _)
     | (with_reducible exact ih5 _ _ _ _ _)
     | (with_reducible exact spec_GraphOk.mono _ _)
     | (with_reducible exact spec_LineOk.mono _ _)
     | (with_reducible exact spec_l05Rise.mono _ _ _)
     | (with_reducible exact spec_l05Set.mono _ _ _)
     | (with_reducible exact spec_l06Closure.mono _ _ _ _)
     | (with_reducible exact spec_l06Live.mono _ _ _ _ _ _)
     | (with_reducible exact spec_l06Places.mono _ _ _ _)
     | (with_reducible exact LeO.refl _)
     | (with_reducible exact LeO.none _)
     | (with_reducible refine LeO.ite ?_ ?_)
     | (with_reducible refine LeO.bind ?_ (fun _ => ?_))
     | exact ih0 _ _ _
     | exact ih1 _ _ _ _ _ _
     | exact ih2 _ _ _ _ _ _
     | exact ih3 _ _ _ _ _ _ _ _ _ _ _
     | exact ih4 _ _ _ _ _ _ _ _ _ _ _
     | exact ih5 _ _ _ _ _
     | exact spec_GraphOk.mono _ _
     | exact spec_LineOk.mono _ _
     | exact spec_l05Rise.mono _ _ _
     | exact spec_l05Set.mono _ _ _
     | exact spec_l06Closure.mono _ _ _ _
     | exact spec_l06Live.mono _ _ _ _ _ _
     | exact spec_l06Places.mono _ _ _ _
     | exact LeO.none _
     | refine LeO.ite ?_ ?_
     | refine LeO.bind ?_ (fun _ => ?_)
    ·intro y0 y1 y2 y3 y4 y5
     unfold spec_WeaveOk.l0
     repeat' first
     | (with_reducible exact ih0 _ _ _)
     | (with_reducible exact ih1 _ _ _ _ _ _)
     | (with_reducible exact ih2 _ _ _ _ _ _)
     | (with_reducible exact ih3 _ _ _ _ _ _ _ _ _ _ _)
     | (with_reducible exact ih4 _ _ _ _ _ _ _ _ _ _ _)
     | (with_reducible exact ih5 _ _ _ _ _)
     | (with_reducible exact spec_GraphOk.mono _ _)
     | (with_reducible exact spec_LineOk.mono _ _)
     | (with_reducible exact spec_l05Rise.mono _ _ _)
     | (with_reducible exact spec_l05Set.mono _ _ _)
     | (with_reducible exact spec_l06Closure.mono _ _ _ _)
     | (with_reducible exact spec_l06Live.mono _ _ _ _ _ _)
     | (with_reducible exact spec_l06Places.mono _ _ _ _)
     | (with_reducible exact LeO.refl _)
     | (with_reducible exact LeO.none _)
     | (with_reducible refine LeO.ite ?_ ?_)
     | (with_reducible refine LeO.bind ?_ (fun _ => ?_))
     | exact ih0 _ _ _
     | exact ih1 _ _ _ _ _ _
     | exact ih2 _ _ _ _ _ _
     | exact ih3 _ _ _ _ _ _ _ _ _ _ _
     | exact ih4 _ _ _ _ _ _ _ _ _ _ _
     | exact ih5 _ _ _ _ _
     | exact spec_GraphOk.mono _ _
     | exact spec_LineOk.mono _ _
     | exact spec_l05Rise.mono _ _ _
     | exact spec_l05Set.mono _ _ _
     | exact spec_l06Closure.mono _ _ _ _
     | exact spec_l06Live.mono _ _ _ _ _ _
     | exact spec_l06Places.mono _ _ _ _
     | exact LeO.none _
     | refine LeO.ite ?_ ?_
     | refine LeO.bind ?_ (fun _ => ?_)
    ·intro y0 y1 y2 y3 y4 y5
     unfold spec_WeaveOk.l1
     repeat' first
     | (with_reducible exact ih0 _ _ _)
     | (with_reducible exact ih1 _ _ _ _ _ _)
     | (with_reducible exact ih2 _ _ _ _ _ _)
     | (with_reducible exact ih3 _ _ _ _ _ _ _ _ _ _ _)
     | (with_reducible exact ih4 _ _ _ _ _ _ _ _ _ _ _)
     | (with_reducible exact ih5 _ _ _ _ _)
     | (with_reducible exact spec_GraphOk.mono _ _)
     | (with_reducible exact spec_LineOk.mono _ _)
     | (with_reducible exact spec_l05Rise.mono _ _ _)
     | (with_reducible exact spec_l05Set.mono _ _ _)
     | (with_reducible exact spec_l06Closure.mono _ _ _ _)
     | (with_reducible exact spec_l06Live.mono _ _ _ _ _ _)
     | (with_reducible exact spec_l06Places.mono _ _ _ _)
     | (with_reducible exact LeO.refl _)
     | (with_reducible exact LeO.none _)
     | (with_reducible refine LeO.ite ?_ ?_)
     | (with_reducible refine LeO.bind ?_ (fun _ => ?_))
     | exact ih0 _ _ _
     | exact ih1 _ _ _ _ _ _
     | exact ih2 _ _ _ _ _ _
     | exact ih3 _ _ _ _ _ _ _ _ _ _ _
     | exact ih4 _ _ _ _ _ _ _ _ _ _ _
     | exact ih5 _ _ _ _ _
     | exact spec_GraphOk.mono _ _
     | exact spec_LineOk.mono _ _
     | exact spec_l05Rise.mono _ _ _
     | exact spec_l05Set.mono _ _ _
     | exact spec_l06Closure.mono _ _ _ _
     | exact spec_l06Live.mono _ _ _ _ _ _
     | exact spec_l06Places.mono _ _ _ _
     | exact LeO.none _
     | refine LeO.ite ?_ ?_
     | refine LeO.bind ?_ (fun _ => ?_)
    ·intro y0 y1 y2 y3 y4 y5 y6 y7 y8 y9 y10
     unfold spec_WeaveOk.j3
     repeat' first
     | (with_reducible exact ih0 _ _ _)
     | (with_reducible exact ih1 _ _ _ _ _ _)
     | (with_reducible exact ih2 _ _ _ _ _ _)
     | (with_reducible exact ih3 _ _ _ _ _ _ _ _ _ _ _)
     | (with_reducible exact ih4 _ _ _ _ _ _ _ _ _ _ _)
     | (with_reducible exact ih5 _ _ _ _ _)
     | (with_reducible exact spec_GraphOk.mono _ _)
     | (with_reducible exact spec_LineOk.mono _ _)
     | (with_reducible exact spec_l05Rise.mono _ _ _)
     | (with_reducible exact spec_l05Set.mono _ _ _)
     | (with_reducible exact spec_l06Closure.mono _ _ _ _)
     | (with_reducible exact spec_l06Live.mono _ _ _ _ _ _)
     | (with_reducible exact spec_l06Places.mono _ _ _ _)
     | (with_reducible exact LeO.refl _)
     | (with_reducible exact LeO.none _)
     | (with_reducible refine LeO.ite ?_ ?_)
     | (with_reducible refine LeO.bind ?_ (fun _ => ?_))
     | exact ih0 _ _ _
     | exact ih1 _ _ _ _ _ _
     | exact ih2 _ _ _ _ _ _
     | exact ih3 _ _ _ _ _ _ _ _ _ _ _
     | exact ih4 _ _ _ _ _ _ _ _ _ _ _
     | exact ih5 _ _ _ _ _
     | exact spec_GraphOk.mono _ _
     | exact spec_LineOk.mono _ _
     | exact spec_l05Rise.mono _ _ _
     | exact spec_l05Set.mono _ _ _
     | exact spec_l06Closure.mono _ _ _ _
     | exact spec_l06Live.mono _ _ _ _ _ _
     | exact spec_l06Places.mono _ _ _ _
     | exact LeO.none _
     | refine LeO.ite ?_ ?_
     | refine LeO.bind ?_ (fun _ => ?_)
    ·intro y0 y1 y2 y3 y4 y5 y6 y7 y8 y9 y10
     unfold spec_WeaveOk.l2
     repeat' first
     | (with_reducible exact ih0 _ _ _)
     | (with_reducible exact ih1 _ _ _ _ _ _)
     | (with_reducible exact ih2 _ _ _ _ _ _)
     | (with_reducible exact ih3 _ _ _ _ _ _ _ _ _ _ _)
     | (with_reducible exact ih4 _ _ _ _ _ _ _ _ _ _ _)
     | (with_reducible exact ih5 _ _ _ _ _)
     | (with_reducible exact spec_GraphOk.mono _ _)
     | (with_reducible exact spec_LineOk.mono _ _)
     | (with_reducible exact spec_l05Rise.mono _ _ _)
     | (with_reducible exact spec_l05Set.mono _ _ _)
     | (with_reducible exact spec_l06Closure.mono _ _ _ _)
     | (with_reducible exact spec_l06Live.mono _ _ _ _ _ _)
     | (with_reducible exact spec_l06Places.mono _ _ _ _)
     | (with_reducible exact LeO.refl _)
     | (with_reducible exact LeO.none _)
     | (with_reducible refine LeO.ite ?_ ?_)
     | (with_reducible refine LeO.bind ?_ (fun _ => ?_))
     | exact ih0 _ _ _
     | exact ih1 _ _ _ _ _ _
     | exact ih2 _ _ _ _ _ _
     | exact ih3 _ _ _ _ _ _ _ _ _ _ _
     | exact ih4 _ _ _ _ _ _ _ _ _ _ _
     | exact ih5 _ _ _ _ _
     | exact spec_GraphOk.mono _ _
     | exact spec_LineOk.mono _ _
     | exact spec_l05Rise.mono _ _ _
     | exact spec_l05Set.mono _ _ _
     | exact spec_l06Closure.mono _ _ _ _
     | exact spec_l06Live.mono _ _ _ _ _ _
     | exact spec_l06Places.mono _ _ _ _
     | exact LeO.none _
     | refine LeO.ite ?_ ?_
     | refine LeO.bind ?_ (fun _ => ?_)
    ·intro y0 y1 y2 y3 y4
     unfold spec_WeaveOk.l3
     repeat' first
     | (with_reducible exact ih0 _ _ _)
     | (with_reducible exact ih1 _ _ _ _ _ _)
     | (with_reducible exact ih2 _ _ _ _ _ _)
     | (with_reducible exact ih3 _ _ _ _ _ _ _ _ _ _ _)
     | (with_reducible exact ih4 _ _ _ _ _ _ _ _ _ _ _)
     | (with_reducible exact ih5 _ _ _ _ _)
     | (with_reducible exact spec_GraphOk.mono _ _)
     | (with_reducible exact spec_LineOk.mono _ _)
     | (with_reducible exact spec_l05Rise.mono _ _ _)
     | (with_reducible exact spec_l05Set.mono _ _ _)
     | (with_reducible exact spec_l06Closure.mono _ _ _ _)
     | (with_reducible exact spec_l06Live.mono _ _ _ _ _ _)
     | (with_reducible exact spec_l06Places.mono _ _ _ _)
     | (with_reducible exact LeO.refl _)
     | (with_reducible exact LeO.none _)
     | (with_reducible refine LeO.ite ?_ ?_)
     | (with_reducible refine LeO.bind ?_ (fun _ => ?_))
     | exact ih0 _ _ _
     | exact ih1 _ _ _ _ _ _
     | exact ih2 _ _ _ _ _ _
     | exact ih3 _ _ _ _ _ _ _ _ _ _ _
     | exact ih4 _ _ _ _ _ _ _ _ _ _ _
     | exact ih5 _ _ _ _ _
     | exact spec_GraphOk.mono _ _
     | exact spec_LineOk.mono _ _
     | exact spec_l05Rise.mono _ _ _
     | exact spec_l05Set.mono _ _ _
     | exact spec_l06Closure.mono _ _ _ _
     | exact spec_l06Live.mono _ _ _ _ _ _
     | exact spec_l06Places.mono _ _ _ _
     | exact LeO.none _
     | refine LeO.ite ?_ ?_
     | refine LeO.bind ?_ (fun _ => ?_)
theorem spec_WeaveOk.mono : ∀ a0 a1 k, LeO (spec_WeaveOk.f k a0 a1) (spec_WeaveOk.f (k + 1) a0 a1) := by
  intro a0 a1 k
  obtain ⟨ih0, ih1, ih2, ih3, ih4, ih5⟩ := spec_WeaveOk.mono_l k
  unfold spec_WeaveOk.f
  repeat' first
     | (with_reducible exact ih0 _ _ _)
     | (with_reducible exact ih1 _ _ _ _ _ _)
     | (with_reducible exact ih2 _ _ _ _ _ _)
     | (with_reducible exact ih3 _ _ _ _ _ _ _ _ _ _ _)
     | (with_reducible exact ih4 _ _ _ _ _ _ _ _ _ _ _)
     | (with_reducible exact ih5 _ _ _ _ _)
     | (with_reducible exact spec_GraphOk.mono _ _)
     | (with_reducible exact spec_LineOk.mono _ _)
     | (with_reducible exact spec_l05Rise.mono _ _ _)
     | (with_reducible exact spec_l05Set.mono _ _ _)
     | (with_reducible exact spec_l06Closure.mono _ _ _ _)
     | (with_reducible exact spec_l06Live.mono _ _ _ _ _ _)
     | (with_reducible exact spec_l06Places.mono _ _ _ _)
     | (with_reducible exact LeO.refl _)
     | (with_reducible exact LeO.none _)
     | (with_reducible refine LeO.ite ?_ ?_)
     | (with_reducible refine LeO.bind ?_ (fun _ => ?_))
     | exact ih0 _ _ _
     | exact ih1 _ _ _ _ _ _
     | exact ih2 _ _ _ _ _ _
     | exact ih3 _ _ _ _ _ _ _ _ _ _ _
     | exact ih4 _ _ _ _ _ _ _ _ _ _ _
     | exact ih5 _ _ _ _ _
     | exact spec_GraphOk.mono _ _
     | exact spec_LineOk.mono _ _
     | exact spec_l05Rise.mono _ _ _
     | exact spec_l05Set.mono _ _ _
     | exact spec_l06Closure.mono _ _ _ _
     | exact spec_l06Live.mono _ _ _ _ _ _
     | exact spec_l06Places.mono _ _ _ _
     | exact LeO.none _
     | refine LeO.ite ?_ ?_
     | refine LeO.bind ?_ (fun _ => ?_)
def spec_WeaveOk.T9 : Bool × List (List Nat × List Nat) := (true, [([], []), ([], []), ([1], [1]), ([], []), ([3], [3]), ([], []), ([4, 5], [4, 5]), ([6], [6]), ([2, 7], [2, 7]), ([8], [8]), ([0, 9, 8], [0, 9]), ([10, 10, 0, 1, 2, 3, 4, 5, 6, 7, 8, 9, 10], [0, 10])])
def spec_WeaveOk.B9 : List Nat := [0, 0, 2, 0, 8, 0, 56, 120, 254, 510, 1023, 2047]
theorem spec_WeaveOk.tab9 : rtab .any (opsOf Try.f15 9) = spec_WeaveOk.T9 := by kernel_rfl
theorem spec_WeaveOk.bits9 : waitsOk spec_WeaveOk.T9.2 spec_WeaveOk.B9 = true := by kernel_rfl
def spec_WeaveOk.T14 : Bool × List (List Nat × List Nat) := (true, [([], []), ([0], [0]), ([1], [1]), ([2], [2]), ([3, 2], [3]), ([4], [4]), ([5, 4], [4, 5]), ([4], [4]), ([7, 4], [4, 7]), ([6, 8, 4, 4], [4, 6, 8]), ([9, 4], [4, 9]), ([4, 10], [4, 10]), ([11, 9], [11]), ([12], [12]), ([13, 12], [12, 13]), ([12], [12]), ([12], [12]), ([16, 12], [12, 16]), ([15, 17, 12], [12, 15, 17]), ([18, 12], [12, 18]), ([14, 19, 12], [12, 14, 19]), ([12, 20], [12, 20]), ([21, 12], [21]), ([22], [22]), ([23, 22], [22, 23]), ([22], [22]), ([24, 25, 22, 22], [22, 24, 25]), ([26, 22], [22, 26]), ([22, 27], [22, 27])])
def spec_WeaveOk.B14 : List Nat := [0, 1, 3, 7, 15, 31, 63, 31, 159, 511, 1023, 2047, 4095, 8191, 16383, 8191, 8191, 73727, 237567, 499711, 1048575, 2097151, 4194303, 8388607, 16777215, 8388607, 67108863, 134217727, 268435455]
theorem spec_WeaveOk.tab14 : rtab .any (opsOf Try.f15 14) = spec_WeaveOk.T14 := by kernel_rfl
theorem spec_WeaveOk.bits14 : waitsOk spec_WeaveOk.T14.2 spec_WeaveOk.B14 = true := by kernel_rfl
def spec_WeaveOk.T16 : Bool × List (List Nat × List Nat) := (true, [([], []), ([], []), ([1], [1]), ([], []), ([], []), ([4], [4]), ([3, 5], [3, 5]), ([6], [6]), ([7], [7]), ([0, 2, 0, 1, 2, 3, 4, 5, 6, 7, 8], [0, 2]), ([9, 8, 0, 1, 2, 3, 4, 5, 6, 7, 8], [8, 9])])
def spec_WeaveOk.B16 : List Nat := [0, 0, 2, 0, 0, 16, 56, 120, 248, 511, 1023]
theorem spec_WeaveOk.tab16 : rtab .any (opsOf Try.f15 16) = spec_WeaveOk.T16 := by kernel_rfl
theorem spec_WeaveOk.bits16 : waitsOk spec_WeaveOk.T16.2 spec_WeaveOk.B16 = true := by kernel_rfl
def spec_WeaveOk.T20 : Bool × List (List Nat × List Nat) := (true, [([], []), ([], []), ([], []), ([2], [2]), ([], []), ([3, 4], [3, 4]), ([5], [5]), ([1, 6], [1, 6]), ([7], [7]), ([0, 8], [0, 8]), ([9], [9])])
def spec_WeaveOk.B20 : List Nat := [0, 0, 0, 4, 0, 28, 60, 126, 254, 511, 1023]
theorem spec_WeaveOk.tab20 : rtab .any (opsOf Try.f15 20) = spec_WeaveOk.T20 := by kernel_rfl
theorem spec_WeaveOk.bits20 : waitsOk spec_WeaveOk.T20.2 spec_WeaveOk.B20 = true := by kernel_rfl
def spec_WeaveOk.T25 : Bool × List (List Nat × List Nat) := (true, [([], []), ([], []), ([0, 1], [0, 1]), ([2], [2]), ([3], [3]), ([4], [4]), ([5], [5]), ([5], [5]), ([5], [5]), ([7, 8, 5, 5], [5, 7, 8]), ([6, 9, 9, 5], [5, 6, 9]), ([10, 5], [5, 10]), ([11, 5], [5, 11]), ([5, 12], [5, 12])])
def spec_WeaveOk.B25 : List Nat := [0, 0, 3, 7, 15, 31, 63, 63, 63, 447, 1023, 2047, 4095, 8191]
theorem spec_WeaveOk.tab25 : rtab .any (opsOf Try.f15 25) = spec_WeaveOk.T25 := by kernel_rfl
theorem spec_WeaveOk.bits25 : waitsOk spec_WeaveOk.T25.2 spec_WeaveOk.B25 = true := by kernel_rfl
set_option maxHeartbeats 8000000 in
set_option maxRecDepth 100000 in
theorem spec_WeaveOk.calls (k : Nat) (A0_0 : Option Addr) (c0_0 : Nat) (l0_0 : List (List Int)) (A0_1 : Option Addr) (c0_1 : Nat) (l0_1 : List (S68)) (r : Bool) (w : World) (hr0_0 : Kd.C (Kd.slice 3 (Kd.int .i64)) w A0_0 l0_0.length l0_0) (hc0_0 : l0_0.length ≤ c0_0) (hr0_1 : Kd.C k68 w A0_1 l0_1.length l0_1) (hc0_1 : l0_1.length ≤ c0_1) (h : spec_WeaveOk.f k l0_0 l0_1 = some r) :
    Calls Try.prog 15 #[.agg #[.slice A0_0 l0_0.length c0_0, .slice A0_1 l0_1.length c0_1]] w fun e w' => e = .returned (.bool r) ∧ Below w.heap.size w w' := by
  have hu30 := Try.underlying30
  have hu68 := Try.underlying68
  have HR0_0 := Aside0.mk hr0_0
  have HC0_0 := Aside0.mk hc0_0
  clear hr0_0 hc0_0
  have HR0_1 := Aside0.mk hr0_1
  have HC0_1 := Aside0.mk hc0_1
  clear hr0_1 hc0_1
  have HB := Aside0.mk (Below.refl w.heap.size w)
  have H : ((spec_GraphOk.f k l0_0).bind fun t212 => (if t212 = true then (spec_WeaveOk.j0 k (decide ((l0_1.length : Int) > 300)) l0_0 l0_1) else (spec_WeaveOk.j0 k true l0_0 l0_1))) = some r := h
  clear h
  have HC2 := Aside0.mk H
  clear H
  go_enter Try.func15, Try.ntmps15
  go_upto_region 1 with (first | ((with_reducible refine gate_dst (N := 1) rfl ?_); (try (refine gate_guard (by rfl) ?_; dsimp only)); refine box_event ?hg (N := 1) ?hd (cs := #[.slice A0_0 l0_0.length c0_0, .slice A0_1 l0_1.length c0_1]) (t := 30) ?hr ?_; (case hd => rfl); (case hg => rfl); (case hr => first | (go_simp; done) | (go_simp; rfl)); intro gb211 hg w3 hbox hb; have n0_ := Aside0.mk (below_step q1_ hb); have n1_ := Aside0.mk (hbox); have n2_ := Aside0.mk ((by rw [hg]; exact (below_size q1_) : w.heap.size ≤ gb211)); have n3_ := Aside0.mk ((by rw [hg]; exact (below_size q1_) : w.heap.size ≤ gb211)); clear HB; have HB := n0_; have BK211 := n1_; have GW211 := n2_; have GE211 := n3_; clear n0_ n1_ n2_ n3_; clear hb hbox hg))
  (try simp only [Act.put, List.setIfInBounds_toArray, List.set_cons_zero, List.set_cons_succ])
  go_cut [20] (fun v20 wc => ∃ (kq : Nat) (x20_1 : Bool), v20 = .bool x20_1 ∧ Aside0 (spec_WeaveOk.j0 kq x20_1 l0_0 l0_1 = some r) ∧ Aside0 (kq ≤ k) ∧ Aside0 (wc.heap[gb211]? = some (.cells #[(.slice A0_0 l0_0.length c0_0), (.slice A0_1 l0_1.length c0_1)] 30 (0, 0))) ∧ Aside0 (Below w.heap.size w wc))
  case first =>
    have H := HC2.out
    clear HC2
    replace H := Option.bind_eq_some_iff.mp H
    obtain ⟨t212, A40, H⟩ := H
    replace H : (if t212 = true then (spec_WeaveOk.j0 k (decide ((l0_1.length : Int) > 300)) l0_0 l0_1) else (spec_WeaveOk.j0 k true l0_0 l0_1)) = some r := H
    have A4 := Aside0.mk A40
    clear A40
    by_cases c5 : t212 = true
    ·subst c5
     have H1 : (spec_WeaveOk.j0 k (decide ((l0_1.length : Int) > 300)) l0_0 l0_1) = some r := by rw [if_pos rfl] at H; exact H
     clear H
     have H := H1
     clear H1
     have H' := Aside0.mk H
     clear H
     have hcz6_0 : w3.cell? ⟨gb211, 0, none⟩ = some (.slice A0_0 l0_0.length c0_0) := (blk_cell BK211.out 0).trans rfl
     have hcz6_1 : w3.cell? ⟨gb211, 1, none⟩ = some (.slice A0_1 l0_1.length c0_1) := (blk_cell BK211.out 1).trans rfl
     have hfz6_0 := blk_frozen BK211.out 0
     have hfz6_1 := blk_frozen BK211.out 1
     go_wp2_with (first | ((with_reducible refine gate_callee (f := 51) rfl ?_); refine goesL_ (some 13) rfl rfl Try.func51 (by kernel_rfl) rfl #[.slice A0_0 l0_0.length c0_0] rfl q0_ ?_; (with_reducible refine (spec_GraphOk.calls k _ _ l0_0 true _ ?side1 ?side2 A4.out).mono ?_); (case side1 => exact q4_); (case side2 => exact HC0_0.out); rintro e w' ⟨rfl, ⟨nd, rfl⟩⟩; refine ⟨_, rfl, ?_⟩))
     go_meet
     case rel => exact ⟨_, (decide ((l0_1.length : Int) > 300)), q5_, H', ⟨by first | omega | exact Nat.le_refl _⟩, ⟨by (with_reducible repeat (first | refine blk_drewN ?_ _ | refine blk_drew ?_ | refine blk_alloc ?_ _)); exact BK211.out⟩, ⟨by repeat (first | (with_reducible first | exact HB.out | apply below_alloc | apply pw_below_drewN | apply below_drew1 | refine below_set ?_ GE211.out) | exact HB.out)⟩⟩
    ·replace c5 := Bool.eq_false_iff.mpr c5
     subst c5
     have H1 : (spec_WeaveOk.j0 k true l0_0 l0_1) = some r := by rw [if_neg (show ¬ (false = true) by decide)] at H; exact H
     clear H
     have H := H1
     clear H1
     have H' := Aside0.mk H
     clear H
     have hcz7_0 : w3.cell? ⟨gb211, 0, none⟩ = some (.slice A0_0 l0_0.length c0_0) := (blk_cell BK211.out 0).trans rfl
     have hcz7_1 : w3.cell? ⟨gb211, 1, none⟩ = some (.slice A0_1 l0_1.length c0_1) := (blk_cell BK211.out 1).trans rfl
     have hfz7_0 := blk_frozen BK211.out 0
     have hfz7_1 := blk_frozen BK211.out 1
     go_wp2_with (first | ((with_reducible refine gate_callee (f := 51) rfl ?_); refine goesL_ (some 13) rfl rfl Try.func51 (by kernel_rfl) rfl #[.slice A0_0 l0_0.length c0_0] rfl q0_ ?_; (with_reducible refine (spec_GraphOk.calls k _ _ l0_0 false _ ?side1 ?side2 A4.out).mono ?_); (case side1 => exact q4_); (case side2 => exact HC0_0.out); rintro e w' ⟨rfl, ⟨nd, rfl⟩⟩; refine ⟨_, rfl, ?_⟩))
     go_meet
     case rel => exact ⟨_, (true), q5_, H', ⟨by first | omega | exact Nat.le_refl _⟩, ⟨by (with_reducible repeat (first | refine blk_drewN ?_ _ | refine blk_drew ?_ | refine blk_alloc ?_ _)); exact BK211.out⟩, ⟨by repeat (first | (with_reducible first | exact HB.out | apply below_alloc | apply pw_below_drewN | apply below_drew1 | refine below_set ?_ GE211.out) | exact HB.out)⟩⟩
  case rest =>
    clear HC2
    try clear c1
    try clear p2
    try clear c5
    try clear hcz6_0
    try clear hcz6_1
    try clear hcz7_0
    try clear hcz7_1
    try clear hfz6_0
    try clear hfz6_1
    try clear hfz7_0
    try clear hfz7_1
    obtain ⟨kq, x20_1, rfl, HA, HJ1, BK211, HB⟩ := hcut
    cases kq with
    | zero => exact absurd HA.out (by simp [spec_WeaveOk.j0])
    | succ kj1 =>
     have H := HA.out
     clear HA
     simp only [spec_WeaveOk.j0] at H
     by_cases c8 : x20_1 = true
     ·subst c8
      have H1 : (some false) = some r := by rw [if_pos rfl] at H; exact H
      clear H
      have H := H1
      clear H1
      obtain rfl := Option.some.inj H
      go_wp2
      go_ret
      exact ⟨by first | rfl | (simp [errW_none, errW_some] <;> rfl) | (simp [*, errW_none, errW_some] <;> rfl), by repeat (first | (with_reducible first | exact HB.out | apply below_alloc | apply pw_below_drewN | apply below_drew1 | refine below_set ?_ GE211.out) | exact HB.out)⟩
     ·replace c8 := Bool.eq_false_iff.mpr c8
      subst c8
      have H1 : (if 0 ≤ (l0_0.length : Int) then (if ((l0_0.length : Int) : Int).toNat ≤ 35184372088832 then (spec_WeaveOk.l0 kj1 (l0_0.length : Int) (List.replicate ((l0_0.length : Int) : Int).toNat 0) (([] : List (List Bool))) 0 l0_0 l0_1) else (none)) else (none)) = some r := by rw [if_neg (show ¬ (false = true) by decide)] at H; exact H
      clear H
      have H := H1
      clear H1
      by_cases c9 : 0 ≤ (l0_0.length : Int)
      case neg =>
       rw [if_neg c9] at H
       exact absurd H (by simp)

      rw [if_pos c9] at H
      have c9b0 := eq_true c9
      have c9b1 : decide (0 ≤ (l0_0.length : Int)) = true := decide_eq_true c9
      clear c9
      by_cases c10 : ((l0_0.length : Int) : Int).toNat ≤ 35184372088832
      case neg =>
       rw [if_neg c10] at H
       exact absurd H (by simp)
      rw [if_pos c10] at H
      have c10b0 := eq_true c10
      have c10b1 : decide (((l0_0.length : Int) : Int).toNat ≤ 35184372088832) = true := decide_eq_true c10
      clear c10
      obtain ⟨y213, hy213⟩ : ∃ y_ : List Int, y_ = (List.replicate ((l0_0.length : Int) : Int).toNat 0) := ⟨_, rfl⟩
      replace H : (spec_WeaveOk.l0 kj1 (l0_0.length : Int) y213 (([] : List (List Bool))) 0 l0_0 l0_1) = some r := by first | (rw [hy213]; with_reducible exact H) | (have H2_ := (Option.bind_some _ _).symm.trans H; rw [hy213]; with_reducible exact H2_) | (have H2_ := (Option.bind_some _ _).symm.trans H; with_reducible exact H2_) | with_reducible exact H | (rw [hy213]; exact H) | exact H
      have Ny213 := Aside0.mk hy213
      clear hy213
      obtain ⟨y216, hy216⟩ : ∃ y_ : List (List Bool), y_ = (([] : List (List Bool))) := ⟨_, rfl⟩
      replace H : (spec_WeaveOk.l0 kj1 (l0_0.length : Int) y213 y216 0 l0_0 l0_1) = some r := by first | (rw [hy216]; with_reducible exact H) | (have H2_ := (Option.bind_some _ _).symm.trans H; rw [hy216]; with_reducible exact H2_) | (have H2_ := (Option.bind_some _ _).symm.trans H; with_reducible exact H2_) | with_reducible exact H | (rw [hy216]; exact H) | exact H
      have Ny216 := Aside0.mk hy216
      clear hy216
      have H' := Aside0.mk H
      clear H
      have hcz11_0 : wc.cell? ⟨gb211, 0, none⟩ = some (.slice A0_0 l0_0.length c0_0) := (blk_cell BK211.out 0).trans rfl
      have hcz11_1 : wc.cell? ⟨gb211, 1, none⟩ = some (.slice A0_1 l0_1.length c0_1) := (blk_cell BK211.out 1).trans rfl
      have hfz11_0 := blk_frozen BK211.out 0
      have hfz11_1 := blk_frozen BK211.out 1
      go_wp2_with (first | ((with_reducible refine gate_dst (N := 25) rfl ?_); (try (refine gate_guard (by rfl) ?_; dsimp only)); refine Kd.R_make (Kd.int .i64) _ 3 rfl (N := 25) rfl 36 _ _ rfl (l0_0.length : Int) rfl rfl Try.underlying36 (.int .i64 0) 8 info3 rfl (by decide) (by omega) 0 (ok := fun _ => True) (okp := fun _ => True) rfl (fun _ hk => hk) trivial (of_decide_eq_true q2_) (Nat.le_trans (Nat.mul_le_mul_right _ (of_decide_eq_true q2_ : (l0_0.length : Int).toNat ≤ 35184372088832)) (by omega)) (Below.refl _ _) (Nat.le_refl _) ?_; intro v214 w12 ho13 hb hg_ hnew_; clear hg_ hnew_; (first | rw [← Ny213.out] at ho13 | (simp only [Int.reduceToNat] at ho13; rw [← Ny213.out] at ho13)); have n0_ := Aside0.mk (Kd.R_lower ho13 (below_size q9_)); have n1_ := Aside0.mk (blk_below (g := gb211) (o := .cells #[.slice A0_0 l0_0.length c0_0, .slice A0_1 l0_1.length c0_1] 30 (0, 0)) q22_ hb); have n2_ := Aside0.mk (below_step q9_ hb); clear BK211; clear HB; have HO215 := n0_; have BK211 := n1_; have HB := n2_; clear n0_ n1_ n2_; clear hb ho13) | ((with_reducible refine gate_dst (N := 26) rfl ?_); (try (refine gate_guard (by rfl) ?_; dsimp only)); refine Kd.S_lit (Kd.slice 4 Kd.bool) _ 65 ?hg (N := 26) ?hd (xs := ([] : List (List Bool))) (inner := []) (ok := fun _ => True) (okp := fun _ => True) ?hr ?hp (fun _ hk => hk) trivial (Below.refl _ _) (Nat.le_refl _) (by simp) ?_; (case hd => rfl); (case hg => rfl); (case hr => first | (go_simp; done) | (go_simp; rfl)); (case hp => exact (Reps.none _ _)); intro v217 w14 ho15 hb hg_ hnew_; clear hg_ hnew_; (first | rw [← Ny216.out] at ho15 | (simp only [Int.reduceToNat] at ho15; rw [← Ny216.out] at ho15)); have n0_ := Aside0.mk (Kd.R_below (by (with_reducible repeat (first | apply Kd.R_alloc | apply Kd.R_drewN | apply Kd.R_drew)); exact HO215.out) hb); have n1_ := Aside0.mk (Kd.S_lower ho15 (below_size q9_)); have n2_ := Aside0.mk (blk_below (g := gb211) (o := .cells #[.slice A0_0 l0_0.length c0_0, .slice A0_1 l0_1.length c0_1] 30 (0, 0)) q22_ hb); have n3_ := Aside0.mk (below_step q9_ hb); clear HO215; clear BK211; clear HB; have HO215 := n0_; have HO218 := n1_; have BK211 := n2_; have HB := n3_; clear n0_ n1_ n2_ n3_; clear hb ho15))
      go_loopg [5, 6] kj1 (fun kq v5 v6 w' => ∃ (x5_2 : List (List Bool)) (x6_2 : Int), v6 = .int .i64 x6_2 ∧ Aside0 (spec_WeaveOk.l0 kq (l0_0.length : Int) y213 x5_2 x6_2 l0_0 l0_1 = some r) ∧ Aside0 (kq ≤ kj1) ∧ Aside0 (Kd.R (Kd.int .i64) 3 w' w.heap.size (fun _ => True) v214 y213) ∧ Aside0 (Kd.S (Kd.slice 4 Kd.bool) 65 w' w.heap.size (fun _ => True) v5 x5_2) ∧ Aside0 (w'.heap[gb211]? = some (.cells #[(.slice A0_0 l0_0.length c0_0), (.slice A0_1 l0_1.length c0_1)] 30 (0, 0))) ∧ Aside0 (Below w.heap.size w w'))
      case atStart => exact ⟨(y216), (0), q5_, H', ⟨Nat.le_refl _⟩, ⟨by (with_reducible repeat (first | apply Kd.R_alloc | apply Kd.R_drewN | apply Kd.R_drew)); exact HO215.out⟩, ⟨by (with_reducible repeat (first | apply Kd.S_alloc | apply Kd.S_drewN | apply Kd.S_drew)); exact HO218.out⟩, ⟨by (with_reducible repeat (first | refine blk_drewN ?_ _ | refine blk_drew ?_ | refine blk_alloc ?_ _)); exact BK211.out⟩, ⟨by repeat (first | (with_reducible first | exact HB.out | apply below_alloc | apply pw_below_drewN | apply below_drew1 | refine below_set ?_ GE211.out) | exact HB.out)⟩⟩
      case round =>
       clear H'
       try clear c1
       try clear p2
       try clear c5
       try clear c8
       try clear c9
       try clear c9b0
       try clear c9b1
       try clear c10
       try clear c10b0
       try clear c10b1
       try clear c15
       try clear hcz11_0
       try clear hcz11_1
       try clear hcz6_0
       try clear hcz6_1
       try clear hcz7_0
       try clear hcz7_1
       try clear hfz11_0
       try clear hfz11_1
       try clear hfz6_0
       try clear hfz6_1
       try clear hfz7_0
       try clear hfz7_1
       try clear p2
       obtain ⟨x5_2, x6_2, rfl, HA, HK2, HO_4, HO_5, BK211, HB⟩ := hrel
       cases gk with
       | zero => exact absurd HA.out (by simp [spec_WeaveOk.l0])
       | succ k2 =>
        have H := HA.out
        clear HA
        simp only [spec_WeaveOk.l0] at H
        by_cases c16 : x6_2 < (l0_0.length : Int)
        ·rw [if_pos c16] at H
         have c16b0 : decide (x6_2 < (l0_0.length : Int)) = true := decide_eq_true c16
         clear c16
         by_cases c17 : 0 ≤ x6_2
         case neg =>
          rw [if_neg c17] at H
          exact absurd H (by simp)
         rw [if_pos c17] at H
         have c17b0 : decide (0 ≤ x6_2) = true := decide_eq_true c17
         clear c17
         by_cases c18 : x6_2 < (l0_0.length : Int)
         case neg =>
          rw [if_neg c18] at H
          exact absurd H (by simp)
         rw [if_pos c18] at H
         have c18b0 : decide (x6_2 < (l0_0.length : Int)) = true := decide_eq_true c18
         clear c18
         replace H := Option.bind_eq_some_iff.mp H
         obtain ⟨t220, A190, H⟩ := H
         replace H : (if x5_2.length < 5864062014805 then (spec_WeaveOk.l0 k2 (l0_0.length : Int) y213 (x5_2 ++ [t220]) (wrap64 (x6_2 + 1)) l0_0 l0_1) else (none)) = some r := H
         have A19 := Aside0.mk A190
         clear A190
         by_cases c20 : x5_2.length < 5864062014805
         case neg =>
          rw [if_neg c20] at H
          exact absurd H (by simp)
         rw [if_pos c20] at H
         have LMc20 := Aside0.mk c20
         clear c20
         obtain ⟨y223, hy223⟩ : ∃ y_ : List (List Bool), y_ = (x5_2 ++ [t220]) := ⟨_, rfl⟩
         replace H : (spec_WeaveOk.l0 k2 (l0_0.length : Int) y213 y223 (wrap64 (x6_2 + 1)) l0_0 l0_1) = some r := by first | (rw [hy223]; with_reducible exact H) | (have H2_ := (Option.bind_some _ _).symm.trans H; rw [hy223]; with_reducible exact H2_) | (have H2_ := (Option.bind_some _ _).symm.trans H; with_reducible exact H2_) | with_reducible exact H | (rw [hy223]; exact H) | exact H
         have Ny223 := Aside0.mk hy223
         clear hy223
         have H' := Aside0.mk H
         clear H
         try go_wp2
         have n0_ := Aside0.mk (Kd.R_drew HO_4.out)
         have n1_ := Aside0.mk (Kd.S_drew HO_5.out)
         have n2_ := Aside0.mk (blk_drew BK211.out)
         have n3_ := Aside0.mk (below_drew1 HB.out)
         clear HO_4
         clear HO_5
         clear BK211
         clear HB
         have HO_4 := n0_
         have HO_5 := n1_
         have BK211 := n2_
         have HB := n3_
         clear n0_ n1_ n2_ n3_
         have p219 : 0 ≤ (x6_2 : Int) := of_decide_eq_true q2_
         have q219 : x6_2 < (l0_0.length : Int) := of_decide_eq_true q2_
         obtain ⟨ad219, A219_0, c219_0, e219, hx219_0, hl219_0, hi219_0⟩ := at_L1 HR0_0.out x6_2 p219 q219
         have hw219_0 := hx219_0
         cases e219
         replace hx219_0 := (HB.out.cell (World.block_lt_of_cell? w _ hx219_0)).trans hx219_0
         have HR219_0 := Aside0.mk hi219_0
         have HC219_0 := Aside0.mk hl219_0
         clear hi219_0 hl219_0
         replace p219 := eq_true p219
         replace q219 := eq_true q219
         refine start_ (n := 12) (S := fun w' => w'.cell? ⟨gb211, 0, none⟩ = some (.slice (some ad219) l0_0.length c0_0) ∧ w'.cell? ⟨gb211, 1, none⟩ = some (.slice A0_1 l0_1.length c0_1) ∧ w'.cell? (ad219.add (x6_2).toNat) = some (.slice A219_0 (rd_L1 l0_0 x6_2).length c219_0)) (ds := []) #[false, false, false, false, false, false, false, false, false, false, false, false] (by kernel_rfl) rfl rfl ⟨(blk_cell BK211.out 0).trans rfl, (blk_cell BK211.out 1).trans rfl, ((HB.out.cell (World.block_lt_of_cell? w _ hw219_0)).trans hw219_0)⟩ (fun hHeld => ?_); refine with_tabW spec_WeaveOk.tab9 spec_WeaveOk.bits9 (fun HT_ HW_ => ?_)
         generalize wr.drew = w21 at HO_4 HO_5 BK211 HB HR219_0 hx219_0 hHeld ⊢
         refine pure_ (i := 0) (N := some 32) (v := ?_) (a' := ?_) #[true, false, false, false, false, false, false, false, false, false, false, false] rfl rfl (any_of HT_.out (by kernel_rfl)) (fun _ _ _ h => h) (Or.inl ⟨by rfl, ?_⟩) ?_ ?_
         rotate_left; exact pw_; rotate_left; exact pz_
         refine pure_ (i := 1) (N := some 33) (v := ?_) (a' := ?_) #[true, true, false, false, false, false, false, false, false, false, false, false] rfl rfl (any_of HT_.out (by kernel_rfl)) (fun _ _ _ h => h) (Or.inl ⟨by rfl, ?_⟩) ?_ ?_
         rotate_left; exact pw_; rotate_left; exact pz_
         refine pure_ (i := 3) (N := some 35) (v := ?_) (a' := ?_) #[true, true, false, true, false, false, false, false, false, false, false, false] rfl rfl (any_of HT_.out (by kernel_rfl)) (fun _ _ _ h => h) (Or.inl ⟨by rfl, ?_⟩) ?_ ?_
         rotate_left; exact pw_; rotate_left; exact pz_
         refine pure_ (i := 5) (N := some 37) (v := ?_) (a' := ?_) #[true, true, false, true, false, true, false, false, false, false, false, false] rfl rfl (any_of HT_.out (by kernel_rfl)) (fun _ _ _ h => h) (Or.inl ⟨by rfl, ?_⟩) ?_ ?_
         rotate_left; exact pw_; rotate_left; exact pz_
         refine take_ (i := 2) (N := some 34) (v := ?_) (a' := ?_) #[true, true, true, true, false, true, false, false, false, false, false, false] rfl rfl (take_ofW HT_.out HW_.out (by kernel_rfl)) (fun _ _ _ h => h) (Or.inl ⟨by rfl, ?_⟩) hHeld ?_ ?_
         rotate_left; exact pw3_; rotate_left; exact pz_
         refine take_ (i := 4) (N := some 36) (v := ?_) (a' := ?_) #[true, true, true, true, true, true, false, false, false, false, false, false] rfl rfl (take_ofW HT_.out HW_.out (by kernel_rfl)) (fun _ _ _ h => h) (Or.inl ⟨by rfl, ?_⟩) hHeld ?_ ?_
         rotate_left; exact pw3_; rotate_left; exact pz_
         refine pure_ (i := 6) (N := some 38) (v := ?_) (a' := ?_) #[true, true, true, true, true, true, true, false, false, false, false, false] rfl rfl (any_of HT_.out (by kernel_rfl)) (fun _ _ _ h => h) (Or.inl ⟨by rfl, ?_⟩) ?_ ?_
         rotate_left; exact pw_; rotate_left; exact pz_
         refine take_ (i := 7) (N := some 39) (v := ?_) (a' := ?_) #[true, true, true, true, true, true, true, true, false, false, false, false] rfl rfl (take_ofW HT_.out HW_.out (by kernel_rfl)) (fun _ _ _ h => h) (Or.inl ⟨by rfl, ?_⟩) hHeld ?_ ?_
         rotate_left; exact pw3_; rotate_left; exact pz_
         refine one_ (i := 8) (N := some 40) #[true, true, true, true, true, true, true, true, true, false, false, false] rfl rfl (one_of HT_.out (by kernel_rfl)) (by decide) (fun K hK => ?_)
         refine goes_ Try.func52 (by kernel_rfl) rfl #[.slice (some ad219) l0_0.length c0_0, .slice A219_0 (rd_L1 l0_0 x6_2).length c219_0] (by rfl) rfl rfl q0_ ?_
         with_reducible refine (spec_l05Set.calls k2 _ _ l0_0 _ _ (rd_L1 l0_0 x6_2) t220 _ ?side1 ?side2 ?side3 ?side4 A19.out).mono ?_
         (case side1 => exact q4_)
         (case side2 => exact HC0_0.out)
         (case side3 => exact (by repeat (first | exact (Kd.C_below HR219_0.out HB.out) | (with_reducible refine Kd.C_alloc ?_ _) | (with_reducible refine Kd.C_drewN ?_ _) | (with_reducible refine Kd.C_drew ?_))))
         (case side4 => exact HC219_0.out)
         rintro e w22 ⟨v221, rfl, ho0, hb⟩
         refine ⟨_, rfl, ?_⟩
         have n0_ := Aside0.mk (Kd.R_below q35_ hb)
         have n1_ := Aside0.mk (Kd.S_elder' q64_ (Kd.R_base ho0) hb)
         have n2_ := Aside0.mk (Kd.R_lower ho0 (below_size q9_))
         have n3_ := Aside0.mk (blk_below (g := gb211) (o := .cells #[.slice (some ad219) l0_0.length c0_0, .slice A0_1 l0_1.length c0_1] 30 (0, 0)) q22_ hb)
         have n4_ := Aside0.mk (below_step q9_ hb)
         clear HO_4
         clear HO_5
         clear BK211
         clear HB
         have HO_4 := n0_
         have HO_5 := n1_
         have HO222 := n2_
         have BK211 := n3_
         have HB := n4_
         clear n0_ n1_ n2_ n3_ n4_
         (try clear hb)
         (try clear hb2)
         (try clear hk)
         (try clear hi)
         (try clear ho0)
         obtain ⟨Ao24, co24, eo24⟩ := Kd.R_slice HO222.out
         (first | subst eo24 | (injection eo24 with f1_ f2_ f3_; have f4_ := f1_.symm; have f5_ := f3_.symm; clear f1_ f2_ f3_; subst f4_; subst f5_))
         refine hK.out _ _ ⟨(blk_cell BK211.out 0).trans rfl, (blk_cell BK211.out 1).trans rfl, ((HB.out.cell (World.block_lt_of_cell? w _ hw219_0)).trans hw219_0)⟩ (fun hHeld => ?_)
         clear hK K
         refine norm_ (a' := ?_) ?_ ?_
         rotate_left
         ·show Act.put _ (some 40) _ = _
          simp only [Act.put, List.setIfInBounds_toArray, List.set_cons_zero, List.set_cons_succ, i64_w, i32_w]
          rfl
         refine one_ (i := 9) (N := some 41) #[true, true, true, true, true, true, true, true, true, true, false, false] rfl rfl (one_of HT_.out (by kernel_rfl)) (by decide) (fun K hK => ?_)
         refine value_ (w1 := ?_) (v := ?_) (by rfl) rfl ?_ ?_
         rotate_left 2
         ·go_simp
          constructor
          ·rfl
          ·rfl
         refine hK.out _ _ ⟨(blk_cell (blk_alloc BK211.out _) 0).trans rfl, (blk_cell (blk_alloc BK211.out _) 1).trans rfl, (World.cell?_alloc_lt _ _ _ (World.block_lt_of_cell? _ _ (((HB.out.cell (World.block_lt_of_cell? w _ hw219_0)).trans hw219_0)))).trans (((HB.out.cell (World.block_lt_of_cell? w _ hw219_0)).trans hw219_0))⟩ (fun hHeld => ?_)
         clear hK K
         refine norm_ (a' := ?_) ?_ ?_
         rotate_left
         ·show Act.put _ (some 41) _ = _
          simp only [Act.put, List.setIfInBounds_toArray, List.set_cons_zero, List.set_cons_succ, i64_w, i32_w]
          rfl
         refine one_ (i := 10) (N := some 42) #[true, true, true, true, true, true, true, true, true, true, true, false] rfl rfl (one_of HT_.out (by kernel_rfl)) (by decide) (fun K hK => ?_)
         refine Kd.S_append_step (Kd.slice 4 Kd.bool) (w0 := w) w.heap.size (by rfl) (.tmp 32) (.tmp 41) 64 65 (.slice none 0 0) 24 rfl Try.underlying64 info65 rfl (by decide) (by omega) u5 x5_2 t220 [.slice Ao24 t220.length co24] (fun _ => True) (fun k_ => some k_ = (.slice Ao24 t220.length co24 : Value).ownBlock) rfl rfl ?aP (fun k_ hk_ => ((Kd.R_mono (ok' := fun k_ => ((fun _ => True)) k_ ∧ some k_ ≠ (u5 : Value).ownBlock) (Kd.R_apart' (HO222.out) (Kd.S_typed HO_5.out) (by decide)) (fun k_ hk => ⟨trivial, hk.2⟩))).1 k_ hk_.symm) ?aF ?aO ?aB ?aS ?aL ?_
         (case aP => exact Kd.M_row (Kd.R_mono (Kd.R_tight rfl (Kd.R_mono (ok' := fun k_ => ((fun _ => True)) k_ ∧ some k_ ≠ (u5 : Value).ownBlock) (Kd.R_apart' (HO222.out) (Kd.S_typed HO_5.out) (by decide)) (fun k_ hk => ⟨trivial, hk.2⟩))) (fun _ h_ => h_)))
         (case aB => exact q9_)
         (case aF => exact (fun _ _ => trivial))
         (case aO => exact (by (with_reducible repeat (first | apply Kd.S_alloc | apply Kd.S_drewN | apply Kd.S_drew)); exact Kd.S_mono HO_5.out (fun k_ hk => ⟨trivial, fun e_ => hk.2 e_⟩)))
         (case aS => exact (below_size q9_))
         (case aL => have := LMc20.out; omega)
         intro v224 w23 ho hb hg hat
         rw [← Ny223.out] at ho
         have n0_ := Aside0.mk (Kd.R_over' q35_ (Kd.S_typed q64_) (by decide) hg)
         have n1_ := Aside0.mk (blk_grown (g := gb211) (o := .cells #[.slice (some ad219) l0_0.length c0_0, .slice A0_1 l0_1.length c0_1] 30 (0, 0)) q22_ hg (Kd.S_ne HO_5.out BK211.out (by decide)))
         have n2_ := Aside0.mk (hb)
         have n3_ := Aside0.mk (ho)
         clear HO_4
         clear BK211
         clear HB
         clear HO_5
         clear HO222
         have HO_4 := n0_
         have BK211 := n1_
         have HB := n2_
         have HO225 := n3_
         clear n0_ n1_ n2_ n3_
         clear ho hb hg hat
         refine hK.out _ _ ⟨(blk_cell BK211.out 0).trans rfl, (blk_cell BK211.out 1).trans rfl, ((HB.out.cell (World.block_lt_of_cell? w _ hw219_0)).trans hw219_0)⟩ (fun hHeld => ?_)
         clear hK K
         refine norm_ (a' := ?_) ?_ ?_
         rotate_left
         ·show Act.put _ (some 42) _ = _
          simp only [Act.put, List.setIfInBounds_toArray, List.set_cons_zero, List.set_cons_succ, i64_w, i32_w]
          rfl
         refine pure_ (i := 11) (N := some 5) (v := ?_) (a' := ?_) #[true, true, true, true, true, true, true, true, true, true, true, true] rfl rfl (any_of HT_.out (by kernel_rfl)) (fun _ _ _ h => h) (Or.inl ⟨by rfl, ?_⟩) ?_ ?_
         rotate_left; exact pw_; rotate_left; exact pz_
         refine done_ (done_of HT_.out (by kernel_rfl)) ?_
         try go_wp2
         go_roundg k2
         case measure => have := HJ1.out; have := HK2.out; omega
         case rel => exact ⟨(y223), (wrap64 (x6_2 + 1)), q5_, H', ⟨by have := HJ1.out; have := HK2.out; omega⟩, ⟨by (with_reducible repeat (first | apply Kd.R_alloc | apply Kd.R_drewN | apply Kd.R_drew)); exact HO_4.out⟩, ⟨by (with_reducible repeat (first | apply Kd.S_alloc | apply Kd.S_drewN | apply Kd.S_drew)); exact HO225.out⟩, ⟨by (with_reducible repeat (first | refine blk_drewN ?_ _ | refine blk_drew ?_ | refine blk_alloc ?_ _)); exact BK211.out⟩, ⟨by repeat (first | (with_reducible first | exact HB.out | apply below_alloc | apply pw_below_drewN | apply below_drew1 | refine below_set ?_ GE211.out) | exact HB.out)⟩⟩
        ·rw [if_neg c16] at H
         have c16b0 : decide (x6_2 < (l0_0.length : Int)) = false := decide_eq_false c16
         clear c16
         have H' := Aside0.mk H
         clear H
         go_wp2
         go_loopg [7] k2 (fun kq v7 w' => ∃ (x4_3 : List Int) (x7_3 : Int), v7 = .int .i64 x7_3 ∧ Aside0 (spec_WeaveOk.l1 kq (l0_0.length : Int) x4_3 x5_2 x7_3 l0_0 l0_1 = some r) ∧ Aside0 (kq ≤ k2) ∧ Aside0 (Kd.R (Kd.int .i64) 3 w' w.heap.size (fun _ => True) v214 x4_3) ∧ Aside0 (Kd.S (Kd.slice 4 Kd.bool) 65 w' w.heap.size (fun _ => True) u5 x5_2) ∧ Aside0 (w'.heap[gb211]? = some (.cells #[(.slice A0_0 l0_0.length c0_0), (.slice A0_1 l0_1.length c0_1)] 30 (0, 0))) ∧ Aside0 (Below w.heap.size w w'))
         case atStart => exact ⟨(y213), (0), q5_, H', ⟨Nat.le_refl _⟩, ⟨by (with_reducible repeat (first | apply Kd.R_alloc | apply Kd.R_drewN | apply Kd.R_drew)); exact HO_4.out⟩, ⟨by (with_reducible repeat (first | apply Kd.S_alloc | apply Kd.S_drewN | apply Kd.S_drew)); exact HO_5.out⟩, ⟨by (with_reducible repeat (first | refine blk_drewN ?_ _ | refine blk_drew ?_ | refine blk_alloc ?_ _)); exact BK211.out⟩, ⟨by repeat (first | (with_reducible first | exact HB.out | apply below_alloc | apply pw_below_drewN | apply below_drew1 | refine below_set ?_ GE211.out) | exact HB.out)⟩⟩
         case round =>
          clear H'
          try clear c1
          try clear c2
          try clear p2
          try clear q2
          try clear hx2
          try clear c5
          try clear p6
          try clear c8
          try clear c9
          try clear c9b0
          try clear c9b1
          try clear c10
          try clear c10b0
          try clear c10b1
          try clear c15
          try clear c16
          try clear c16b0
          try clear c17
          try clear c17b0
          try clear c18
          try clear c18b0
          try clear c20
          try clear c21
          try clear p21
          try clear q21
          try clear hx21
          try clear hcz11_0
          try clear hcz11_1
          try clear hcz6_0
          try clear hcz6_1
          try clear hcz7_0
          try clear hcz7_1
          try clear hfz11_0
          try clear hfz11_1
          try clear hfz6_0
          try clear hfz6_1
          try clear hfz7_0
          try clear hfz7_1
          try clear hx219_0
          try clear p2
          try clear p219
          try clear q219
          obtain ⟨x4_3, x7_3, rfl, HA, HK3, HO_4, HO_5, BK211, HB⟩ := hrel
          cases gk with
          | zero => exact absurd HA.out (by simp [spec_WeaveOk.l1])
          | succ k3 =>
           have H := HA.out
           clear HA
           simp only [spec_WeaveOk.l1] at H
           by_cases c25 : x7_3 < (l0_1.length : Int)
           ·rw [if_pos c25] at H
            have c25b0 : decide (x7_3 < (l0_1.length : Int)) = true := decide_eq_true c25
            clear c25
            by_cases c26 : 0 ≤ x7_3
            case neg =>
             rw [if_neg c26] at H
             exact absurd H (by simp)
            rw [if_pos c26] at H
            have c26b0 : decide (0 ≤ x7_3) = true := decide_eq_true c26
            clear c26
            have HC27 := Aside0.mk H
            clear H
            have hcz28_0 : wr.cell? ⟨gb211, 0, none⟩ = some (.slice A0_0 l0_0.length c0_0) := (blk_cell BK211.out 0).trans rfl
            have hcz28_1 : wr.cell? ⟨gb211, 1, none⟩ = some (.slice A0_1 l0_1.length c0_1) := (blk_cell BK211.out 1).trans rfl
            have hfz28_0 := blk_frozen BK211.out 0
            have hfz28_1 := blk_frozen BK211.out 1
            have p226 : 0 ≤ (x7_3 : Int) := of_decide_eq_true q2_
            have q226 : x7_3 < (l0_1.length : Int) := of_decide_eq_true q2_
            obtain ⟨ad226, A226_3, c226_3, e226, hx226_0, hx226_1, hx226_2, hx226_3, hl226_3, hi226_3⟩ := at_T68 HR0_1.out x7_3 p226 q226
            cases e226
            replace hx226_0 := (HB.out.cell (World.block_lt_of_cell? w _ hx226_0)).trans hx226_0
            replace hx226_1 := (HB.out.cell (World.block_lt_of_cell? w _ hx226_1)).trans hx226_1
            replace hx226_2 := (HB.out.cell (World.block_lt_of_cell? w _ hx226_2)).trans hx226_2
            replace hx226_3 := (HB.out.cell (World.block_lt_of_cell? w _ hx226_3)).trans hx226_3
            have HR226_3 := Aside0.mk hi226_3
            have HC226_3 := Aside0.mk hl226_3
            clear hi226_3 hl226_3
            replace p226 := eq_true p226
            replace q226 := eq_true q226
            go_upto_region 14 with (first | ((with_reducible refine gate_dst (N := 8) rfl ?_); (try (refine gate_guard (by rfl) ?_; dsimp only)); refine box_event ?hg (N := 8) ?hd (cs := #[.string (⟨#[]⟩ : ByteArray), .int .i64 0, .int .i64 0, .slice none 0 0]) (t := 68) ?hr ?_; (case hd => rfl); (case hg => rfl); (case hr => first | (go_simp; done) | (go_simp; rfl)); intro gb227 hg w29 hbox hb; have n0_ := Aside0.mk (Kd.R_below q35_ hb); have n1_ := Aside0.mk (Kd.S_below q64_ hb); have n2_ := Aside0.mk (blk_below (g := gb211) (o := .cells #[.slice A0_0 l0_0.length c0_0, .slice (some ad226) l0_1.length c0_1] 30 (0, 0)) q22_ hb); have n3_ := Aside0.mk (below_step q9_ hb); have n4_ := Aside0.mk (hbox); have n5_ := Aside0.mk ((by rw [hg]; exact (below_size q9_) : w.heap.size ≤ gb227)); have n6_ := Aside0.mk ((by rw [hg]; exact (below_size q9_) : w.heap.size ≤ gb227)); have n7_ := Aside0.mk ((by rw [hg]; exact Nat.ne_of_lt (blk_lt (g := gb211) (o := .cells #[.slice A0_0 l0_0.length c0_0, .slice (some ad226) l0_1.length c0_1] 30 (0, 0)) q22_) : gb211 ≠ gb227)); have n8_ := Aside0.mk ((by rw [hg]; exact Nat.ne_of_gt (blk_lt (g := gb211) (o := .cells #[.slice A0_0 l0_0.length c0_0, .slice (some ad226) l0_1.length c0_1] 30 (0, 0)) q22_) : gb227 ≠ gb211)); clear HO_4; clear HO_5; clear BK211; clear HB; have HO_4 := n0_; have HO_5 := n1_; have BK211 := n2_; have HB := n3_; have BK227 := n4_; have GW227 := n5_; have GE227 := n6_; have NB211_227 := n7_; have NB227_211 := n8_; clear n0_ n1_ n2_ n3_ n4_ n5_ n6_ n7_ n8_; clear hb hbox hg; have hnb30 := NB227_211.out; have hnc30 := NB211_227.out; have hcz31_0 : w29.cell? ⟨gb227, 0, none⟩ = some (.string (⟨#[]⟩ : ByteArray)) := (blk_cell BK227.out 0).trans rfl; have hcz31_1 : w29.cell? ⟨gb227, 1, none⟩ = some (.int .i64 0) := (blk_cell BK227.out 1).trans rfl; have hcz31_2 : w29.cell? ⟨gb227, 2, none⟩ = some (.int .i64 0) := (blk_cell BK227.out 2).trans rfl; have hcz31_3 : w29.cell? ⟨gb227, 3, none⟩ = some (.slice none 0 0) := (blk_cell BK227.out 3).trans rfl; have hfz31_0 := blk_frozen BK227.out 0; have hfz31_1 := blk_frozen BK227.out 1; have hfz31_2 := blk_frozen BK227.out 2; have hfz31_3 := blk_frozen BK227.out 3))
            (try simp only [Act.put, List.setIfInBounds_toArray, List.set_cons_zero, List.set_cons_succ])
            go_cut [83] (fun v83 wc => ∃ (kq : Nat) (x83_26 : Bool), v83 = .bool x83_26 ∧ Aside0 (spec_WeaveOk.j3 kq (l0_0.length : Int) x4_3 x5_2 x7_3 x83_26 l0_0 l0_1 ((rd_T68 l0_1 x7_3).f0) ((rd_T68 l0_1 x7_3).f1) ((rd_T68 l0_1 x7_3).f2) ((rd_T68 l0_1 x7_3).f3) = some r) ∧ Aside0 (kq ≤ k3) ∧ Aside0 (Kd.R (Kd.int .i64) 3 wc w.heap.size (fun _ => True) v214 x4_3) ∧ Aside0 (Kd.S (Kd.slice 4 Kd.bool) 65 wc w.heap.size (fun _ => True) u5 x5_2) ∧ Aside0 (wc.heap[gb211]? = some (.cells #[(.slice A0_0 l0_0.length c0_0), (.slice (some ad226) l0_1.length c0_1)] 30 (0, 0))) ∧ Aside0 (wc.heap[gb227]? = some (.cells #[.string ((rd_T68 l0_1 x7_3).f0), .int .i64 ((rd_T68 l0_1 x7_3).f1), .int .i64 ((rd_T68 l0_1 x7_3).f2), (.slice A226_3 ((rd_T68 l0_1 x7_3).f3).length c226_3)] 68 (0, 0))) ∧ Aside0 (Below w.heap.size w wc))
            case first =>
             have H := HC27.out
             clear HC27
             replace H := Option.bind_eq_some_iff.mp H
             obtain ⟨t228, A320, H⟩ := H
             replace H : (if t228 = true then ((spec_l01In.f ((rd_T68 l0_1 x7_3).f1) 0 (wrap64 ((l0_0.length : Int) - 1))).bind fun t229 => (if t229 = true then (if 0 ≤ ((rd_T68 l0_1 x7_3).f1) then (if ((rd_T68 l0_1 x7_3).f1) < (x4_3.length : Int) then (if ((rd_T68 l0_1 x7_3).f2) = (rd x4_3 ((rd_T68 l0_1 x7_3).f1)) then ((spec_l05Rise.f k3 ((rd_T68 l0_1 x7_3).f3) (l0_0.length : Int)).bind fun t231 => (spec_WeaveOk.j3 k3 (l0_0.length : Int) x4_3 x5_2 x7_3 (!t231) l0_0 l0_1 ((rd_T68 l0_1 x7_3).f0) ((rd_T68 l0_1 x7_3).f1) ((rd_T68 l0_1 x7_3).f2) ((rd_T68 l0_1 x7_3).f3))) else (spec_WeaveOk.j3 k3 (l0_0.length : Int) x4_3 x5_2 x7_3 true l0_0 l0_1 ((rd_T68 l0_1 x7_3).f0) ((rd_T68 l0_1 x7_3).f1) ((rd_T68 l0_1 x7_3).f2) ((rd_T68 l0_1 x7_3).f3))) else (none)) else (none)) else (spec_WeaveOk.j3 k3 (l0_0.length : Int) x4_3 x5_2 x7_3 true l0_0 l0_1 ((rd_T68 l0_1 x7_3).f0) ((rd_T68 l0_1 x7_3).f1) ((rd_T68 l0_1 x7_3).f2) ((rd_T68 l0_1 x7_3).f3)))) else (spec_WeaveOk.j3 k3 (l0_0.length : Int) x4_3 x5_2 x7_3 true l0_0 l0_1 ((rd_T68 l0_1 x7_3).f0) ((rd_T68 l0_1 x7_3).f1) ((rd_T68 l0_1 x7_3).f2) ((rd_T68 l0_1 x7_3).f3))) = some r := H
             have A32 := Aside0.mk A320
             clear A320
             by_cases c33 : t228 = true
             ·subst c33
              have H1 : ((spec_l01In.f ((rd_T68 l0_1 x7_3).f1) 0 (wrap64 ((l0_0.length : Int) - 1))).bind fun t229 => (if t229 = true then (if 0 ≤ ((rd_T68 l0_1 x7_3).f1) then (if ((rd_T68 l0_1 x7_3).f1) < (x4_3.length : Int) then (if ((rd_T68 l0_1 x7_3).f2) = (rd x4_3 ((rd_T68 l0_1 x7_3).f1)) then ((spec_l05Rise.f k3 ((rd_T68 l0_1 x7_3).f3) (l0_0.length : Int)).bind fun t231 => (spec_WeaveOk.j3 k3 (l0_0.length : Int) x4_3 x5_2 x7_3 (!t231) l0_0 l0_1 ((rd_T68 l0_1 x7_3).f0) ((rd_T68 l0_1 x7_3).f1) ((rd_T68 l0_1 x7_3).f2) ((rd_T68 l0_1 x7_3).f3))) else (spec_WeaveOk.j3 k3 (l0_0.length : Int) x4_3 x5_2 x7_3 true l0_0 l0_1 ((rd_T68 l0_1 x7_3).f0) ((rd_T68 l0_1 x7_3).f1) ((rd_T68 l0_1 x7_3).f2) ((rd_T68 l0_1 x7_3).f3))) else (none)) else (none)) else (spec_WeaveOk.j3 k3 (l0_0.length : Int) x4_3 x5_2 x7_3 true l0_0 l0_1 ((rd_T68 l0_1 x7_3).f0) ((rd_T68 l0_1 x7_3).f1) ((rd_T68 l0_1 x7_3).f2) ((rd_T68 l0_1 x7_3).f3)))) = some r := by rw [if_pos rfl] at H; exact H
              clear H
              have H := H1
              clear H1
              replace H := Option.bind_eq_some_iff.mp H
              obtain ⟨t229, A340, H⟩ := H
              replace H : (if t229 = true then (if 0 ≤ ((rd_T68 l0_1 x7_3).f1) then (if ((rd_T68 l0_1 x7_3).f1) < (x4_3.length : Int) then (if ((rd_T68 l0_1 x7_3).f2) = (rd x4_3 ((rd_T68 l0_1 x7_3).f1)) then ((spec_l05Rise.f k3 ((rd_T68 l0_1 x7_3).f3) (l0_0.length : Int)).bind fun t231 => (spec_WeaveOk.j3 k3 (l0_0.length : Int) x4_3 x5_2 x7_3 (!t231) l0_0 l0_1 ((rd_T68 l0_1 x7_3).f0) ((rd_T68 l0_1 x7_3).f1) ((rd_T68 l0_1 x7_3).f2) ((rd_T68 l0_1 x7_3).f3))) else (spec_WeaveOk.j3 k3 (l0_0.length : Int) x4_3 x5_2 x7_3 true l0_0 l0_1 ((rd_T68 l0_1 x7_3).f0) ((rd_T68 l0_1 x7_3).f1) ((rd_T68 l0_1 x7_3).f2) ((rd_T68 l0_1 x7_3).f3))) else (none)) else (none)) else (spec_WeaveOk.j3 k3 (l0_0.length : Int) x4_3 x5_2 x7_3 true l0_0 l0_1 ((rd_T68 l0_1 x7_3).f0) ((rd_T68 l0_1 x7_3).f1) ((rd_T68 l0_1 x7_3).f2) ((rd_T68 l0_1 x7_3).f3))) = some r := H
              have A34 := Aside0.mk A340
              clear A340
              by_cases c35 : t229 = true
              ·subst c35
               have H1 : (if 0 ≤ ((rd_T68 l0_1 x7_3).f1) then (if ((rd_T68 l0_1 x7_3).f1) < (x4_3.length : Int) then (if ((rd_T68 l0_1 x7_3).f2) = (rd x4_3 ((rd_T68 l0_1 x7_3).f1)) then ((spec_l05Rise.f k3 ((rd_T68 l0_1 x7_3).f3) (l0_0.length : Int)).bind fun t231 => (spec_WeaveOk.j3 k3 (l0_0.length : Int) x4_3 x5_2 x7_3 (!t231) l0_0 l0_1 ((rd_T68 l0_1 x7_3).f0) ((rd_T68 l0_1 x7_3).f1) ((rd_T68 l0_1 x7_3).f2) ((rd_T68 l0_1 x7_3).f3))) else (spec_WeaveOk.j3 k3 (l0_0.length : Int) x4_3 x5_2 x7_3 true l0_0 l0_1 ((rd_T68 l0_1 x7_3).f0) ((rd_T68 l0_1 x7_3).f1) ((rd_T68 l0_1 x7_3).f2) ((rd_T68 l0_1 x7_3).f3))) else (none)) else (none)) = some r := by rw [if_pos rfl] at H; exact H
               clear H
               have H := H1
               clear H1
               by_cases c36 : 0 ≤ ((rd_T68 l0_1 x7_3).f1)
               case neg =>
                rw [if_neg c36] at H
                exact absurd H (by simp)
               rw [if_pos c36] at H
               have c36b0 : decide (0 ≤ ((rd_T68 l0_1 x7_3).f1)) = true := decide_eq_true c36
               clear c36
               (first | rw [c36b0] | (simp only [i64_w, i32_w]; rw [c36b0]) | skip)
               by_cases c37 : ((rd_T68 l0_1 x7_3).f1) < (x4_3.length : Int)
               case neg =>
                rw [if_neg c37] at H
                exact absurd H (by simp)
               rw [if_pos c37] at H
               have c37b0 : decide (((rd_T68 l0_1 x7_3).f1) < (x4_3.length : Int)) = true := decide_eq_true c37
               clear c37
               by_cases c38 : ((rd_T68 l0_1 x7_3).f2) = (rd x4_3 ((rd_T68 l0_1 x7_3).f1))
               ·rw [if_pos c38] at H
                have c38b0 : (((rd_T68 l0_1 x7_3).f2) == (rd x4_3 ((rd_T68 l0_1 x7_3).f1))) = true := beq_iff_eq.mpr c38
                have c38b1 : (((rd_T68 l0_1 x7_3).f2) != (rd x4_3 ((rd_T68 l0_1 x7_3).f1))) = false := bne_eq_false_iff_eq.mpr c38
                clear c38
                replace H := Option.bind_eq_some_iff.mp H
                obtain ⟨t231, A390, H⟩ := H
                replace H : (spec_WeaveOk.j3 k3 (l0_0.length : Int) x4_3 x5_2 x7_3 (!t231) l0_0 l0_1 ((rd_T68 l0_1 x7_3).f0) ((rd_T68 l0_1 x7_3).f1) ((rd_T68 l0_1 x7_3).f2) ((rd_T68 l0_1 x7_3).f3)) = some r := H
                have A39 := Aside0.mk A390
                clear A390
                have H' := Aside0.mk H
                clear H
                try go_wp2
                have n0_ : Aside0 (Kd.R (Kd.int .i64) 3 ((((w29.setCell ⟨gb227, 0, none⟩ (.string ((rd_T68 l0_1 x7_3).f0))).setCell ⟨gb227, 1, none⟩ (.int .i64 ((rd_T68 l0_1 x7_3).f1))).setCell ⟨gb227, 2, none⟩ (.int .i64 ((rd_T68 l0_1 x7_3).f2))).setCell ⟨gb227, 3, none⟩ (.slice A226_3 ((rd_T68 l0_1 x7_3).f3).length c226_3)) w.heap.size (fun _ => True) v214 x4_3) := ⟨by (with_reducible repeat (first | apply Kd.R_alloc | apply Kd.R_drewN | apply Kd.R_drew)); exact Kd.R_mono (Kd.R_far (p := ⟨gb227, 3, none⟩) (Kd.R_far (p := ⟨gb227, 2, none⟩) (Kd.R_far (p := ⟨gb227, 1, none⟩) (Kd.R_far (p := ⟨gb227, 0, none⟩) (Kd.R_types HO_4.out BK227.out (by decide)) (fun _ hk => hk.2) (.string ((rd_T68 l0_1 x7_3).f0))) (fun _ hk => hk.2) (.int .i64 ((rd_T68 l0_1 x7_3).f1))) (fun _ hk => hk.2) (.int .i64 ((rd_T68 l0_1 x7_3).f2))) (fun _ hk => hk.2) (.slice A226_3 ((rd_T68 l0_1 x7_3).f3).length c226_3)) (fun _ hk => trivial)⟩
                have n1_ : Aside0 (Kd.S (Kd.slice 4 Kd.bool) 65 ((((w29.setCell ⟨gb227, 0, none⟩ (.string ((rd_T68 l0_1 x7_3).f0))).setCell ⟨gb227, 1, none⟩ (.int .i64 ((rd_T68 l0_1 x7_3).f1))).setCell ⟨gb227, 2, none⟩ (.int .i64 ((rd_T68 l0_1 x7_3).f2))).setCell ⟨gb227, 3, none⟩ (.slice A226_3 ((rd_T68 l0_1 x7_3).f3).length c226_3)) w.heap.size (fun _ => True) u5 x5_2) := ⟨by (with_reducible repeat (first | apply Kd.S_alloc | apply Kd.S_drewN | apply Kd.S_drew)); exact Kd.S_mono (Kd.S_far (p := ⟨gb227, 3, none⟩) (Kd.S_far (p := ⟨gb227, 2, none⟩) (Kd.S_far (p := ⟨gb227, 1, none⟩) (Kd.S_far (p := ⟨gb227, 0, none⟩) (Kd.S_types HO_5.out BK227.out (by decide)) (fun _ hk => hk.2) (.string ((rd_T68 l0_1 x7_3).f0))) (fun _ hk => hk.2) (.int .i64 ((rd_T68 l0_1 x7_3).f1))) (fun _ hk => hk.2) (.int .i64 ((rd_T68 l0_1 x7_3).f2))) (fun _ hk => hk.2) (.slice A226_3 ((rd_T68 l0_1 x7_3).f3).length c226_3)) (fun _ hk => trivial)⟩
                have n2_ : Aside0 (((((w29.setCell ⟨gb227, 0, none⟩ (.string ((rd_T68 l0_1 x7_3).f0))).setCell ⟨gb227, 1, none⟩ (.int .i64 ((rd_T68 l0_1 x7_3).f1))).setCell ⟨gb227, 2, none⟩ (.int .i64 ((rd_T68 l0_1 x7_3).f2))).setCell ⟨gb227, 3, none⟩ (.slice A226_3 ((rd_T68 l0_1 x7_3).f3).length c226_3)).heap[gb211]? = some (.cells #[.slice A0_0 l0_0.length c0_0, .slice (some ad226) l0_1.length c0_1] 30 (0, 0))) := ⟨by (with_reducible repeat (first | refine blk_drewN ?_ _ | refine blk_drew ?_ | refine blk_alloc ?_ _)); refine blk_far ?_ NB211_227.out _; (with_reducible repeat (first | refine blk_drewN ?_ _ | refine blk_drew ?_ | refine blk_alloc ?_ _)); refine blk_far ?_ NB211_227.out _; (with_reducible repeat (first | refine blk_drewN ?_ _ | refine blk_drew ?_ | refine blk_alloc ?_ _)); refine blk_far ?_ NB211_227.out _; (with_reducible repeat (first | refine blk_drewN ?_ _ | refine blk_drew ?_ | refine blk_alloc ?_ _)); refine blk_far ?_ NB211_227.out _; (with_reducible repeat (first | refine blk_drewN ?_ _ | refine blk_drew ?_ | refine blk_alloc ?_ _)); exact BK211.out⟩
                have n3_ : Aside0 (((((w29.setCell ⟨gb227, 0, none⟩ (.string ((rd_T68 l0_1 x7_3).f0))).setCell ⟨gb227, 1, none⟩ (.int .i64 ((rd_T68 l0_1 x7_3).f1))).setCell ⟨gb227, 2, none⟩ (.int .i64 ((rd_T68 l0_1 x7_3).f2))).setCell ⟨gb227, 3, none⟩ (.slice A226_3 ((rd_T68 l0_1 x7_3).f3).length c226_3)).heap[gb227]? = some (.cells #[.string ((rd_T68 l0_1 x7_3).f0), .int .i64 ((rd_T68 l0_1 x7_3).f1), .int .i64 ((rd_T68 l0_1 x7_3).f2), .slice A226_3 ((rd_T68 l0_1 x7_3).f3).length c226_3] 68 (0, 0))) := ⟨by (with_reducible repeat (first | refine blk_drewN ?_ _ | refine blk_drew ?_ | refine blk_alloc ?_ _)); refine blk_put (cs := #[.string ((rd_T68 l0_1 x7_3).f0), .int .i64 ((rd_T68 l0_1 x7_3).f1), .int .i64 ((rd_T68 l0_1 x7_3).f2), .slice none 0 0]) ?_ 3 _ rfl; (with_reducible repeat (first | refine blk_drewN ?_ _ | refine blk_drew ?_ | refine blk_alloc ?_ _)); refine blk_put (cs := #[.string ((rd_T68 l0_1 x7_3).f0), .int .i64 ((rd_T68 l0_1 x7_3).f1), .int .i64 0, .slice none 0 0]) ?_ 2 _ rfl; (with_reducible repeat (first | refine blk_drewN ?_ _ | refine blk_drew ?_ | refine blk_alloc ?_ _)); refine blk_put (cs := #[.string ((rd_T68 l0_1 x7_3).f0), .int .i64 0, .int .i64 0, .slice none 0 0]) ?_ 1 _ rfl; (with_reducible repeat (first | refine blk_drewN ?_ _ | refine blk_drew ?_ | refine blk_alloc ?_ _)); refine blk_put (cs := #[.string (⟨#[]⟩ : ByteArray), .int .i64 0, .int .i64 0, .slice none 0 0]) ?_ 0 _ rfl; (with_reducible repeat (first | refine blk_drewN ?_ _ | refine blk_drew ?_ | refine blk_alloc ?_ _)); exact BK227.out⟩
                have n4_ : Aside0 (Below w.heap.size w ((((w29.setCell ⟨gb227, 0, none⟩ (.string ((rd_T68 l0_1 x7_3).f0))).setCell ⟨gb227, 1, none⟩ (.int .i64 ((rd_T68 l0_1 x7_3).f1))).setCell ⟨gb227, 2, none⟩ (.int .i64 ((rd_T68 l0_1 x7_3).f2))).setCell ⟨gb227, 3, none⟩ (.slice A226_3 ((rd_T68 l0_1 x7_3).f3).length c226_3))) := ⟨by repeat (first | (with_reducible first | exact HB.out | apply below_alloc | apply pw_below_drewN | apply below_drew1 | refine below_set ?_ GE211.out | refine below_set ?_ GE227.out) | exact HB.out)⟩
                (try clear HO_4)
                (try clear HO_5)
                (try clear BK211)
                (try clear BK227)
                (try clear HB)
                generalize ((((w29.setCell ⟨gb227, 0, none⟩ (.string ((rd_T68 l0_1 x7_3).f0))).setCell ⟨gb227, 1, none⟩ (.int .i64 ((rd_T68 l0_1 x7_3).f1))).setCell ⟨gb227, 2, none⟩ (.int .i64 ((rd_T68 l0_1 x7_3).f2))).setCell ⟨gb227, 3, none⟩ (.slice A226_3 ((rd_T68 l0_1 x7_3).f3).length c226_3)) = w40 at n0_ n1_ n2_ n3_ n4_ ⊢
                have HO_4 := n0_
                have HO_5 := n1_
                have BK211 := n2_
                have BK227 := n3_
                have HB := n4_
                clear n0_ n1_ n2_ n3_ n4_
                have n0_ := Aside0.mk (Kd.R_drew HO_4.out)
                have n1_ := Aside0.mk (Kd.S_drew HO_5.out)
                have n2_ := Aside0.mk (blk_drew BK211.out)
                have n3_ := Aside0.mk (blk_drew BK227.out)
                have n4_ := Aside0.mk (below_drew1 HB.out)
                clear HO_4
                clear HO_5
                clear BK211
                clear BK227
                clear HB
                have HO_4 := n0_
                have HO_5 := n1_
                have BK211 := n2_
                have BK227 := n3_
                have HB := n4_
                clear n0_ n1_ n2_ n3_ n4_
                have p230 : 0 ≤ (((rd_T68 l0_1 x7_3).f1) : Int) := of_decide_eq_true q2_
                have q230 : ((rd_T68 l0_1 x7_3).f1) < (x4_3.length : Int) := of_decide_eq_true q2_
                obtain ⟨Aq230_, cq230_, eq230_⟩ := Kd.R_slice HO_4.out
                (first | subst eq230_ | clear eq230_)
                obtain ⟨ad230, e230, hx230_0⟩ := Kd.at_int (Kd.R_reads' HO_4.out).2.2 ((rd_T68 l0_1 x7_3).f1) p230 q230
                cases e230
                replace p230 := eq_true p230
                replace q230 := eq_true q230
                refine start_ (n := 29) (S := fun w' => w'.cell? ⟨gb227, 0, none⟩ = some (.string ((rd_T68 l0_1 x7_3).f0)) ∧ w'.cell? ⟨gb227, 1, none⟩ = some (.int .i64 ((rd_T68 l0_1 x7_3).f1)) ∧ w'.cell? ⟨gb227, 2, none⟩ = some (.int .i64 ((rd_T68 l0_1 x7_3).f2)) ∧ w'.cell? ⟨gb227, 3, none⟩ = some (.slice A226_3 ((rd_T68 l0_1 x7_3).f3).length c226_3) ∧ w'.cell? (ad230.add (((rd_T68 l0_1 x7_3).f1)).toNat) = some (.int .i64 (rd x4_3 ((rd_T68 l0_1 x7_3).f1)))) (ds := []) bv6_0 (by kernel_rfl) rfl rfl ⟨(blk_cell BK227.out 0).trans rfl, (blk_cell BK227.out 1).trans rfl, (blk_cell BK227.out 2).trans rfl, (blk_cell BK227.out 3).trans rfl, hx230_0⟩ (fun hHeld => ?_); refine with_tabW spec_WeaveOk.tab14 spec_WeaveOk.bits14 (fun HT_ HW_ => ?_)
                generalize w40.drew = w41 at HO_4 HO_5 BK211 BK227 HB hx230_0 hHeld ⊢
                refine pure_ (i := 0) (N := some 55) (v := ?_) (a' := ?_) bv6_1 rfl rfl (any_of HT_.out (by kernel_rfl)) (fun _ _ _ h => h) (Or.inl ⟨by rfl, ?_⟩) ?_ ?_
                rotate_left; exact pw_; rotate_left; exact pz_
                refine take_ (i := 1) (N := some 56) (v := ?_) (a' := ?_) bv6_2 rfl rfl (take_ofW HT_.out HW_.out (by kernel_rfl)) (fun _ _ _ h => h) (Or.inl ⟨by rfl, ?_⟩) hHeld ?_ ?_
                rotate_left; exact pw5_; rotate_left; exact pz_
                refine one_ (i := 2) (N := some 57) bv6_3 rfl rfl (one_of HT_.out (by kernel_rfl)) (by decide) (fun K hK => ?_)
                refine goes_ Try.func53 (by kernel_rfl) rfl #[.string ((rd_T68 l0_1 x7_3).f0)] (by rfl) rfl rfl q0_ ?_
                with_reducible refine (spec_LineOk.calls k3 ((rd_T68 l0_1 x7_3).f0) true _ A32.out).mono ?_
                rintro e w' ⟨rfl, ⟨nd, rfl⟩⟩
                refine ⟨_, rfl, ?_⟩
                refine hK.out _ _ ⟨(blk_cell BK227.out 0).trans rfl, (blk_cell BK227.out 1).trans rfl, (blk_cell BK227.out 2).trans rfl, (blk_cell BK227.out 3).trans rfl, hHeld.2.2.2.2⟩ (fun hHeld => ?_)
                clear hK K
                refine norm_ (a' := ?_) ?_ ?_
                rotate_left
                ·show Act.put _ (some 57) _ = _
                 simp only [Act.put, List.setIfInBounds_toArray, List.set_cons_zero, List.set_cons_succ, i64_w, i32_w]
                 rfl
                refine pure_ (i := 3) (N := some 58) (v := ?_) (a' := ?_) bv6_4 rfl rfl (any_of HT_.out (by kernel_rfl)) (fun _ _ _ h => h) (Or.inl ⟨by rfl, ?_⟩) ?_ ?_
                rotate_left; exact pw_; rotate_left; exact pz_
                refine pure_ (i := 4) (N := some 59) (v := ?_) (a' := ?_) bv6_5 rfl rfl (any_of HT_.out (by kernel_rfl)) (fun _ _ _ h => h) (Or.inl ⟨by rfl, ?_⟩) ?_ ?_
                rotate_left; exact pw_; rotate_left; exact pz_
                refine pure_ (i := 5) (N := some 60) (v := ?_) (a' := ?_) bv6_6 rfl rfl (any_of HT_.out (by kernel_rfl)) (fun _ _ _ h => h) (Or.inl ⟨by rfl, ?_⟩) ?_ ?_
                rotate_left; exact pw_; rotate_left; exact pz_
                refine pure_ (i := 7) (N := some 62) (v := ?_) (a' := ?_) bv6_7 rfl rfl (any_of HT_.out (by kernel_rfl)) (fun _ _ _ h => h) (Or.inl ⟨by rfl, ?_⟩) ?_ ?_
                rotate_left; exact pw_; rotate_left; exact pz_
                refine pure_ (i := 8) (N := some 63) (v := ?_) (a' := ?_) bv6_8 rfl rfl (any_of HT_.out (by kernel_rfl)) (fun _ _ _ h => h) (Or.inl ⟨by rfl, ?_⟩) ?_ ?_
                rotate_left; exact pw_; rotate_left; exact pz_
                refine take_ (i := 6) (N := some 61) (v := ?_) (a' := ?_) bv6_9 rfl rfl (take_ofW HT_.out HW_.out (by kernel_rfl)) (fun _ _ _ h => h) (Or.inl ⟨by rfl, ?_⟩) hHeld ?_ ?_
                rotate_left; exact pw5_; rotate_left; exact pz_
                refine one_ (i := 9) (N := some 64) bv6_10 rfl rfl (one_of HT_.out (by kernel_rfl)) (by decide) (fun K hK => ?_)
                refine goes_ Try.func54 (by kernel_rfl) rfl #[.int .i64 ((rd_T68 l0_1 x7_3).f1), .int .i64 0, .int .i64 (wrap64 ((l0_0.length : Int) - 1))] (by rfl) rfl rfl q0_ ?_
                with_reducible refine (spec_l01In.calls ((rd_T68 l0_1 x7_3).f1) 0 (wrap64 ((l0_0.length : Int) - 1)) true _ A34.out).mono ?_
                rintro e w' ⟨rfl, ⟨nd, rfl⟩⟩
                refine ⟨_, rfl, ?_⟩
                obtain ⟨Ao42, co42, eo42⟩ := Kd.R_slice HO_4.out
                (first | subst eo42 | (injection eo42 with f1_ f2_ f3_; have f4_ := f1_.symm; have f5_ := f3_.symm; clear f1_ f2_ f3_; subst f4_; subst f5_))
                refine hK.out _ _ ⟨(blk_cell BK227.out 0).trans rfl, (blk_cell BK227.out 1).trans rfl, (blk_cell BK227.out 2).trans rfl, (blk_cell BK227.out 3).trans rfl, hHeld.2.2.2.2⟩ (fun hHeld => ?_)
                clear hK K
                refine norm_ (a' := ?_) ?_ ?_
                rotate_left
                ·show Act.put _ (some 64) _ = _
                 simp only [Act.put, List.setIfInBounds_toArray, List.set_cons_zero, List.set_cons_succ, i64_w, i32_w]
                 rfl
                refine pure_ (i := 10) (N := some 65) (v := ?_) (a' := ?_) bv6_11 rfl rfl (any_of HT_.out (by kernel_rfl)) (fun _ _ _ h => h) (Or.inl ⟨by rfl, ?_⟩) ?_ ?_
                rotate_left; exact pw_; rotate_left; exact pz_
                refine pure_ (i := 11) (N := some 66) (v := ?_) (a' := ?_) bv6_12 rfl rfl (any_of HT_.out (by kernel_rfl)) (fun _ _ _ h => h) (Or.inl ⟨by rfl, ?_⟩) ?_ ?_
                rotate_left; exact pw_; rotate_left; exact pz_
                refine pure_ (i := 12) (N := some 67) (v := ?_) (a' := ?_) bv6_13 rfl rfl (any_of HT_.out (by kernel_rfl)) (fun _ _ _ h => h) (Or.inl ⟨by rfl, ?_⟩) ?_ ?_
                rotate_left; exact pw_; rotate_left; exact pz_
                refine pure_ (i := 13) (N := some 68) (v := ?_) (a' := ?_) bv6_14 rfl rfl (any_of HT_.out (by kernel_rfl)) (fun _ _ _ h => h) (Or.inl ⟨by rfl, ?_⟩) ?_ ?_
                rotate_left; exact pw_; rotate_left; exact pz_
                refine pure_ (i := 15) (N := some 70) (v := ?_) (a' := ?_) bv6_15 rfl rfl (any_of HT_.out (by kernel_rfl)) (fun _ _ _ h => h) (Or.inl ⟨by rfl, ?_⟩) ?_ ?_
                rotate_left; exact pw_; rotate_left; exact pz_
                refine pure_ (i := 16) (N := some 71) (v := ?_) (a' := ?_) bv6_16 rfl rfl (any_of HT_.out (by kernel_rfl)) (fun _ _ _ h => h) (Or.inl ⟨by rfl, ?_⟩) ?_ ?_
                rotate_left; exact pw_; rotate_left; exact pz_
                refine take_ (i := 14) (N := some 69) (v := ?_) (a' := ?_) bv6_17 rfl rfl (take_ofW HT_.out HW_.out (by kernel_rfl)) (fun _ _ _ h => h) (Or.inl ⟨by rfl, ?_⟩) hHeld ?_ ?_
                rotate_left; exact pw5_; rotate_left; exact pz_
                refine take_ (i := 17) (N := some 72) (v := ?_) (a' := ?_) bv6_18 rfl rfl (take_ofW HT_.out HW_.out (by kernel_rfl)) (fun _ _ _ h => h) (Or.inl ⟨by rfl, ?_⟩) hHeld ?_ ?_
                rotate_left; exact pw5_; rotate_left; exact pz_
                refine pure_ (i := 18) (N := some 73) (v := ?_) (a' := ?_) bv6_19 rfl rfl (any_of HT_.out (by kernel_rfl)) (fun _ _ _ h => h) (Or.inl ⟨by rfl, ?_⟩) ?_ ?_
                rotate_left; exact pw_; rotate_left; exact pz_
                refine take_ (i := 19) (N := some 74) (v := ?_) (a' := ?_) bv6_20 rfl rfl (take_ofW HT_.out HW_.out (by kernel_rfl)) (fun _ _ _ h => h) (Or.inl ⟨by rfl, ?_⟩) hHeld ?_ ?_
                rotate_left; exact pw5_; rotate_left; exact pz_
                refine pure_ (i := 20) (N := some 75) (v := ?_) (a' := ?_) bv6_21 rfl rfl (any_of HT_.out (by kernel_rfl)) (fun _ _ _ h => h) (Or.inl ⟨by rfl, ?_⟩) ?_ ?_
                rotate_left; exact pw_; rotate_left; exact pz_
                refine pure_ (i := 21) (N := some 76) (v := ?_) (a' := ?_) bv6_22 rfl rfl (any_of HT_.out (by kernel_rfl)) (fun _ _ _ h => h) (Or.inl ⟨by rfl, ?_⟩) ?_ ?_
                rotate_left; exact pw_; rotate_left; exact pz_
                refine pure_ (i := 22) (N := some 77) (v := ?_) (a' := ?_) bv6_23 rfl rfl (any_of HT_.out (by kernel_rfl)) (fun _ _ _ h => h) (Or.inl ⟨by rfl, ?_⟩) ?_ ?_
                rotate_left; exact pw_; rotate_left; exact pz_
                refine pure_ (i := 23) (N := some 78) (v := ?_) (a' := ?_) bv6_24 rfl rfl (any_of HT_.out (by kernel_rfl)) (fun _ _ _ h => h) (Or.inl ⟨by rfl, ?_⟩) ?_ ?_
                rotate_left; exact pw_; rotate_left; exact pz_
                refine pure_ (i := 25) (N := some 80) (v := ?_) (a' := ?_) #[true, true, true, true, true, true, true, true, true, true, true, true, true, true, true, true, true, true, true, true, true, true, true, true, false, true, false, false, false] rfl rfl (any_of HT_.out (by kernel_rfl)) (fun _ _ _ h => h) (Or.inl ⟨by rfl, ?_⟩) ?_ ?_
                rotate_left; exact pw_; rotate_left; exact pz_
                refine take_ (i := 24) (N := some 79) (v := ?_) (a' := ?_) bv6_25 rfl rfl (take_ofW HT_.out HW_.out (by kernel_rfl)) (fun _ _ _ h => h) (Or.inl ⟨by rfl, ?_⟩) hHeld ?_ ?_
                rotate_left; exact pw5_; rotate_left; exact pz_
                refine one_ (i := 26) (N := some 81) bv6_26 rfl rfl (one_of HT_.out (by kernel_rfl)) (by decide) (fun K hK => ?_)
                refine goes_ Try.func55 (by kernel_rfl) rfl #[.slice A226_3 ((rd_T68 l0_1 x7_3).f3).length c226_3, .int .i64 (l0_0.length : Int)] (by rfl) rfl rfl q0_ ?_
                with_reducible refine (spec_l05Rise.calls k3 _ _ ((rd_T68 l0_1 x7_3).f3) (l0_0.length : Int) t231 _ ?side1 ?side2 A39.out).mono ?_
                (case side1 => exact (by repeat (first | exact (Kd.C_below HR226_3.out (by repeat (first | (with_reducible first | exact HB.out | apply below_alloc | apply pw_below_drewN | apply below_drew1 | refine below_set ?_ GE211.out | refine below_set ?_ GE227.out) | exact HB.out))) | (with_reducible refine Kd.C_alloc ?_ _) | (with_reducible refine Kd.C_drewN ?_ _) | (with_reducible refine Kd.C_drew ?_))))
                (case side2 => exact HC226_3.out)
                rintro e w' ⟨rfl, ⟨nd, rfl⟩⟩
                refine ⟨_, rfl, ?_⟩
                refine hK.out _ _ ⟨(blk_cell BK227.out 0).trans rfl, (blk_cell BK227.out 1).trans rfl, (blk_cell BK227.out 2).trans rfl, (blk_cell BK227.out 3).trans rfl, hHeld.2.2.2.2⟩ (fun hHeld => ?_)
                clear hK K
                refine norm_ (a' := ?_) ?_ ?_
                rotate_left
                ·show Act.put _ (some 81) _ = _
                 simp only [Act.put, List.setIfInBounds_toArray, List.set_cons_zero, List.set_cons_succ, i64_w, i32_w]
                 rfl
                refine pure_ (i := 27) (N := some 82) (v := ?_) (a' := ?_) bv6_27 rfl rfl (any_of HT_.out (by kernel_rfl)) (fun _ _ _ h => h) (Or.inl ⟨by rfl, ?_⟩) ?_ ?_
                rotate_left; exact pw_; rotate_left; exact pz_
                refine pure_ (i := 28) (N := some 83) (v := ?_) (a' := ?_) bv6_28 rfl rfl (any_of HT_.out (by kernel_rfl)) (fun _ _ _ h => h) (Or.inl ⟨by rfl, ?_⟩) ?_ ?_
                rotate_left; exact pw_; rotate_left; exact pz_
                refine done_ (done_of HT_.out (by kernel_rfl)) ?_
                try go_wp2
                go_meet
                case rel => exact ⟨_, (!t231), q5_, H', ⟨by have := HJ1.out; have := HK2.out; have := HK3.out; first | omega | exact Nat.le_refl _⟩, ⟨by (with_reducible repeat (first | apply Kd.R_alloc | apply Kd.R_drewN | apply Kd.R_drew)); exact HO_4.out⟩, ⟨by (with_reducible repeat (first | apply Kd.S_alloc | apply Kd.S_drewN | apply Kd.S_drew)); exact HO_5.out⟩, ⟨by (with_reducible repeat (first | refine blk_drewN ?_ _ | refine blk_drew ?_ | refine blk_alloc ?_ _)); exact BK211.out⟩, ⟨by (with_reducible repeat (first | refine blk_drewN ?_ _ | refine blk_drew ?_ | refine blk_alloc ?_ _)); exact BK227.out⟩, ⟨by repeat (first | (with_reducible first | exact HB.out | apply below_alloc | apply pw_below_drewN | apply below_drew1 | refine below_set ?_ GE211.out | refine below_set ?_ GE227.out) | exact HB.out)⟩⟩
               ·rw [if_neg c38] at H
                have c38b0 : (((rd_T68 l0_1 x7_3).f2) == (rd x4_3 ((rd_T68 l0_1 x7_3).f1))) = false := beq_eq_false_iff_ne.mpr c38
                have c38b1 : (((rd_T68 l0_1 x7_3).f2) != (rd x4_3 ((rd_T68 l0_1 x7_3).f1))) = true := bne_iff_ne.mpr c38
                have H' := Aside0.mk H
                clear H
                try go_wp2
                have n0_ : Aside0 (Kd.R (Kd.int .i64) 3 ((((w29.setCell ⟨gb227, 0, none⟩ (.string ((rd_T68 l0_1 x7_3).f0))).setCell ⟨gb227, 1, none⟩ (.int .i64 ((rd_T68 l0_1 x7_3).f1))).setCell ⟨gb227, 2, none⟩ (.int .i64 ((rd_T68 l0_1 x7_3).f2))).setCell ⟨gb227, 3, none⟩ (.slice A226_3 ((rd_T68 l0_1 x7_3).f3).length c226_3)) w.heap.size (fun _ => True) v214 x4_3) := ⟨by (with_reducible repeat (first | apply Kd.R_alloc | apply Kd.R_drewN | apply Kd.R_drew)); exact Kd.R_mono (Kd.R_far (p := ⟨gb227, 3, none⟩) (Kd.R_far (p := ⟨gb227, 2, none⟩) (Kd.R_far (p := ⟨gb227, 1, none⟩) (Kd.R_far (p := ⟨gb227, 0, none⟩) (Kd.R_types HO_4.out BK227.out (by decide)) (fun _ hk => hk.2) (.string ((rd_T68 l0_1 x7_3).f0))) (fun _ hk => hk.2) (.int .i64 ((rd_T68 l0_1 x7_3).f1))) (fun _ hk => hk.2) (.int .i64 ((rd_T68 l0_1 x7_3).f2))) (fun _ hk => hk.2) (.slice A226_3 ((rd_T68 l0_1 x7_3).f3).length c226_3)) (fun _ hk => trivial)⟩
                have n1_ : Aside0 (Kd.S (Kd.slice 4 Kd.bool) 65 ((((w29.setCell ⟨gb227, 0, none⟩ (.string ((rd_T68 l0_1 x7_3).f0))).setCell ⟨gb227, 1, none⟩ (.int .i64 ((rd_T68 l0_1 x7_3).f1))).setCell ⟨gb227, 2, none⟩ (.int .i64 ((rd_T68 l0_1 x7_3).f2))).setCell ⟨gb227, 3, none⟩ (.slice A226_3 ((rd_T68 l0_1 x7_3).f3).length c226_3)) w.heap.size (fun _ => True) u5 x5_2) := ⟨by (with_reducible repeat (first | apply Kd.S_alloc | apply Kd.S_drewN | apply Kd.S_drew)); exact Kd.S_mono (Kd.S_far (p := ⟨gb227, 3, none⟩) (Kd.S_far (p := ⟨gb227, 2, none⟩) (Kd.S_far (p := ⟨gb227, 1, none⟩) (Kd.S_far (p := ⟨gb227, 0, none⟩) (Kd.S_types HO_5.out BK227.out (by decide)) (fun _ hk => hk.2) (.string ((rd_T68 l0_1 x7_3).f0))) (fun _ hk => hk.2) (.int .i64 ((rd_T68 l0_1 x7_3).f1))) (fun _ hk => hk.2) (.int .i64 ((rd_T68 l0_1 x7_3).f2))) (fun _ hk => hk.2) (.slice A226_3 ((rd_T68 l0_1 x7_3).f3).length c226_3)) (fun _ hk => trivial)⟩
                have n2_ : Aside0 (((((w29.setCell ⟨gb227, 0, none⟩ (.string ((rd_T68 l0_1 x7_3).f0))).setCell ⟨gb227, 1, none⟩ (.int .i64 ((rd_T68 l0_1 x7_3).f1))).setCell ⟨gb227, 2, none⟩ (.int .i64 ((rd_T68 l0_1 x7_3).f2))).setCell ⟨gb227, 3, none⟩ (.slice A226_3 ((rd_T68 l0_1 x7_3).f3).length c226_3)).heap[gb211]? = some (.cells #[.slice A0_0 l0_0.length c0_0, .slice (some ad226) l0_1.length c0_1] 30 (0, 0))) := ⟨by (with_reducible repeat (first | refine blk_drewN ?_ _ | refine blk_drew ?_ | refine blk_alloc ?_ _)); refine blk_far ?_ NB211_227.out _; (with_reducible repeat (first | refine blk_drewN ?_ _ | refine blk_drew ?_ | refine blk_alloc ?_ _)); refine blk_far ?_ NB211_227.out _; (with_reducible repeat (first | refine blk_drewN ?_ _ | refine blk_drew ?_ | refine blk_alloc ?_ _)); refine blk_far ?_ NB211_227.out _; (with_reducible repeat (first | refine blk_drewN ?_ _ | refine blk_drew ?_ | refine blk_alloc ?_ _)); refine blk_far ?_ NB211_227.out _; (with_reducible repeat (first | refine blk_drewN ?_ _ | refine blk_drew ?_ | refine blk_alloc ?_ _)); exact BK211.out⟩
                have n3_ : Aside0 (((((w29.setCell ⟨gb227, 0, none⟩ (.string ((rd_T68 l0_1 x7_3).f0))).setCell ⟨gb227, 1, none⟩ (.int .i64 ((rd_T68 l0_1 x7_3).f1))).setCell ⟨gb227, 2, none⟩ (.int .i64 ((rd_T68 l0_1 x7_3).f2))).setCell ⟨gb227, 3, none⟩ (.slice A226_3 ((rd_T68 l0_1 x7_3).f3).length c226_3)).heap[gb227]? = some (.cells #[.string ((rd_T68 l0_1 x7_3).f0), .int .i64 ((rd_T68 l0_1 x7_3).f1), .int .i64 ((rd_T68 l0_1 x7_3).f2), .slice A226_3 ((rd_T68 l0_1 x7_3).f3).length c226_3] 68 (0, 0))) := ⟨by (with_reducible repeat (first | refine blk_drewN ?_ _ | refine blk_drew ?_ | refine blk_alloc ?_ _)); refine blk_put (cs := #[.string ((rd_T68 l0_1 x7_3).f0), .int .i64 ((rd_T68 l0_1 x7_3).f1), .int .i64 ((rd_T68 l0_1 x7_3).f2), .slice none 0 0]) ?_ 3 _ rfl; (with_reducible repeat (first | refine blk_drewN ?_ _ | refine blk_drew ?_ | refine blk_alloc ?_ _)); refine blk_put (cs := #[.string ((rd_T68 l0_1 x7_3).f0), .int .i64 ((rd_T68 l0_1 x7_3).f1), .int .i64 0, .slice none 0 0]) ?_ 2 _ rfl; (with_reducible repeat (first | refine blk_drewN ?_ _ | refine blk_drew ?_ | refine blk_alloc ?_ _)); refine blk_put (cs := #[.string ((rd_T68 l0_1 x7_3).f0), .int .i64 0, .int .i64 0, .slice none 0 0]) ?_ 1 _ rfl; (with_reducible repeat (first | refine blk_drewN ?_ _ | refine blk_drew ?_ | refine blk_alloc ?_ _)); refine blk_put (cs := #[.string (⟨#[]⟩ : ByteArray), .int .i64 0, .int .i64 0, .slice none 0 0]) ?_ 0 _ rfl; (with_reducible repeat (first | refine blk_drewN ?_ _ | refine blk_drew ?_ | refine blk_alloc ?_ _)); exact BK227.out⟩
                have n4_ : Aside0 (Below w.heap.size w ((((w29.setCell ⟨gb227, 0, none⟩ (.string ((rd_T68 l0_1 x7_3).f0))).setCell ⟨gb227, 1, none⟩ (.int .i64 ((rd_T68 l0_1 x7_3).f1))).setCell ⟨gb227, 2, none⟩ (.int .i64 ((rd_T68 l0_1 x7_3).f2))).setCell ⟨gb227, 3, none⟩ (.slice A226_3 ((rd_T68 l0_1 x7_3).f3).length c226_3))) := ⟨by repeat (first | (with_reducible first | exact HB.out | apply below_alloc | apply pw_below_drewN | apply below_drew1 | refine below_set ?_ GE211.out | refine below_set ?_ GE227.out) | exact HB.out)⟩
                (try clear HO_4)
                (try clear HO_5)
                (try clear BK211)
                (try clear BK227)
                (try clear HB)
                generalize ((((w29.setCell ⟨gb227, 0, none⟩ (.string ((rd_T68 l0_1 x7_3).f0))).setCell ⟨gb227, 1, none⟩ (.int .i64 ((rd_T68 l0_1 x7_3).f1))).setCell ⟨gb227, 2, none⟩ (.int .i64 ((rd_T68 l0_1 x7_3).f2))).setCell ⟨gb227, 3, none⟩ (.slice A226_3 ((rd_T68 l0_1 x7_3).f3).length c226_3)) = w43 at n0_ n1_ n2_ n3_ n4_ ⊢
                have HO_4 := n0_
                have HO_5 := n1_
                have BK211 := n2_
                have BK227 := n3_
                have HB := n4_
                clear n0_ n1_ n2_ n3_ n4_
                have n0_ := Aside0.mk (Kd.R_drew HO_4.out)
                have n1_ := Aside0.mk (Kd.S_drew HO_5.out)
                have n2_ := Aside0.mk (blk_drew BK211.out)
                have n3_ := Aside0.mk (blk_drew BK227.out)
                have n4_ := Aside0.mk (below_drew1 HB.out)
                clear HO_4
                clear HO_5
                clear BK211
                clear BK227
                clear HB
                have HO_4 := n0_
                have HO_5 := n1_
                have BK211 := n2_
                have BK227 := n3_
                have HB := n4_
                clear n0_ n1_ n2_ n3_ n4_
                have p230 : 0 ≤ (((rd_T68 l0_1 x7_3).f1) : Int) := of_decide_eq_true q2_
                have q230 : ((rd_T68 l0_1 x7_3).f1) < (x4_3.length : Int) := of_decide_eq_true q2_
                obtain ⟨Aq230_, cq230_, eq230_⟩ := Kd.R_slice HO_4.out
                (first | subst eq230_ | clear eq230_)
                obtain ⟨ad230, e230, hx230_0⟩ := Kd.at_int (Kd.R_reads' HO_4.out).2.2 ((rd_T68 l0_1 x7_3).f1) p230 q230
                cases e230
                replace p230 := eq_true p230
                replace q230 := eq_true q230
                refine start_ (n := 29) (S := fun w' => w'.cell? ⟨gb227, 0, none⟩ = some (.string ((rd_T68 l0_1 x7_3).f0)) ∧ w'.cell? ⟨gb227, 1, none⟩ = some (.int .i64 ((rd_T68 l0_1 x7_3).f1)) ∧ w'.cell? ⟨gb227, 2, none⟩ = some (.int .i64 ((rd_T68 l0_1 x7_3).f2)) ∧ w'.cell? ⟨gb227, 3, none⟩ = some (.slice A226_3 ((rd_T68 l0_1 x7_3).f3).length c226_3) ∧ w'.cell? (ad230.add (((rd_T68 l0_1 x7_3).f1)).toNat) = some (.int .i64 (rd x4_3 ((rd_T68 l0_1 x7_3).f1)))) (ds := []) bv6_0 (by kernel_rfl) rfl rfl ⟨(blk_cell BK227.out 0).trans rfl, (blk_cell BK227.out 1).trans rfl, (blk_cell BK227.out 2).trans rfl, (blk_cell BK227.out 3).trans rfl, hx230_0⟩ (fun hHeld => ?_); refine with_tabW spec_WeaveOk.tab14 spec_WeaveOk.bits14 (fun HT_ HW_ => ?_)
                generalize w43.drew = w44 at HO_4 HO_5 BK211 BK227 HB hx230_0 hHeld ⊢
                refine pure_ (i := 0) (N := some 55) (v := ?_) (a' := ?_) bv6_1 rfl rfl (any_of HT_.out (by kernel_rfl)) (fun _ _ _ h => h) (Or.inl ⟨by rfl, ?_⟩) ?_ ?_
                rotate_left; exact pw_; rotate_left; exact pz_
                refine take_ (i := 1) (N := some 56) (v := ?_) (a' := ?_) bv6_2 rfl rfl (take_ofW HT_.out HW_.out (by kernel_rfl)) (fun _ _ _ h => h) (Or.inl ⟨by rfl, ?_⟩) hHeld ?_ ?_
                rotate_left; exact pw5_; rotate_left; exact pz_
                refine one_ (i := 2) (N := some 57) bv6_3 rfl rfl (one_of HT_.out (by kernel_rfl)) (by decide) (fun K hK => ?_)
                refine goes_ Try.func53 (by kernel_rfl) rfl #[.string ((rd_T68 l0_1 x7_3).f0)] (by rfl) rfl rfl q0_ ?_
                with_reducible refine (spec_LineOk.calls k3 ((rd_T68 l0_1 x7_3).f0) true _ A32.out).mono ?_
                rintro e w' ⟨rfl, ⟨nd, rfl⟩⟩
                refine ⟨_, rfl, ?_⟩
                refine hK.out _ _ ⟨(blk_cell BK227.out 0).trans rfl, (blk_cell BK227.out 1).trans rfl, (blk_cell BK227.out 2).trans rfl, (blk_cell BK227.out 3).trans rfl, hHeld.2.2.2.2⟩ (fun hHeld => ?_)
                clear hK K
                refine norm_ (a' := ?_) ?_ ?_
                rotate_left
                ·show Act.put _ (some 57) _ = _
                 simp only [Act.put, List.setIfInBounds_toArray, List.set_cons_zero, List.set_cons_succ, i64_w, i32_w]
                 rfl
                refine pure_ (i := 3) (N := some 58) (v := ?_) (a' := ?_) bv6_4 rfl rfl (any_of HT_.out (by kernel_rfl)) (fun _ _ _ h => h) (Or.inl ⟨by rfl, ?_⟩) ?_ ?_
                rotate_left; exact pw_; rotate_left; exact pz_
                refine pure_ (i := 4) (N := some 59) (v := ?_) (a' := ?_) bv6_5 rfl rfl (any_of HT_.out (by kernel_rfl)) (fun _ _ _ h => h) (Or.inl ⟨by rfl, ?_⟩) ?_ ?_
                rotate_left; exact pw_; rotate_left; exact pz_
                refine pure_ (i := 5) (N := some 60) (v := ?_) (a' := ?_) bv6_6 rfl rfl (any_of HT_.out (by kernel_rfl)) (fun _ _ _ h => h) (Or.inl ⟨by rfl, ?_⟩) ?_ ?_
                rotate_left; exact pw_; rotate_left; exact pz_
                refine pure_ (i := 7) (N := some 62) (v := ?_) (a' := ?_) bv6_7 rfl rfl (any_of HT_.out (by kernel_rfl)) (fun _ _ _ h => h) (Or.inl ⟨by rfl, ?_⟩) ?_ ?_
                rotate_left; exact pw_; rotate_left; exact pz_
                refine pure_ (i := 8) (N := some 63) (v := ?_) (a' := ?_) bv6_8 rfl rfl (any_of HT_.out (by kernel_rfl)) (fun _ _ _ h => h) (Or.inl ⟨by rfl, ?_⟩) ?_ ?_
                rotate_left; exact pw_; rotate_left; exact pz_
                refine take_ (i := 6) (N := some 61) (v := ?_) (a' := ?_) bv6_9 rfl rfl (take_ofW HT_.out HW_.out (by kernel_rfl)) (fun _ _ _ h => h) (Or.inl ⟨by rfl, ?_⟩) hHeld ?_ ?_
                rotate_left; exact pw5_; rotate_left; exact pz_
                refine one_ (i := 9) (N := some 64) bv6_10 rfl rfl (one_of HT_.out (by kernel_rfl)) (by decide) (fun K hK => ?_)
                refine goes_ Try.func54 (by kernel_rfl) rfl #[.int .i64 ((rd_T68 l0_1 x7_3).f1), .int .i64 0, .int .i64 (wrap64 ((l0_0.length : Int) - 1))] (by rfl) rfl rfl q0_ ?_
                with_reducible refine (spec_l01In.calls ((rd_T68 l0_1 x7_3).f1) 0 (wrap64 ((l0_0.length : Int) - 1)) true _ A34.out).mono ?_
                rintro e w' ⟨rfl, ⟨nd, rfl⟩⟩
                refine ⟨_, rfl, ?_⟩
                obtain ⟨Ao45, co45, eo45⟩ := Kd.R_slice HO_4.out
                (first | subst eo45 | (injection eo45 with f1_ f2_ f3_; have f4_ := f1_.symm; have f5_ := f3_.symm; clear f1_ f2_ f3_; subst f4_; subst f5_))
                refine hK.out _ _ ⟨(blk_cell BK227.out 0).trans rfl, (blk_cell BK227.out 1).trans rfl, (blk_cell BK227.out 2).trans rfl, (blk_cell BK227.out 3).trans rfl, hHeld.2.2.2.2⟩ (fun hHeld => ?_)
                clear hK K
                refine norm_ (a' := ?_) ?_ ?_
                rotate_left
                ·show Act.put _ (some 64) _ = _
                 simp only [Act.put, List.setIfInBounds_toArray, List.set_cons_zero, List.set_cons_succ, i64_w, i32_w]
                 rfl
                refine pure_ (i := 10) (N := some 65) (v := ?_) (a' := ?_) bv6_11 rfl rfl (any_of HT_.out (by kernel_rfl)) (fun _ _ _ h => h) (Or.inl ⟨by rfl, ?_⟩) ?_ ?_
                rotate_left; exact pw_; rotate_left; exact pz_
                refine pure_ (i := 11) (N := some 66) (v := ?_) (a' := ?_) bv6_12 rfl rfl (any_of HT_.out (by kernel_rfl)) (fun _ _ _ h => h) (Or.inl ⟨by rfl, ?_⟩) ?_ ?_
                rotate_left; exact pw_; rotate_left; exact pz_
                refine pure_ (i := 12) (N := some 67) (v := ?_) (a' := ?_) bv6_13 rfl rfl (any_of HT_.out (by kernel_rfl)) (fun _ _ _ h => h) (Or.inl ⟨by rfl, ?_⟩) ?_ ?_
                rotate_left; exact pw_; rotate_left; exact pz_
                refine pure_ (i := 13) (N := some 68) (v := ?_) (a' := ?_) bv6_14 rfl rfl (any_of HT_.out (by kernel_rfl)) (fun _ _ _ h => h) (Or.inl ⟨by rfl, ?_⟩) ?_ ?_
                rotate_left; exact pw_; rotate_left; exact pz_
                refine pure_ (i := 15) (N := some 70) (v := ?_) (a' := ?_) bv6_15 rfl rfl (any_of HT_.out (by kernel_rfl)) (fun _ _ _ h => h) (Or.inl ⟨by rfl, ?_⟩) ?_ ?_
                rotate_left; exact pw_; rotate_left; exact pz_
                refine pure_ (i := 16) (N := some 71) (v := ?_) (a' := ?_) bv6_16 rfl rfl (any_of HT_.out (by kernel_rfl)) (fun _ _ _ h => h) (Or.inl ⟨by rfl, ?_⟩) ?_ ?_
                rotate_left; exact pw_; rotate_left; exact pz_
                refine take_ (i := 14) (N := some 69) (v := ?_) (a' := ?_) bv6_17 rfl rfl (take_ofW HT_.out HW_.out (by kernel_rfl)) (fun _ _ _ h => h) (Or.inl ⟨by rfl, ?_⟩) hHeld ?_ ?_
                rotate_left; exact pw5_; rotate_left; exact pz_
                refine take_ (i := 17) (N := some 72) (v := ?_) (a' := ?_) bv6_18 rfl rfl (take_ofW HT_.out HW_.out (by kernel_rfl)) (fun _ _ _ h => h) (Or.inl ⟨by rfl, ?_⟩) hHeld ?_ ?_
                rotate_left; exact pw5_; rotate_left; exact pz_
                refine pure_ (i := 18) (N := some 73) (v := ?_) (a' := ?_) bv6_19 rfl rfl (any_of HT_.out (by kernel_rfl)) (fun _ _ _ h => h) (Or.inl ⟨by rfl, ?_⟩) ?_ ?_
                rotate_left; exact pw_; rotate_left; exact pz_
                refine take_ (i := 19) (N := some 74) (v := ?_) (a' := ?_) bv6_20 rfl rfl (take_ofW HT_.out HW_.out (by kernel_rfl)) (fun _ _ _ h => h) (Or.inl ⟨by rfl, ?_⟩) hHeld ?_ ?_
                rotate_left; exact pw5_; rotate_left; exact pz_
                refine pure_ (i := 20) (N := some 75) (v := ?_) (a' := ?_) bv6_21 rfl rfl (any_of HT_.out (by kernel_rfl)) (fun _ _ _ h => h) (Or.inl ⟨by rfl, ?_⟩) ?_ ?_
                rotate_left; exact pw_; rotate_left; exact pz_
                refine pure_ (i := 21) (N := some 76) (v := ?_) (a' := ?_) bv6_22 rfl rfl (any_of HT_.out (by kernel_rfl)) (fun _ _ _ h => h) (Or.inl ⟨by rfl, ?_⟩) ?_ ?_
                rotate_left; exact pw_; rotate_left; exact pz_
                refine pure_ (i := 22) (N := some 77) (v := ?_) (a' := ?_) bv6_23 rfl rfl (any_of HT_.out (by kernel_rfl)) (fun _ _ _ h => h) (Or.inl ⟨by rfl, ?_⟩) ?_ ?_
                rotate_left; exact pw_; rotate_left; exact pz_
                refine pure_ (i := 23) (N := some 78) (v := undef) (a' := ?_) bv6_24 rfl rfl (any_of HT_.out (by kernel_rfl)) (fun _ _ _ h => h) (Or.inr ⟨by rfl, rfl⟩) ?_ ?_
                rotate_left; exact pz_
                refine pure_ (i := 24) (N := some 79) (v := undef) (a' := ?_) bv6_29 rfl rfl (any_of HT_.out (by kernel_rfl)) (fun _ _ _ h => h) (Or.inr ⟨by rfl, rfl⟩) ?_ ?_
                rotate_left; exact pz_
                refine pure_ (i := 25) (N := some 80) (v := undef) (a' := ?_) bv6_25 rfl rfl (any_of HT_.out (by kernel_rfl)) (fun _ _ _ h => h) (Or.inr ⟨by rfl, rfl⟩) ?_ ?_
                rotate_left; exact pz_
                refine pure_ (i := 26) (N := some 81) (v := undef) (a' := ?_) bv6_26 rfl rfl (any_of HT_.out (by kernel_rfl)) (fun _ _ _ h => h) (Or.inr ⟨by rfl, rfl⟩) ?_ ?_
                rotate_left; exact pz_
                refine pure_ (i := 27) (N := some 82) (v := undef) (a' := ?_) bv6_27 rfl rfl (any_of HT_.out (by kernel_rfl)) (fun _ _ _ h => h) (Or.inr ⟨by rfl, rfl⟩) ?_ ?_
                rotate_left; exact pz_
                refine pure_ (i := 28) (N := some 83) (v := ?_) (a' := ?_) bv6_28 rfl rfl (any_of HT_.out (by kernel_rfl)) (fun _ _ _ h => h) (Or.inl ⟨by rfl, ?_⟩) ?_ ?_
                rotate_left; exact pw_; rotate_left; exact pz_
                refine done_ (done_of HT_.out (by kernel_rfl)) ?_
                try go_wp2
                go_meet
                case rel => exact ⟨_, (true), q5_, H', ⟨by have := HJ1.out; have := HK2.out; have := HK3.out; first | omega | exact Nat.le_refl _⟩, ⟨by (with_reducible repeat (first | apply Kd.R_alloc | apply Kd.R_drewN | apply Kd.R_drew)); exact HO_4.out⟩, ⟨by (with_reducible repeat (first | apply Kd.S_alloc | apply Kd.S_drewN | apply Kd.S_drew)); exact HO_5.out⟩, ⟨by (with_reducible repeat (first | refine blk_drewN ?_ _ | refine blk_drew ?_ | refine blk_alloc ?_ _)); exact BK211.out⟩, ⟨by (with_reducible repeat (first | refine blk_drewN ?_ _ | refine blk_drew ?_ | refine blk_alloc ?_ _)); exact BK227.out⟩, ⟨by repeat (first | (with_reducible first | exact HB.out | apply below_alloc | apply pw_below_drewN | apply below_drew1 | refine below_set ?_ GE211.out | refine below_set ?_ GE227.out) | exact HB.out)⟩⟩
              ·replace c35 := Bool.eq_false_iff.mpr c35
               subst c35
               have H1 : (spec_WeaveOk.j3 k3 (l0_0.length : Int) x4_3 x5_2 x7_3 true l0_0 l0_1 ((rd_T68 l0_1 x7_3).f0) ((rd_T68 l0_1 x7_3).f1) ((rd_T68 l0_1 x7_3).f2) ((rd_T68 l0_1 x7_3).f3)) = some r := by rw [if_neg (show ¬ (false = true) by decide)] at H; exact H
               clear H
               have H := H1
               clear H1
               have H' := Aside0.mk H
               clear H
               try go_wp2
               have n0_ : Aside0 (Kd.R (Kd.int .i64) 3 ((((w29.setCell ⟨gb227, 0, none⟩ (.string ((rd_T68 l0_1 x7_3).f0))).setCell ⟨gb227, 1, none⟩ (.int .i64 ((rd_T68 l0_1 x7_3).f1))).setCell ⟨gb227, 2, none⟩ (.int .i64 ((rd_T68 l0_1 x7_3).f2))).setCell ⟨gb227, 3, none⟩ (.slice A226_3 ((rd_T68 l0_1 x7_3).f3).length c226_3)) w.heap.size (fun _ => True) v214 x4_3) := ⟨by (with_reducible repeat (first | apply Kd.R_alloc | apply Kd.R_drewN | apply Kd.R_drew)); exact Kd.R_mono (Kd.R_far (p := ⟨gb227, 3, none⟩) (Kd.R_far (p := ⟨gb227, 2, none⟩) (Kd.R_far (p := ⟨gb227, 1, none⟩) (Kd.R_far (p := ⟨gb227, 0, none⟩) (Kd.R_types HO_4.out BK227.out (by decide)) (fun _ hk => hk.2) (.string ((rd_T68 l0_1 x7_3).f0))) (fun _ hk => hk.2) (.int .i64 ((rd_T68 l0_1 x7_3).f1))) (fun _ hk => hk.2) (.int .i64 ((rd_T68 l0_1 x7_3).f2))) (fun _ hk => hk.2) (.slice A226_3 ((rd_T68 l0_1 x7_3).f3).length c226_3)) (fun _ hk => trivial)⟩
               have n1_ : Aside0 (Kd.S (Kd.slice 4 Kd.bool) 65 ((((w29.setCell ⟨gb227, 0, none⟩ (.string ((rd_T68 l0_1 x7_3).f0))).setCell ⟨gb227, 1, none⟩ (.int .i64 ((rd_T68 l0_1 x7_3).f1))).setCell ⟨gb227, 2, none⟩ (.int .i64 ((rd_T68 l0_1 x7_3).f2))).setCell ⟨gb227, 3, none⟩ (.slice A226_3 ((rd_T68 l0_1 x7_3).f3).length c226_3)) w.heap.size (fun _ => True) u5 x5_2) := ⟨by (with_reducible repeat (first | apply Kd.S_alloc | apply Kd.S_drewN | apply Kd.S_drew)); exact Kd.S_mono (Kd.S_far (p := ⟨gb227, 3, none⟩) (Kd.S_far (p := ⟨gb227, 2, none⟩) (Kd.S_far (p := ⟨gb227, 1, none⟩) (Kd.S_far (p := ⟨gb227, 0, none⟩) (Kd.S_types HO_5.out BK227.out (by decide)) (fun _ hk => hk.2) (.string ((rd_T68 l0_1 x7_3).f0))) (fun _ hk => hk.2) (.int .i64 ((rd_T68 l0_1 x7_3).f1))) (fun _ hk => hk.2) (.int .i64 ((rd_T68 l0_1 x7_3).f2))) (fun _ hk => hk.2) (.slice A226_3 ((rd_T68 l0_1 x7_3).f3).length c226_3)) (fun _ hk => trivial)⟩
               have n2_ : Aside0 (((((w29.setCell ⟨gb227, 0, none⟩ (.string ((rd_T68 l0_1 x7_3).f0))).setCell ⟨gb227, 1, none⟩ (.int .i64 ((rd_T68 l0_1 x7_3).f1))).setCell ⟨gb227, 2, none⟩ (.int .i64 ((rd_T68 l0_1 x7_3).f2))).setCell ⟨gb227, 3, none⟩ (.slice A226_3 ((rd_T68 l0_1 x7_3).f3).length c226_3)).heap[gb211]? = some (.cells #[.slice A0_0 l0_0.length c0_0, .slice (some ad226) l0_1.length c0_1] 30 (0, 0))) := ⟨by (with_reducible repeat (first | refine blk_drewN ?_ _ | refine blk_drew ?_ | refine blk_alloc ?_ _)); refine blk_far ?_ NB211_227.out _; (with_reducible repeat (first | refine blk_drewN ?_ _ | refine blk_drew ?_ | refine blk_alloc ?_ _)); refine blk_far ?_ NB211_227.out _; (with_reducible repeat (first | refine blk_drewN ?_ _ | refine blk_drew ?_ | refine blk_alloc ?_ _)); refine blk_far ?_ NB211_227.out _; (with_reducible repeat (first | refine blk_drewN ?_ _ | refine blk_drew ?_ | refine blk_alloc ?_ _)); refine blk_far ?_ NB211_227.out _; (with_reducible repeat (first | refine blk_drewN ?_ _ | refine blk_drew ?_ | refine blk_alloc ?_ _)); exact BK211.out⟩
               have n3_ : Aside0 (((((w29.setCell ⟨gb227, 0, none⟩ (.string ((rd_T68 l0_1 x7_3).f0))).setCell ⟨gb227, 1, none⟩ (.int .i64 ((rd_T68 l0_1 x7_3).f1))).setCell ⟨gb227, 2, none⟩ (.int .i64 ((rd_T68 l0_1 x7_3).f2))).setCell ⟨gb227, 3, none⟩ (.slice A226_3 ((rd_T68 l0_1 x7_3).f3).length c226_3)).heap[gb227]? = some (.cells #[.string ((rd_T68 l0_1 x7_3).f0), .int .i64 ((rd_T68 l0_1 x7_3).f1), .int .i64 ((rd_T68 l0_1 x7_3).f2), .slice A226_3 ((rd_T68 l0_1 x7_3).f3).length c226_3] 68 (0, 0))) := ⟨by (with_reducible repeat (first | refine blk_drewN ?_ _ | refine blk_drew ?_ | refine blk_alloc ?_ _)); refine blk_put (cs := #[.string ((rd_T68 l0_1 x7_3).f0), .int .i64 ((rd_T68 l0_1 x7_3).f1), .int .i64 ((rd_T68 l0_1 x7_3).f2), .slice none 0 0]) ?_ 3 _ rfl; (with_reducible repeat (first | refine blk_drewN ?_ _ | refine blk_drew ?_ | refine blk_alloc ?_ _)); refine blk_put (cs := #[.string ((rd_T68 l0_1 x7_3).f0), .int .i64 ((rd_T68 l0_1 x7_3).f1), .int .i64 0, .slice none 0 0]) ?_ 2 _ rfl; (with_reducible repeat (first | refine blk_drewN ?_ _ | refine blk_drew ?_ | refine blk_alloc ?_ _)); refine blk_put (cs := #[.string ((rd_T68 l0_1 x7_3).f0), .int .i64 0, .int .i64 0, .slice none 0 0]) ?_ 1 _ rfl; (with_reducible repeat (first | refine blk_drewN ?_ _ | refine blk_drew ?_ | refine blk_alloc ?_ _)); refine blk_put (cs := #[.string (⟨#[]⟩ : ByteArray), .int .i64 0, .int .i64 0, .slice none 0 0]) ?_ 0 _ rfl; (with_reducible repeat (first | refine blk_drewN ?_ _ | refine blk_drew ?_ | refine blk_alloc ?_ _)); exact BK227.out⟩
               have n4_ : Aside0 (Below w.heap.size w ((((w29.setCell ⟨gb227, 0, none⟩ (.string ((rd_T68 l0_1 x7_3).f0))).setCell ⟨gb227, 1, none⟩ (.int .i64 ((rd_T68 l0_1 x7_3).f1))).setCell ⟨gb227, 2, none⟩ (.int .i64 ((rd_T68 l0_1 x7_3).f2))).setCell ⟨gb227, 3, none⟩ (.slice A226_3 ((rd_T68 l0_1 x7_3).f3).length c226_3))) := ⟨by repeat (first | (with_reducible first | exact HB.out | apply below_alloc | apply pw_below_drewN | apply below_drew1 | refine below_set ?_ GE211.out | refine below_set ?_ GE227.out) | exact HB.out)⟩
               (try clear HO_4)
               (try clear HO_5)
               (try clear BK211)
               (try clear BK227)
               (try clear HB)
               generalize ((((w29.setCell ⟨gb227, 0, none⟩ (.string ((rd_T68 l0_1 x7_3).f0))).setCell ⟨gb227, 1, none⟩ (.int .i64 ((rd_T68 l0_1 x7_3).f1))).setCell ⟨gb227, 2, none⟩ (.int .i64 ((rd_T68 l0_1 x7_3).f2))).setCell ⟨gb227, 3, none⟩ (.slice A226_3 ((rd_T68 l0_1 x7_3).f3).length c226_3)) = w46 at n0_ n1_ n2_ n3_ n4_ ⊢
               have HO_4 := n0_
               have HO_5 := n1_
               have BK211 := n2_
               have BK227 := n3_
               have HB := n4_
               clear n0_ n1_ n2_ n3_ n4_
               have n0_ := Aside0.mk (Kd.R_drew HO_4.out)
               have n1_ := Aside0.mk (Kd.S_drew HO_5.out)
               have n2_ := Aside0.mk (blk_drew BK211.out)
               have n3_ := Aside0.mk (blk_drew BK227.out)
               have n4_ := Aside0.mk (below_drew1 HB.out)
               clear HO_4
               clear HO_5
               clear BK211
               clear BK227
               clear HB
               have HO_4 := n0_
               have HO_5 := n1_
               have BK211 := n2_
               have BK227 := n3_
               have HB := n4_
               clear n0_ n1_ n2_ n3_ n4_
               refine start_ (n := 29) (S := fun w' => w'.cell? ⟨gb227, 0, none⟩ = some (.string ((rd_T68 l0_1 x7_3).f0)) ∧ w'.cell? ⟨gb227, 1, none⟩ = some (.int .i64 ((rd_T68 l0_1 x7_3).f1)) ∧ w'.cell? ⟨gb227, 2, none⟩ = some (.int .i64 ((rd_T68 l0_1 x7_3).f2)) ∧ w'.cell? ⟨gb227, 3, none⟩ = some (.slice A226_3 ((rd_T68 l0_1 x7_3).f3).length c226_3)) (ds := []) bv6_0 (by kernel_rfl) rfl rfl ⟨(blk_cell BK227.out 0).trans rfl, (blk_cell BK227.out 1).trans rfl, (blk_cell BK227.out 2).trans rfl, (blk_cell BK227.out 3).trans rfl⟩ (fun hHeld => ?_); refine with_tabW spec_WeaveOk.tab14 spec_WeaveOk.bits14 (fun HT_ HW_ => ?_)
               generalize w46.drew = w47 at HO_4 HO_5 BK211 BK227 HB hHeld ⊢
               refine pure_ (i := 0) (N := some 55) (v := ?_) (a' := ?_) bv6_1 rfl rfl (any_of HT_.out (by kernel_rfl)) (fun _ _ _ h => h) (Or.inl ⟨by rfl, ?_⟩) ?_ ?_
               rotate_left; exact pw_; rotate_left; exact pz_
               refine take_ (i := 1) (N := some 56) (v := ?_) (a' := ?_) bv6_2 rfl rfl (take_ofW HT_.out HW_.out (by kernel_rfl)) (fun _ _ _ h => h) (Or.inl ⟨by rfl, ?_⟩) hHeld ?_ ?_
               rotate_left; exact pw4_; rotate_left; exact pz_
               refine one_ (i := 2) (N := some 57) bv6_3 rfl rfl (one_of HT_.out (by kernel_rfl)) (by decide) (fun K hK => ?_)
               refine goes_ Try.func53 (by kernel_rfl) rfl #[.string ((rd_T68 l0_1 x7_3).f0)] (by rfl) rfl rfl q0_ ?_
               with_reducible refine (spec_LineOk.calls k3 ((rd_T68 l0_1 x7_3).f0) true _ A32.out).mono ?_
               rintro e w' ⟨rfl, ⟨nd, rfl⟩⟩
               refine ⟨_, rfl, ?_⟩
               refine hK.out _ _ ⟨(blk_cell BK227.out 0).trans rfl, (blk_cell BK227.out 1).trans rfl, (blk_cell BK227.out 2).trans rfl, (blk_cell BK227.out 3).trans rfl⟩ (fun hHeld => ?_)
               clear hK K
               refine norm_ (a' := ?_) ?_ ?_
               rotate_left
               ·show Act.put _ (some 57) _ = _
                simp only [Act.put, List.setIfInBounds_toArray, List.set_cons_zero, List.set_cons_succ, i64_w, i32_w]
                rfl
               refine pure_ (i := 3) (N := some 58) (v := ?_) (a' := ?_) bv6_4 rfl rfl (any_of HT_.out (by kernel_rfl)) (fun _ _ _ h => h) (Or.inl ⟨by rfl, ?_⟩) ?_ ?_
               rotate_left; exact pw_; rotate_left; exact pz_
               refine pure_ (i := 4) (N := some 59) (v := ?_) (a' := ?_) bv6_5 rfl rfl (any_of HT_.out (by kernel_rfl)) (fun _ _ _ h => h) (Or.inl ⟨by rfl, ?_⟩) ?_ ?_
               rotate_left; exact pw_; rotate_left; exact pz_
               refine pure_ (i := 5) (N := some 60) (v := ?_) (a' := ?_) bv6_6 rfl rfl (any_of HT_.out (by kernel_rfl)) (fun _ _ _ h => h) (Or.inl ⟨by rfl, ?_⟩) ?_ ?_
               rotate_left; exact pw_; rotate_left; exact pz_
               refine pure_ (i := 7) (N := some 62) (v := ?_) (a' := ?_) bv6_7 rfl rfl (any_of HT_.out (by kernel_rfl)) (fun _ _ _ h => h) (Or.inl ⟨by rfl, ?_⟩) ?_ ?_
               rotate_left; exact pw_; rotate_left; exact pz_
               refine pure_ (i := 8) (N := some 63) (v := ?_) (a' := ?_) bv6_8 rfl rfl (any_of HT_.out (by kernel_rfl)) (fun _ _ _ h => h) (Or.inl ⟨by rfl, ?_⟩) ?_ ?_
               rotate_left; exact pw_; rotate_left; exact pz_
               refine take_ (i := 6) (N := some 61) (v := ?_) (a' := ?_) bv6_9 rfl rfl (take_ofW HT_.out HW_.out (by kernel_rfl)) (fun _ _ _ h => h) (Or.inl ⟨by rfl, ?_⟩) hHeld ?_ ?_
               rotate_left; exact pw4_; rotate_left; exact pz_
               refine one_ (i := 9) (N := some 64) bv6_10 rfl rfl (one_of HT_.out (by kernel_rfl)) (by decide) (fun K hK => ?_)
               refine goes_ Try.func54 (by kernel_rfl) rfl #[.int .i64 ((rd_T68 l0_1 x7_3).f1), .int .i64 0, .int .i64 (wrap64 ((l0_0.length : Int) - 1))] (by rfl) rfl rfl q0_ ?_
               with_reducible refine (spec_l01In.calls ((rd_T68 l0_1 x7_3).f1) 0 (wrap64 ((l0_0.length : Int) - 1)) false _ A34.out).mono ?_
               rintro e w' ⟨rfl, ⟨nd, rfl⟩⟩
               refine ⟨_, rfl, ?_⟩
               refine hK.out _ _ ⟨(blk_cell BK227.out 0).trans rfl, (blk_cell BK227.out 1).trans rfl, (blk_cell BK227.out 2).trans rfl, (blk_cell BK227.out 3).trans rfl⟩ (fun hHeld => ?_)
               clear hK K
               refine norm_ (a' := ?_) ?_ ?_
               rotate_left
               ·show Act.put _ (some 64) _ = _
                simp only [Act.put, List.setIfInBounds_toArray, List.set_cons_zero, List.set_cons_succ, i64_w, i32_w]
                rfl
               refine pure_ (i := 10) (N := some 65) (v := ?_) (a' := ?_) bv6_11 rfl rfl (any_of HT_.out (by kernel_rfl)) (fun _ _ _ h => h) (Or.inl ⟨by rfl, ?_⟩) ?_ ?_
               rotate_left; exact pw_; rotate_left; exact pz_
               refine pure_ (i := 11) (N := some 66) (v := ?_) (a' := ?_) bv6_12 rfl rfl (any_of HT_.out (by kernel_rfl)) (fun _ _ _ h => h) (Or.inl ⟨by rfl, ?_⟩) ?_ ?_
               rotate_left; exact pw_; rotate_left; exact pz_
               refine pure_ (i := 12) (N := some 67) (v := ?_) (a' := ?_) bv6_13 rfl rfl (any_of HT_.out (by kernel_rfl)) (fun _ _ _ h => h) (Or.inl ⟨by rfl, ?_⟩) ?_ ?_
               rotate_left; exact pw_; rotate_left; exact pz_
               refine pure_ (i := 13) (N := some 68) (v := undef) (a' := ?_) bv6_14 rfl rfl (any_of HT_.out (by kernel_rfl)) (fun _ _ _ h => h) (Or.inr ⟨by rfl, rfl⟩) ?_ ?_
               rotate_left; exact pz_
               refine pure_ (i := 14) (N := some 69) (v := undef) (a' := ?_) bv6_30 rfl rfl (any_of HT_.out (by kernel_rfl)) (fun _ _ _ h => h) (Or.inr ⟨by rfl, rfl⟩) ?_ ?_
               rotate_left; exact pz_
               refine pure_ (i := 15) (N := some 70) (v := undef) (a' := ?_) bv6_31 rfl rfl (any_of HT_.out (by kernel_rfl)) (fun _ _ _ h => h) (Or.inr ⟨by rfl, rfl⟩) ?_ ?_
               rotate_left; exact pz_
               refine pure_ (i := 16) (N := some 71) (v := undef) (a' := ?_) bv6_17 rfl rfl (any_of HT_.out (by kernel_rfl)) (fun _ _ _ h => h) (Or.inr ⟨by rfl, rfl⟩) ?_ ?_
               rotate_left; exact pz_
               refine pure_ (i := 17) (N := some 72) (v := undef) (a' := ?_) bv6_18 rfl rfl (any_of HT_.out (by kernel_rfl)) (fun _ _ _ h => h) (Or.inr ⟨by rfl, rfl⟩) ?_ ?_
               rotate_left; exact pz_
               refine pure_ (i := 18) (N := some 73) (v := undef) (a' := ?_) bv6_19 rfl rfl (any_of HT_.out (by kernel_rfl)) (fun _ _ _ h => h) (Or.inr ⟨by rfl, rfl⟩) ?_ ?_
               rotate_left; exact pz_
               refine pure_ (i := 19) (N := some 74) (v := undef) (a' := ?_) bv6_20 rfl rfl (any_of HT_.out (by kernel_rfl)) (fun _ _ _ h => h) (Or.inr ⟨by rfl, rfl⟩) ?_ ?_
               rotate_left; exact pz_
               refine pure_ (i := 20) (N := some 75) (v := undef) (a' := ?_) bv6_21 rfl rfl (any_of HT_.out (by kernel_rfl)) (fun _ _ _ h => h) (Or.inr ⟨by rfl, rfl⟩) ?_ ?_
               rotate_left; exact pz_
               refine pure_ (i := 21) (N := some 76) (v := ?_) (a' := ?_) bv6_22 rfl rfl (any_of HT_.out (by kernel_rfl)) (fun _ _ _ h => h) (Or.inl ⟨by rfl, ?_⟩) ?_ ?_
               rotate_left; exact pw_; rotate_left; exact pz_
               refine pure_ (i := 22) (N := some 77) (v := ?_) (a' := ?_) bv6_23 rfl rfl (any_of HT_.out (by kernel_rfl)) (fun _ _ _ h => h) (Or.inl ⟨by rfl, ?_⟩) ?_ ?_
               rotate_left; exact pw_; rotate_left; exact pz_
               refine pure_ (i := 23) (N := some 78) (v := undef) (a' := ?_) bv6_24 rfl rfl (any_of HT_.out (by kernel_rfl)) (fun _ _ _ h => h) (Or.inr ⟨by rfl, rfl⟩) ?_ ?_
               rotate_left; exact pz_
               refine pure_ (i := 24) (N := some 79) (v := undef) (a' := ?_) bv6_29 rfl rfl (any_of HT_.out (by kernel_rfl)) (fun _ _ _ h => h) (Or.inr ⟨by rfl, rfl⟩) ?_ ?_
               rotate_left; exact pz_
               refine pure_ (i := 25) (N := some 80) (v := undef) (a' := ?_) bv6_25 rfl rfl (any_of HT_.out (by kernel_rfl)) (fun _ _ _ h => h) (Or.inr ⟨by rfl, rfl⟩) ?_ ?_
               rotate_left; exact pz_
               refine pure_ (i := 26) (N := some 81) (v := undef) (a' := ?_) bv6_26 rfl rfl (any_of HT_.out (by kernel_rfl)) (fun _ _ _ h => h) (Or.inr ⟨by rfl, rfl⟩) ?_ ?_
               rotate_left; exact pz_
               refine pure_ (i := 27) (N := some 82) (v := undef) (a' := ?_) bv6_27 rfl rfl (any_of HT_.out (by kernel_rfl)) (fun _ _ _ h => h) (Or.inr ⟨by rfl, rfl⟩) ?_ ?_
               rotate_left; exact pz_
               refine pure_ (i := 28) (N := some 83) (v := ?_) (a' := ?_) bv6_28 rfl rfl (any_of HT_.out (by kernel_rfl)) (fun _ _ _ h => h) (Or.inl ⟨by rfl, ?_⟩) ?_ ?_
               rotate_left; exact pw_; rotate_left; exact pz_
               refine done_ (done_of HT_.out (by kernel_rfl)) ?_
               try go_wp2
               go_meet
               case rel => exact ⟨_, (true), q5_, H', ⟨by have := HJ1.out; have := HK2.out; have := HK3.out; first | omega | exact Nat.le_refl _⟩, ⟨by (with_reducible repeat (first | apply Kd.R_alloc | apply Kd.R_drewN | apply Kd.R_drew)); exact HO_4.out⟩, ⟨by (with_reducible repeat (first | apply Kd.S_alloc | apply Kd.S_drewN | apply Kd.S_drew)); exact HO_5.out⟩, ⟨by (with_reducible repeat (first | refine blk_drewN ?_ _ | refine blk_drew ?_ | refine blk_alloc ?_ _)); exact BK211.out⟩, ⟨by (with_reducible repeat (first | refine blk_drewN ?_ _ | refine blk_drew ?_ | refine blk_alloc ?_ _)); exact BK227.out⟩, ⟨by repeat (first | (with_reducible first | exact HB.out | apply below_alloc | apply pw_below_drewN | apply below_drew1 | refine below_set ?_ GE211.out | refine below_set ?_ GE227.out) | exact HB.out)⟩⟩
             ·replace c33 := Bool.eq_false_iff.mpr c33
              subst c33
              have H1 : (spec_WeaveOk.j3 k3 (l0_0.length : Int) x4_3 x5_2 x7_3 true l0_0 l0_1 ((rd_T68 l0_1 x7_3).f0) ((rd_T68 l0_1 x7_3).f1) ((rd_T68 l0_1 x7_3).f2) ((rd_T68 l0_1 x7_3).f3)) = some r := by rw [if_neg (show ¬ (false = true) by decide)] at H; exact H
              clear H
              have H := H1
              clear H1
              have H' := Aside0.mk H
              clear H
              try go_wp2
              have n0_ : Aside0 (Kd.R (Kd.int .i64) 3 ((((w29.setCell ⟨gb227, 0, none⟩ (.string ((rd_T68 l0_1 x7_3).f0))).setCell ⟨gb227, 1, none⟩ (.int .i64 ((rd_T68 l0_1 x7_3).f1))).setCell ⟨gb227, 2, none⟩ (.int .i64 ((rd_T68 l0_1 x7_3).f2))).setCell ⟨gb227, 3, none⟩ (.slice A226_3 ((rd_T68 l0_1 x7_3).f3).length c226_3)) w.heap.size (fun _ => True) v214 x4_3) := ⟨by (with_reducible repeat (first | apply Kd.R_alloc | apply Kd.R_drewN | apply Kd.R_drew)); exact Kd.R_mono (Kd.R_far (p := ⟨gb227, 3, none⟩) (Kd.R_far (p := ⟨gb227, 2, none⟩) (Kd.R_far (p := ⟨gb227, 1, none⟩) (Kd.R_far (p := ⟨gb227, 0, none⟩) (Kd.R_types HO_4.out BK227.out (by decide)) (fun _ hk => hk.2) (.string ((rd_T68 l0_1 x7_3).f0))) (fun _ hk => hk.2) (.int .i64 ((rd_T68 l0_1 x7_3).f1))) (fun _ hk => hk.2) (.int .i64 ((rd_T68 l0_1 x7_3).f2))) (fun _ hk => hk.2) (.slice A226_3 ((rd_T68 l0_1 x7_3).f3).length c226_3)) (fun _ hk => trivial)⟩
              have n1_ : Aside0 (Kd.S (Kd.slice 4 Kd.bool) 65 ((((w29.setCell ⟨gb227, 0, none⟩ (.string ((rd_T68 l0_1 x7_3).f0))).setCell ⟨gb227, 1, none⟩ (.int .i64 ((rd_T68 l0_1 x7_3).f1))).setCell ⟨gb227, 2, none⟩ (.int .i64 ((rd_T68 l0_1 x7_3).f2))).setCell ⟨gb227, 3, none⟩ (.slice A226_3 ((rd_T68 l0_1 x7_3).f3).length c226_3)) w.heap.size (fun _ => True) u5 x5_2) := ⟨by (with_reducible repeat (first | apply Kd.S_alloc | apply Kd.S_drewN | apply Kd.S_drew)); exact Kd.S_mono (Kd.S_far (p := ⟨gb227, 3, none⟩) (Kd.S_far (p := ⟨gb227, 2, none⟩) (Kd.S_far (p := ⟨gb227, 1, none⟩) (Kd.S_far (p := ⟨gb227, 0, none⟩) (Kd.S_types HO_5.out BK227.out (by decide)) (fun _ hk => hk.2) (.string ((rd_T68 l0_1 x7_3).f0))) (fun _ hk => hk.2) (.int .i64 ((rd_T68 l0_1 x7_3).f1))) (fun _ hk => hk.2) (.int .i64 ((rd_T68 l0_1 x7_3).f2))) (fun _ hk => hk.2) (.slice A226_3 ((rd_T68 l0_1 x7_3).f3).length c226_3)) (fun _ hk => trivial)⟩
              have n2_ : Aside0 (((((w29.setCell ⟨gb227, 0, none⟩ (.string ((rd_T68 l0_1 x7_3).f0))).setCell ⟨gb227, 1, none⟩ (.int .i64 ((rd_T68 l0_1 x7_3).f1))).setCell ⟨gb227, 2, none⟩ (.int .i64 ((rd_T68 l0_1 x7_3).f2))).setCell ⟨gb227, 3, none⟩ (.slice A226_3 ((rd_T68 l0_1 x7_3).f3).length c226_3)).heap[gb211]? = some (.cells #[.slice A0_0 l0_0.length c0_0, .slice (some ad226) l0_1.length c0_1] 30 (0, 0))) := ⟨by (with_reducible repeat (first | refine blk_drewN ?_ _ | refine blk_drew ?_ | refine blk_alloc ?_ _)); refine blk_far ?_ NB211_227.out _; (with_reducible repeat (first | refine blk_drewN ?_ _ | refine blk_drew ?_ | refine blk_alloc ?_ _)); refine blk_far ?_ NB211_227.out _; (with_reducible repeat (first | refine blk_drewN ?_ _ | refine blk_drew ?_ | refine blk_alloc ?_ _)); refine blk_far ?_ NB211_227.out _; (with_reducible repeat (first | refine blk_drewN ?_ _ | refine blk_drew ?_ | refine blk_alloc ?_ _)); refine blk_far ?_ NB211_227.out _; (with_reducible repeat (first | refine blk_drewN ?_ _ | refine blk_drew ?_ | refine blk_alloc ?_ _)); exact BK211.out⟩
              have n3_ : Aside0 (((((w29.setCell ⟨gb227, 0, none⟩ (.string ((rd_T68 l0_1 x7_3).f0))).setCell ⟨gb227, 1, none⟩ (.int .i64 ((rd_T68 l0_1 x7_3).f1))).setCell ⟨gb227, 2, none⟩ (.int .i64 ((rd_T68 l0_1 x7_3).f2))).setCell ⟨gb227, 3, none⟩ (.slice A226_3 ((rd_T68 l0_1 x7_3).f3).length c226_3)).heap[gb227]? = some (.cells #[.string ((rd_T68 l0_1 x7_3).f0), .int .i64 ((rd_T68 l0_1 x7_3).f1), .int .i64 ((rd_T68 l0_1 x7_3).f2), .slice A226_3 ((rd_T68 l0_1 x7_3).f3).length c226_3] 68 (0, 0))) := ⟨by (with_reducible repeat (first | refine blk_drewN ?_ _ | refine blk_drew ?_ | refine blk_alloc ?_ _)); refine blk_put (cs := #[.string ((rd_T68 l0_1 x7_3).f0), .int .i64 ((rd_T68 l0_1 x7_3).f1), .int .i64 ((rd_T68 l0_1 x7_3).f2), .slice none 0 0]) ?_ 3 _ rfl; (with_reducible repeat (first | refine blk_drewN ?_ _ | refine blk_drew ?_ | refine blk_alloc ?_ _)); refine blk_put (cs := #[.string ((rd_T68 l0_1 x7_3).f0), .int .i64 ((rd_T68 l0_1 x7_3).f1), .int .i64 0, .slice none 0 0]) ?_ 2 _ rfl; (with_reducible repeat (first | refine blk_drewN ?_ _ | refine blk_drew ?_ | refine blk_alloc ?_ _)); refine blk_put (cs := #[.string ((rd_T68 l0_1 x7_3).f0), .int .i64 0, .int .i64 0, .slice none 0 0]) ?_ 1 _ rfl; (with_reducible repeat (first | refine blk_drewN ?_ _ | refine blk_drew ?_ | refine blk_alloc ?_ _)); refine blk_put (cs := #[.string (⟨#[]⟩ : ByteArray), .int .i64 0, .int .i64 0, .slice none 0 0]) ?_ 0 _ rfl; (with_reducible repeat (first | refine blk_drewN ?_ _ | refine blk_drew ?_ | refine blk_alloc ?_ _)); exact BK227.out⟩
              have n4_ : Aside0 (Below w.heap.size w ((((w29.setCell ⟨gb227, 0, none⟩ (.string ((rd_T68 l0_1 x7_3).f0))).setCell ⟨gb227, 1, none⟩ (.int .i64 ((rd_T68 l0_1 x7_3).f1))).setCell ⟨gb227, 2, none⟩ (.int .i64 ((rd_T68 l0_1 x7_3).f2))).setCell ⟨gb227, 3, none⟩ (.slice A226_3 ((rd_T68 l0_1 x7_3).f3).length c226_3))) := ⟨by repeat (first | (with_reducible first | exact HB.out | apply below_alloc | apply pw_below_drewN | apply below_drew1 | refine below_set ?_ GE211.out | refine below_set ?_ GE227.out) | exact HB.out)⟩
              (try clear HO_4)
              (try clear HO_5)
              (try clear BK211)
              (try clear BK227)
              (try clear HB)
              generalize ((((w29.setCell ⟨gb227, 0, none⟩ (.string ((rd_T68 l0_1 x7_3).f0))).setCell ⟨gb227, 1, none⟩ (.int .i64 ((rd_T68 l0_1 x7_3).f1))).setCell ⟨gb227, 2, none⟩ (.int .i64 ((rd_T68 l0_1 x7_3).f2))).setCell ⟨gb227, 3, none⟩ (.slice A226_3 ((rd_T68 l0_1 x7_3).f3).length c226_3)) = w48 at n0_ n1_ n2_ n3_ n4_ ⊢
              have HO_4 := n0_
              have HO_5 := n1_
              have BK211 := n2_
              have BK227 := n3_
              have HB := n4_
              clear n0_ n1_ n2_ n3_ n4_
              have n0_ := Aside0.mk (Kd.R_drew HO_4.out)
              have n1_ := Aside0.mk (Kd.S_drew HO_5.out)
              have n2_ := Aside0.mk (blk_drew BK211.out)
              have n3_ := Aside0.mk (blk_drew BK227.out)
              have n4_ := Aside0.mk (below_drew1 HB.out)
              clear HO_4
              clear HO_5
              clear BK211
              clear BK227
              clear HB
              have HO_4 := n0_
              have HO_5 := n1_
              have BK211 := n2_
              have BK227 := n3_
              have HB := n4_
              clear n0_ n1_ n2_ n3_ n4_
              refine start_ (n := 29) (S := fun w' => w'.cell? ⟨gb227, 0, none⟩ = some (.string ((rd_T68 l0_1 x7_3).f0)) ∧ w'.cell? ⟨gb227, 1, none⟩ = some (.int .i64 ((rd_T68 l0_1 x7_3).f1)) ∧ w'.cell? ⟨gb227, 2, none⟩ = some (.int .i64 ((rd_T68 l0_1 x7_3).f2)) ∧ w'.cell? ⟨gb227, 3, none⟩ = some (.slice A226_3 ((rd_T68 l0_1 x7_3).f3).length c226_3)) (ds := []) bv6_0 (by kernel_rfl) rfl rfl ⟨(blk_cell BK227.out 0).trans rfl, (blk_cell BK227.out 1).trans rfl, (blk_cell BK227.out 2).trans rfl, (blk_cell BK227.out 3).trans rfl⟩ (fun hHeld => ?_); refine with_tabW spec_WeaveOk.tab14 spec_WeaveOk.bits14 (fun HT_ HW_ => ?_)
              generalize w48.drew = w49 at HO_4 HO_5 BK211 BK227 HB hHeld ⊢
              refine pure_ (i := 0) (N := some 55) (v := ?_) (a' := ?_) bv6_1 rfl rfl (any_of HT_.out (by kernel_rfl)) (fun _ _ _ h => h) (Or.inl ⟨by rfl, ?_⟩) ?_ ?_
              rotate_left; exact pw_; rotate_left; exact pz_
              refine take_ (i := 1) (N := some 56) (v := ?_) (a' := ?_) bv6_2 rfl rfl (take_ofW HT_.out HW_.out (by kernel_rfl)) (fun _ _ _ h => h) (Or.inl ⟨by rfl, ?_⟩) hHeld ?_ ?_
              rotate_left; exact pw4_; rotate_left; exact pz_
              refine one_ (i := 2) (N := some 57) bv6_3 rfl rfl (one_of HT_.out (by kernel_rfl)) (by decide) (fun K hK => ?_)
              refine goes_ Try.func53 (by kernel_rfl) rfl #[.string ((rd_T68 l0_1 x7_3).f0)] (by rfl) rfl rfl q0_ ?_
              with_reducible refine (spec_LineOk.calls k3 ((rd_T68 l0_1 x7_3).f0) false _ A32.out).mono ?_
              rintro e w' ⟨rfl, ⟨nd, rfl⟩⟩
              refine ⟨_, rfl, ?_⟩
              refine hK.out _ _ ⟨(blk_cell BK227.out 0).trans rfl, (blk_cell BK227.out 1).trans rfl, (blk_cell BK227.out 2).trans rfl, (blk_cell BK227.out 3).trans rfl⟩ (fun hHeld => ?_)
              clear hK K
              refine norm_ (a' := ?_) ?_ ?_
              rotate_left
              ·show Act.put _ (some 57) _ = _
               simp only [Act.put, List.setIfInBounds_toArray, List.set_cons_zero, List.set_cons_succ, i64_w, i32_w]
               rfl
              refine pure_ (i := 3) (N := some 58) (v := ?_) (a' := ?_) bv6_4 rfl rfl (any_of HT_.out (by kernel_rfl)) (fun _ _ _ h => h) (Or.inl ⟨by rfl, ?_⟩) ?_ ?_
              rotate_left; exact pw_; rotate_left; exact pz_
              refine pure_ (i := 4) (N := some 59) (v := ?_) (a' := ?_) bv6_5 rfl rfl (any_of HT_.out (by kernel_rfl)) (fun _ _ _ h => h) (Or.inl ⟨by rfl, ?_⟩) ?_ ?_
              rotate_left; exact pw_; rotate_left; exact pz_
              refine pure_ (i := 5) (N := some 60) (v := undef) (a' := ?_) bv6_6 rfl rfl (any_of HT_.out (by kernel_rfl)) (fun _ _ _ h => h) (Or.inr ⟨by rfl, rfl⟩) ?_ ?_
              rotate_left; exact pz_
              refine pure_ (i := 6) (N := some 61) (v := undef) (a' := ?_) #[true, true, true, true, true, true, true, false, false, false, false, false, false, false, false, false, false, false, false, false, false, false, false, false, false, false, false, false, false] rfl rfl (any_of HT_.out (by kernel_rfl)) (fun _ _ _ h => h) (Or.inr ⟨by rfl, rfl⟩) ?_ ?_
              rotate_left; exact pz_
              refine pure_ (i := 7) (N := some 62) (v := undef) (a' := ?_) #[true, true, true, true, true, true, true, true, false, false, false, false, false, false, false, false, false, false, false, false, false, false, false, false, false, false, false, false, false] rfl rfl (any_of HT_.out (by kernel_rfl)) (fun _ _ _ h => h) (Or.inr ⟨by rfl, rfl⟩) ?_ ?_
              rotate_left; exact pz_
              refine pure_ (i := 8) (N := some 63) (v := undef) (a' := ?_) bv6_9 rfl rfl (any_of HT_.out (by kernel_rfl)) (fun _ _ _ h => h) (Or.inr ⟨by rfl, rfl⟩) ?_ ?_
              rotate_left; exact pz_
              refine pure_ (i := 9) (N := some 64) (v := undef) (a' := ?_) bv6_10 rfl rfl (any_of HT_.out (by kernel_rfl)) (fun _ _ _ h => h) (Or.inr ⟨by rfl, rfl⟩) ?_ ?_
              rotate_left; exact pz_
              refine pure_ (i := 10) (N := some 65) (v := undef) (a' := ?_) bv6_11 rfl rfl (any_of HT_.out (by kernel_rfl)) (fun _ _ _ h => h) (Or.inr ⟨by rfl, rfl⟩) ?_ ?_
              rotate_left; exact pz_
              refine pure_ (i := 11) (N := some 66) (v := ?_) (a' := ?_) bv6_12 rfl rfl (any_of HT_.out (by kernel_rfl)) (fun _ _ _ h => h) (Or.inl ⟨by rfl, ?_⟩) ?_ ?_
              rotate_left; exact pw_; rotate_left; exact pz_
              refine pure_ (i := 12) (N := some 67) (v := ?_) (a' := ?_) bv6_13 rfl rfl (any_of HT_.out (by kernel_rfl)) (fun _ _ _ h => h) (Or.inl ⟨by rfl, ?_⟩) ?_ ?_
              rotate_left; exact pw_; rotate_left; exact pz_
              refine pure_ (i := 13) (N := some 68) (v := undef) (a' := ?_) bv6_14 rfl rfl (any_of HT_.out (by kernel_rfl)) (fun _ _ _ h => h) (Or.inr ⟨by rfl, rfl⟩) ?_ ?_
              rotate_left; exact pz_
              refine pure_ (i := 14) (N := some 69) (v := undef) (a' := ?_) bv6_30 rfl rfl (any_of HT_.out (by kernel_rfl)) (fun _ _ _ h => h) (Or.inr ⟨by rfl, rfl⟩) ?_ ?_
              rotate_left; exact pz_
              refine pure_ (i := 15) (N := some 70) (v := undef) (a' := ?_) bv6_31 rfl rfl (any_of HT_.out (by kernel_rfl)) (fun _ _ _ h => h) (Or.inr ⟨by rfl, rfl⟩) ?_ ?_
              rotate_left; exact pz_
              refine pure_ (i := 16) (N := some 71) (v := undef) (a' := ?_) bv6_17 rfl rfl (any_of HT_.out (by kernel_rfl)) (fun _ _ _ h => h) (Or.inr ⟨by rfl, rfl⟩) ?_ ?_
              rotate_left; exact pz_
              refine pure_ (i := 17) (N := some 72) (v := undef) (a' := ?_) bv6_18 rfl rfl (any_of HT_.out (by kernel_rfl)) (fun _ _ _ h => h) (Or.inr ⟨by rfl, rfl⟩) ?_ ?_
              rotate_left; exact pz_
              refine pure_ (i := 18) (N := some 73) (v := undef) (a' := ?_) bv6_19 rfl rfl (any_of HT_.out (by kernel_rfl)) (fun _ _ _ h => h) (Or.inr ⟨by rfl, rfl⟩) ?_ ?_
              rotate_left; exact pz_
              refine pure_ (i := 19) (N := some 74) (v := undef) (a' := ?_) bv6_20 rfl rfl (any_of HT_.out (by kernel_rfl)) (fun _ _ _ h => h) (Or.inr ⟨by rfl, rfl⟩) ?_ ?_
              rotate_left; exact pz_
              refine pure_ (i := 20) (N := some 75) (v := undef) (a' := ?_) bv6_21 rfl rfl (any_of HT_.out (by kernel_rfl)) (fun _ _ _ h => h) (Or.inr ⟨by rfl, rfl⟩) ?_ ?_
              rotate_left; exact pz_
              refine pure_ (i := 21) (N := some 76) (v := ?_) (a' := ?_) bv6_22 rfl rfl (any_of HT_.out (by kernel_rfl)) (fun _ _ _ h => h) (Or.inl ⟨by rfl, ?_⟩) ?_ ?_
              rotate_left; exact pw_; rotate_left; exact pz_
              refine pure_ (i := 22) (N := some 77) (v := ?_) (a' := ?_) bv6_23 rfl rfl (any_of HT_.out (by kernel_rfl)) (fun _ _ _ h => h) (Or.inl ⟨by rfl, ?_⟩) ?_ ?_
              rotate_left; exact pw_; rotate_left; exact pz_
              refine pure_ (i := 23) (N := some 78) (v := undef) (a' := ?_) bv6_24 rfl rfl (any_of HT_.out (by kernel_rfl)) (fun _ _ _ h => h) (Or.inr ⟨by rfl, rfl⟩) ?_ ?_
              rotate_left; exact pz_
              refine pure_ (i := 24) (N := some 79) (v := undef) (a' := ?_) bv6_29 rfl rfl (any_of HT_.out (by kernel_rfl)) (fun _ _ _ h => h) (Or.inr ⟨by rfl, rfl⟩) ?_ ?_
              rotate_left; exact pz_
              refine pure_ (i := 25) (N := some 80) (v := undef) (a' := ?_) bv6_25 rfl rfl (any_of HT_.out (by kernel_rfl)) (fun _ _ _ h => h) (Or.inr ⟨by rfl, rfl⟩) ?_ ?_
              rotate_left; exact pz_
              refine pure_ (i := 26) (N := some 81) (v := undef) (a' := ?_) bv6_26 rfl rfl (any_of HT_.out (by kernel_rfl)) (fun _ _ _ h => h) (Or.inr ⟨by rfl, rfl⟩) ?_ ?_
              rotate_left; exact pz_
              refine pure_ (i := 27) (N := some 82) (v := undef) (a' := ?_) bv6_27 rfl rfl (any_of HT_.out (by kernel_rfl)) (fun _ _ _ h => h) (Or.inr ⟨by rfl, rfl⟩) ?_ ?_
              rotate_left; exact pz_
              refine pure_ (i := 28) (N := some 83) (v := ?_) (a' := ?_) bv6_28 rfl rfl (any_of HT_.out (by kernel_rfl)) (fun _ _ _ h => h) (Or.inl ⟨by rfl, ?_⟩) ?_ ?_
              rotate_left; exact pw_; rotate_left; exact pz_
              refine done_ (done_of HT_.out (by kernel_rfl)) ?_
              try go_wp2
              go_meet
              case rel => exact ⟨_, (true), q5_, H', ⟨by have := HJ1.out; have := HK2.out; have := HK3.out; first | omega | exact Nat.le_refl _⟩, ⟨by (with_reducible repeat (first | apply Kd.R_alloc | apply Kd.R_drewN | apply Kd.R_drew)); exact HO_4.out⟩, ⟨by (with_reducible repeat (first | apply Kd.S_alloc | apply Kd.S_drewN | apply Kd.S_drew)); exact HO_5.out⟩, ⟨by (with_reducible repeat (first | refine blk_drewN ?_ _ | refine blk_drew ?_ | refine blk_alloc ?_ _)); exact BK211.out⟩, ⟨by (with_reducible repeat (first | refine blk_drewN ?_ _ | refine blk_drew ?_ | refine blk_alloc ?_ _)); exact BK227.out⟩, ⟨by repeat (first | (with_reducible first | exact HB.out | apply below_alloc | apply pw_below_drewN | apply below_drew1 | refine below_set ?_ GE211.out | refine below_set ?_ GE227.out) | exact HB.out)⟩⟩
            case rest =>
             clear HC27
             try clear c2
             try clear p2
             try clear c3
             try clear c5
             try clear p6
             try clear c22
             try clear c33
             try clear c35
             try clear c36
             try clear c37
             obtain ⟨kq, x83_26, rfl, HA, HJ26, HO_4, HO_5, BK211, BK227, HB⟩ := hcut
             cases kq with
             | zero => exact absurd HA.out (by simp [spec_WeaveOk.j3])
             | succ kj26 =>
              have H := HA.out
              clear HA
              simp only [spec_WeaveOk.j3] at H
              by_cases c50 : x83_26 = true
              ·subst c50
               have H1 : (some false) = some r := by rw [if_pos rfl] at H; exact H
               clear H
               have H := H1
               clear H1
               obtain rfl := Option.some.inj H
               go_wp2
               go_ret
               exact ⟨by first | rfl | (simp [errW_none, errW_some] <;> rfl) | (simp [*, errW_none, errW_some] <;> rfl), by repeat (first | (with_reducible first | exact HB.out | apply below_alloc | apply pw_below_drewN | apply below_drew1 | refine below_set ?_ GE211.out | refine below_set ?_ GE227.out) | exact HB.out)⟩
              ·replace c50 := Bool.eq_false_iff.mpr c50
               subst c50
               have H1 : (if 0 ≤ ((rd_T68 l0_1 x7_3).f1) then (if ((rd_T68 l0_1 x7_3).f1) < (x4_3.length : Int) then (spec_WeaveOk.l2 kj26 (l0_0.length : Int) (x4_3.set (((rd_T68 l0_1 x7_3).f1) : Int).toNat (wrap64 ((rd x4_3 ((rd_T68 l0_1 x7_3).f1)) + 1))) x5_2 x7_3 0 l0_0 l0_1 ((rd_T68 l0_1 x7_3).f0) ((rd_T68 l0_1 x7_3).f1) ((rd_T68 l0_1 x7_3).f2) ((rd_T68 l0_1 x7_3).f3)) else (none)) else (none)) = some r := by rw [if_neg (show ¬ (false = true) by decide)] at H; exact H
               clear H
               have H := H1
               clear H1
               by_cases c51 : 0 ≤ ((rd_T68 l0_1 x7_3).f1)
               case neg =>
                rw [if_neg c51] at H
                exact absurd H (by simp)
               rw [if_pos c51] at H
               have c51b0 : decide (0 ≤ ((rd_T68 l0_1 x7_3).f1)) = true := decide_eq_true c51
               clear c51
               by_cases c52 : ((rd_T68 l0_1 x7_3).f1) < (x4_3.length : Int)
               case neg =>
                rw [if_neg c52] at H
                exact absurd H (by simp)
               rw [if_pos c52] at H
               have c52b0 : decide (((rd_T68 l0_1 x7_3).f1) < (x4_3.length : Int)) = true := decide_eq_true c52
               clear c52
               obtain ⟨y233, hy233⟩ : ∃ y_ : List Int, y_ = (x4_3.set (((rd_T68 l0_1 x7_3).f1) : Int).toNat (wrap64 ((rd x4_3 ((rd_T68 l0_1 x7_3).f1)) + 1))) := ⟨_, rfl⟩
               replace H : (spec_WeaveOk.l2 kj26 (l0_0.length : Int) y233 x5_2 x7_3 0 l0_0 l0_1 ((rd_T68 l0_1 x7_3).f0) ((rd_T68 l0_1 x7_3).f1) ((rd_T68 l0_1 x7_3).f2) ((rd_T68 l0_1 x7_3).f3)) = some r := by first | (rw [hy233]; with_reducible exact H) | (have H2_ := (Option.bind_some _ _).symm.trans H; rw [hy233]; with_reducible exact H2_) | (have H2_ := (Option.bind_some _ _).symm.trans H; with_reducible exact H2_) | with_reducible exact H | (rw [hy233]; exact H) | exact H
               have Ny233 := Aside0.mk hy233
               clear hy233
               have H' := Aside0.mk H
               clear H
               try go_wp2
               have n0_ := Aside0.mk (Kd.R_drew HO_4.out)
               have n1_ := Aside0.mk (Kd.S_drew HO_5.out)
               have n2_ := Aside0.mk (blk_drew BK211.out)
               have n3_ := Aside0.mk (blk_drew BK227.out)
               have n4_ := Aside0.mk (below_drew1 HB.out)
               clear HO_4
               clear HO_5
               clear BK211
               clear BK227
               clear HB
               have HO_4 := n0_
               have HO_5 := n1_
               have BK211 := n2_
               have BK227 := n3_
               have HB := n4_
               clear n0_ n1_ n2_ n3_ n4_
               obtain ⟨Ao55, co55, eo55⟩ := Kd.R_slice HO_4.out
               (first | subst eo55 | (injection eo55 with f1_ f2_ f3_; have f4_ := f1_.symm; have f5_ := f3_.symm; clear f1_ f2_ f3_; subst f4_; subst f5_))
               have p232 : 0 ≤ (((rd_T68 l0_1 x7_3).f1) : Int) := of_decide_eq_true q2_
               have q232 : ((rd_T68 l0_1 x7_3).f1) < (x4_3.length : Int) := of_decide_eq_true q2_
               obtain ⟨ad232, e232, hx232_0⟩ := Kd.at_int (Kd.R_reads' HO_4.out).2.2 ((rd_T68 l0_1 x7_3).f1) p232 q232
               cases e232
               replace p232 := eq_true p232
               replace q232 := eq_true q232
               have p53 : 0 ≤ (((rd_T68 l0_1 x7_3).f1) : Int) := of_decide_eq_true q2_
               have q53 : (((rd_T68 l0_1 x7_3).f1) : Int) < ((x4_3.length : Int) : Int) := of_decide_eq_true q2_
               obtain ⟨go53, co53, eo53, gb53, gl53, cl53, HG53⟩ := Kd.R_form HO_4.out (by omega)
               (first | cases eo53 | (injection eo53 with ea_ en_ ec_; (first | subst ea_ | (injection ea_ with ea_; subst ea_)); subst ec_; clear en_))
               have GB53 := Aside0.mk gb53
               have GG53 := Aside0.mk HG53
               clear gb53 gl53 HG53
               (first | simp only [add_plain] at hx232_0 | skip)
               obtain ⟨hx53_0, hf53_0⟩ := Kd.R_celln 0 HO_4.out (((rd_T68 l0_1 x7_3).f1) : Int) p53 q53
               replace p53 := eq_true p53
               replace q53 := eq_true q53
               have HP56 := Kd.R_putn HO_4.out (((rd_T68 l0_1 x7_3).f1) : Int) (wrap64 ((rd x4_3 ((rd_T68 l0_1 x7_3).f1)) + 1))
               rw [← Ny233.out] at HP56
               have HQ56 := Aside0.mk HP56
               clear HP56
               refine start_ (n := 11) (S := fun w' => w'.cell? ⟨gb227, 0, none⟩ = some (.string ((rd_T68 l0_1 x7_3).f0)) ∧ w'.cell? ⟨gb227, 1, none⟩ = some (.int .i64 ((rd_T68 l0_1 x7_3).f1)) ∧ w'.cell? ⟨gb227, 2, none⟩ = some (.int .i64 ((rd_T68 l0_1 x7_3).f2)) ∧ w'.cell? ⟨gb227, 3, none⟩ = some (.slice A226_3 ((rd_T68 l0_1 x7_3).f3).length c226_3) ∧ w'.cell? ⟨go53, (((rd_T68 l0_1 x7_3).f1)).toNat, none⟩ = some (.int .i64 (rd x4_3 ((rd_T68 l0_1 x7_3).f1)))) (ds := [10]) bv6_32 (by kernel_rfl) rfl rfl ⟨(blk_cell BK227.out 0).trans rfl, (blk_cell BK227.out 1).trans rfl, (blk_cell BK227.out 2).trans rfl, (blk_cell BK227.out 3).trans rfl, hx232_0⟩ (fun hHeld => ?_); refine with_tabW spec_WeaveOk.tab16 spec_WeaveOk.bits16 (fun HT_ HW_ => ?_)
               generalize wc.drew = w54 at HO_4 HO_5 BK211 BK227 HB GG53 HQ56 hf53_0 hx232_0 hx53_0 hHeld ⊢
               refine pure_ (i := 0) (N := some 84) (v := ?_) (a' := ?_) #[true, false, false, false, false, false, false, false, false, false, false] rfl rfl (any_of HT_.out (by kernel_rfl)) (fun _ _ _ h => h) (Or.inl ⟨by rfl, ?_⟩) ?_ ?_
               rotate_left; exact pw_; rotate_left; exact pz_
               refine pure_ (i := 1) (N := some 85) (v := ?_) (a' := ?_) #[true, true, false, false, false, false, false, false, false, false, false] rfl rfl (any_of HT_.out (by kernel_rfl)) (fun _ _ _ h => h) (Or.inl ⟨by rfl, ?_⟩) ?_ ?_
               rotate_left; exact pw_; rotate_left; exact pz_
               refine pure_ (i := 3) (N := some 87) (v := ?_) (a' := ?_) #[true, true, false, true, false, false, false, false, false, false, false] rfl rfl (any_of HT_.out (by kernel_rfl)) (fun _ _ _ h => h) (Or.inl ⟨by rfl, ?_⟩) ?_ ?_
               rotate_left; exact pw_; rotate_left; exact pz_
               refine pure_ (i := 4) (N := some 88) (v := ?_) (a' := ?_) #[true, true, false, true, true, false, false, false, false, false, false] rfl rfl (any_of HT_.out (by kernel_rfl)) (fun _ _ _ h => h) (Or.inl ⟨by rfl, ?_⟩) ?_ ?_
               rotate_left; exact pw_; rotate_left; exact pz_
               refine take_ (i := 2) (N := some 86) (v := ?_) (a' := ?_) bv6_33 rfl rfl (take_ofW HT_.out HW_.out (by kernel_rfl)) (fun _ _ _ h => h) (Or.inl ⟨by rfl, ?_⟩) hHeld ?_ ?_
               rotate_left; exact pw5_; rotate_left; exact pz_
               refine take_ (i := 5) (N := some 89) (v := ?_) (a' := ?_) bv6_34 rfl rfl (take_ofW HT_.out HW_.out (by kernel_rfl)) (fun _ _ _ h => h) (Or.inl ⟨by rfl, ?_⟩) hHeld ?_ ?_
               rotate_left; exact pw5_; rotate_left; exact pz_
               refine pure_ (i := 6) (N := some 90) (v := ?_) (a' := ?_) bv6_35 rfl rfl (any_of HT_.out (by kernel_rfl)) (fun _ _ _ h => h) (Or.inl ⟨by rfl, ?_⟩) ?_ ?_
               rotate_left; exact pw_; rotate_left; exact pz_
               refine take_ (i := 7) (N := some 91) (v := ?_) (a' := ?_) bv6_36 rfl rfl (take_ofW HT_.out HW_.out (by kernel_rfl)) (fun _ _ _ h => h) (Or.inl ⟨by rfl, ?_⟩) hHeld ?_ ?_
               rotate_left; exact pw5_; rotate_left; exact pz_
               refine pure_ (i := 8) (N := some 92) (v := ?_) (a' := ?_) bv6_37 rfl rfl (any_of HT_.out (by kernel_rfl)) (fun _ _ _ h => h) (Or.inl ⟨by rfl, ?_⟩) ?_ ?_
               rotate_left; exact pw_; rotate_left; exact pz_
               refine pure_ (i := 9) (N := some 93) (v := ?_) (a' := ?_) bv6_38 rfl rfl (any_of HT_.out (by kernel_rfl)) (fun _ _ _ h => h) (Or.inl ⟨by rfl, ?_⟩) ?_ ?_
               rotate_left; exact pw_; rotate_left; exact pz_
               refine last_ (i := 10) (N := none) bv6_39 rfl rfl (one_of HT_.out (by kernel_rfl)) (by decide) (fun K hK => ?_)
               refine skip_ (w1 := ?_) (by rfl) rfl ?_ ?_
               rotate_left
               ·go_simp
                rfl
               refine hK.out _ _ ?_
               clear hK K
               refine done_ (done_of HT_.out (by kernel_rfl)) ?_
               try go_wp2
               go_loopg [9] kj26 (fun kq v9 w' => ∃ (x9_5 : Int), v9 = .int .i64 x9_5 ∧ Aside0 (spec_WeaveOk.l2 kq (l0_0.length : Int) y233 x5_2 x7_3 x9_5 l0_0 l0_1 ((rd_T68 l0_1 x7_3).f0) ((rd_T68 l0_1 x7_3).f1) ((rd_T68 l0_1 x7_3).f2) ((rd_T68 l0_1 x7_3).f3) = some r) ∧ Aside0 (kq ≤ kj26) ∧ Aside0 (Kd.R (Kd.int .i64) 3 w' w.heap.size (fun _ => True) (.slice (some ⟨go53, 0, none⟩) x4_3.length co55) y233) ∧ Aside0 (Kd.S (Kd.slice 4 Kd.bool) 65 w' w.heap.size (fun _ => True) u5 x5_2) ∧ Aside0 (w'.heap[gb211]? = some (.cells #[(.slice A0_0 l0_0.length c0_0), (.slice (some ad226) l0_1.length c0_1)] 30 (0, 0))) ∧ Aside0 (w'.heap[gb227]? = some (.cells #[.string ((rd_T68 l0_1 x7_3).f0), .int .i64 ((rd_T68 l0_1 x7_3).f1), .int .i64 ((rd_T68 l0_1 x7_3).f2), (.slice A226_3 ((rd_T68 l0_1 x7_3).f3).length c226_3)] 68 (0, 0))) ∧ Aside0 (Below w.heap.size w w'))
               case atStart => exact ⟨(0), q5_, H', ⟨Nat.le_refl _⟩, ⟨by (with_reducible repeat (first | apply Kd.R_alloc | apply Kd.R_drewN | apply Kd.R_drew)); exact HQ56.out⟩, ⟨by (with_reducible repeat (first | apply Kd.S_alloc | apply Kd.S_drewN | apply Kd.S_drew)); exact Kd.S_mono (Kd.S_far (p := ⟨go53, (((rd_T68 l0_1 x7_3).f1) : Int).toNat, none⟩) (Kd.S_types HO_5.out GG53.out (by decide)) (fun _ hk => hk.2) (.int .i64 (wrap64 ((rd x4_3 ((rd_T68 l0_1 x7_3).f1)) + 1)))) (fun _ hk => trivial)⟩, ⟨by (with_reducible repeat (first | refine blk_drewN ?_ _ | refine blk_drew ?_ | refine blk_alloc ?_ _)); refine blk_far ?_ (by have h_ := Kd.R_ne HO_4.out BK211.out (by decide); intro e_; exact h_ (by rw [e_]; rfl)) _; (with_reducible repeat (first | refine blk_drewN ?_ _ | refine blk_drew ?_ | refine blk_alloc ?_ _)); exact BK211.out⟩, ⟨by (with_reducible repeat (first | refine blk_drewN ?_ _ | refine blk_drew ?_ | refine blk_alloc ?_ _)); refine blk_far ?_ (by have h_ := Kd.R_ne HO_4.out BK227.out (by decide); intro e_; exact h_ (by rw [e_]; rfl)) _; (with_reducible repeat (first | refine blk_drewN ?_ _ | refine blk_drew ?_ | refine blk_alloc ?_ _)); exact BK227.out⟩, ⟨by repeat (first | (with_reducible first | exact HB.out | apply below_alloc | apply pw_below_drewN | apply below_drew1 | refine below_set ?_ GB53.out | refine below_set ?_ GE211.out | refine below_set ?_ GE227.out) | exact HB.out)⟩⟩
               case round =>
                clear H'
                try clear c2
                try clear p2
                try clear q2
                try clear hx2
                try clear c3
                try clear c5
                try clear p5
                try clear q5
                try clear hx5
                try clear hf5
                try clear p6
                try clear c22
                try clear p23
                try clear q23
                try clear hx23
                try clear c33
                try clear c35
                try clear c36
                try clear c37
                try clear c50
                try clear c51
                try clear c51b0
                try clear c52
                try clear c52b0
                try clear c53
                try clear p53
                try clear q53
                try clear hx53
                try clear hf53
                try clear c54
                try clear hx232_0
                try clear hx53_0
                try clear p2
                try clear p232
                try clear p53
                try clear p6
                try clear q232
                try clear q53
                obtain ⟨x9_5, rfl, HA, HK5, HO_4, HO_5, BK211, BK227, HB⟩ := hrel
                have hl4_5 := (Kd.R_reads' HO_4.out).1
                rw [hl4_5] at HO_4
                (try simp only [hl4_5])
                (try simp only [hl4_5] at BK211)
                (try simp only [hl4_5] at BK227)
                (try simp only [hl4_5] at HO_5)
                cases gk with
                | zero => exact absurd HA.out (by simp [spec_WeaveOk.l2])
                | succ k5 =>
                 have H := HA.out
                 clear HA
                 simp only [spec_WeaveOk.l2] at H
                 by_cases c57 : x9_5 < (((rd_T68 l0_1 x7_3).f3).length : Int)
                 ·rw [if_pos c57] at H
                  have c57b0 : decide (x9_5 < (((rd_T68 l0_1 x7_3).f3).length : Int)) = true := decide_eq_true c57
                  clear c57
                  by_cases c58 : 0 ≤ x9_5
                  case neg =>
                   rw [if_neg c58] at H
                   exact absurd H (by simp)
                  rw [if_pos c58] at H
                  have c58b0 : decide (0 ≤ x9_5) = true := decide_eq_true c58
                  clear c58
                  by_cases c59 : 0 ≤ (rd ((rd_T68 l0_1 x7_3).f3) x9_5)
                  case neg =>
                   rw [if_neg c59] at H
                   exact absurd H (by simp)
                  rw [if_pos c59] at H
                  have c59b0 : decide (0 ≤ (rd ((rd_T68 l0_1 x7_3).f3) x9_5)) = true := decide_eq_true c59
                  clear c59
                  by_cases c60 : (rd ((rd_T68 l0_1 x7_3).f3) x9_5) < (x5_2.length : Int)
                  case neg =>
                   rw [if_neg c60] at H
                   exact absurd H (by simp)
                  rw [if_pos c60] at H
                  have c60b0 : decide ((rd ((rd_T68 l0_1 x7_3).f3) x9_5) < (x5_2.length : Int)) = true := decide_eq_true c60
                  clear c60
                  replace H := Option.bind_eq_some_iff.mp H
                  obtain ⟨t236, A610, H⟩ := H
                  replace H : (if t236 = true then (spec_WeaveOk.l2 k5 (l0_0.length : Int) y233 x5_2 x7_3 (wrap64 (x9_5 + 1)) l0_0 l0_1 ((rd_T68 l0_1 x7_3).f0) ((rd_T68 l0_1 x7_3).f1) ((rd_T68 l0_1 x7_3).f2) ((rd_T68 l0_1 x7_3).f3)) else (some false)) = some r := H
                  have A61 := Aside0.mk A610
                  clear A610
                  by_cases c62 : t236 = true
                  ·subst c62
                   have H1 : (spec_WeaveOk.l2 k5 (l0_0.length : Int) y233 x5_2 x7_3 (wrap64 (x9_5 + 1)) l0_0 l0_1 ((rd_T68 l0_1 x7_3).f0) ((rd_T68 l0_1 x7_3).f1) ((rd_T68 l0_1 x7_3).f2) ((rd_T68 l0_1 x7_3).f3)) = some r := by rw [if_pos rfl] at H; exact H
                   clear H
                   have H := H1
                   clear H1
                   have H' := Aside0.mk H
                   clear H
                   have hnb63 := NB227_211.out
                   have hnc63 := NB211_227.out
                   have hcz64_0 : wr.cell? ⟨gb227, 0, none⟩ = some (.string ((rd_T68 l0_1 x7_3).f0)) := (blk_cell BK227.out 0).trans rfl
                   have hcz64_1 : wr.cell? ⟨gb227, 1, none⟩ = some (.int .i64 ((rd_T68 l0_1 x7_3).f1)) := (blk_cell BK227.out 1).trans rfl
                   have hcz64_2 : wr.cell? ⟨gb227, 2, none⟩ = some (.int .i64 ((rd_T68 l0_1 x7_3).f2)) := (blk_cell BK227.out 2).trans rfl
                   have hcz64_3 : wr.cell? ⟨gb227, 3, none⟩ = some (.slice A226_3 ((rd_T68 l0_1 x7_3).f3).length c226_3) := (blk_cell BK227.out 3).trans rfl
                   have hfz64_0 := blk_frozen BK227.out 0
                   have hfz64_1 := blk_frozen BK227.out 1
                   have hfz64_2 := blk_frozen BK227.out 2
                   have hfz64_3 := blk_frozen BK227.out 3
                   try go_wp2
                   have n0_ := Aside0.mk (Kd.R_drew HO_4.out)
                   have n1_ := Aside0.mk (Kd.S_drew HO_5.out)
                   have n2_ := Aside0.mk (blk_drew BK211.out)
                   have n3_ := Aside0.mk (blk_drew BK227.out)
                   have n4_ := Aside0.mk (below_drew1 HB.out)
                   clear HO_4
                   clear HO_5
                   clear BK211
                   clear BK227
                   clear HB
                   have HO_4 := n0_
                   have HO_5 := n1_
                   have BK211 := n2_
                   have BK227 := n3_
                   have HB := n4_
                   clear n0_ n1_ n2_ n3_ n4_
                   have p234 : 0 ≤ (x9_5 : Int) := of_decide_eq_true q2_
                   have q234 : x9_5 < (((rd_T68 l0_1 x7_3).f3).length : Int) := of_decide_eq_true q2_
                   obtain ⟨ad234, e234, hx234_0⟩ := Kd.at_int HR226_3.out x9_5 p234 q234
                   have hw234_0 := hx234_0
                   cases e234
                   replace hx234_0 := (HB.out.cell (World.block_lt_of_cell? w _ hx234_0)).trans hx234_0
                   replace p234 := eq_true p234
                   replace q234 := eq_true q234
                   obtain ⟨Ao66, co66, eo66⟩ := Kd.S_slice HO_5.out
                   (first | subst eo66 | (injection eo66 with f1_ f2_ f3_; have f4_ := f1_.symm; have f5_ := f3_.symm; clear f1_ f2_ f3_; subst f4_; subst f5_))
                   have p235 : 0 ≤ ((rd ((rd_T68 l0_1 x7_3).f3) x9_5) : Int) := of_decide_eq_true q2_
                   have q235 : (rd ((rd_T68 l0_1 x7_3).f3) x9_5) < (x5_2.length : Int) := of_decide_eq_true q2_
                   obtain ⟨ad235, A235_0, c235_0, e235, hx235_0, hl235_0, hi235_0⟩ := at_L8 (Kd.S_reads' HO_5.out).2.2 (rd ((rd_T68 l0_1 x7_3).f3) x9_5) p235 q235
                   cases e235
                   obtain ⟨ce235, hce235, hMe235, hcc235⟩ := Kd.S_get HO_5.out [] (rd ((rd_T68 l0_1 x7_3).f3) x9_5) p235 (by first | exact q235 | exact of_decide_eq_true q2_ | (have e_ := (Kd.S_reads' HO_5.out).1; omega))
                   obtain ⟨ve235_0, rfl, ge235_0⟩ := hMe235
                   have hv235_0 := hcc235 0 _ rfl
                   rw [Nat.add_zero, show ((Kd.slice 4 Kd.bool)).sz = 1 from rfl, Nat.mul_one] at hv235_0
                   replace hv235_0 := Option.some.inj (hv235_0.symm.trans hx235_0)
                   rw [hv235_0] at ge235_0
                   have HL235_0 := Aside0.mk (show Kd.R Kd.bool 4 _ _ _ _ (rd_L8 x5_2 (rd ((rd_T68 l0_1 x7_3).f3) x9_5)) from ge235_0)
                   clear hv235_0 ge235_0
                   clear hcc235 hce235
                   have HR235_0 := Aside0.mk hi235_0
                   have HC235_0 := Aside0.mk hl235_0
                   clear hi235_0 hl235_0
                   replace p235 := eq_true p235
                   replace q235 := eq_true q235
                   refine start_ (n := 11) (S := fun w' => w'.cell? ⟨gb227, 0, none⟩ = some (.string ((rd_T68 l0_1 x7_3).f0)) ∧ w'.cell? ⟨gb227, 1, none⟩ = some (.int .i64 ((rd_T68 l0_1 x7_3).f1)) ∧ w'.cell? ⟨gb227, 2, none⟩ = some (.int .i64 ((rd_T68 l0_1 x7_3).f2)) ∧ w'.cell? ⟨gb227, 3, none⟩ = some (.slice (some ad234) ((rd_T68 l0_1 x7_3).f3).length c226_3) ∧ w'.cell? (ad234.add (x9_5).toNat) = some (.int .i64 (rd ((rd_T68 l0_1 x7_3).f3) x9_5)) ∧ w'.cell? (ad235.add ((rd ((rd_T68 l0_1 x7_3).f3) x9_5)).toNat) = some (.slice A235_0 (rd_L8 x5_2 (rd ((rd_T68 l0_1 x7_3).f3) x9_5)).length c235_0)) (ds := []) bv6_32 (by kernel_rfl) rfl rfl ⟨(blk_cell BK227.out 0).trans rfl, (blk_cell BK227.out 1).trans rfl, (blk_cell BK227.out 2).trans rfl, (blk_cell BK227.out 3).trans rfl, ((HB.out.cell (World.block_lt_of_cell? w _ hw234_0)).trans hw234_0), hx235_0⟩ (fun hHeld => ?_); refine with_tabW spec_WeaveOk.tab20 spec_WeaveOk.bits20 (fun HT_ HW_ => ?_)
                   generalize wr.drew = w65 at HO_4 HO_5 BK211 BK227 HB HL235_0 HR235_0 hx234_0 hx235_0 hHeld ⊢
                   refine pure_ (i := 1) (N := some 102) (v := ?_) (a' := ?_) #[false, true, false, false, false, false, false, false, false, false, false] rfl rfl (any_of HT_.out (by kernel_rfl)) (fun _ _ _ h => h) (Or.inl ⟨by rfl, ?_⟩) ?_ ?_
                   rotate_left; exact pw_; rotate_left; exact pz_
                   refine pure_ (i := 2) (N := some 103) (v := ?_) (a' := ?_) #[false, true, true, false, false, false, false, false, false, false, false] rfl rfl (any_of HT_.out (by kernel_rfl)) (fun _ _ _ h => h) (Or.inl ⟨by rfl, ?_⟩) ?_ ?_
                   rotate_left; exact pw_; rotate_left; exact pz_
                   refine pure_ (i := 4) (N := some 105) (v := ?_) (a' := ?_) #[false, true, true, false, true, false, false, false, false, false, false] rfl rfl (any_of HT_.out (by kernel_rfl)) (fun _ _ _ h => h) (Or.inl ⟨by rfl, ?_⟩) ?_ ?_
                   rotate_left; exact pw_; rotate_left; exact pz_
                   refine take_ (i := 0) (N := some 101) (v := ?_) (a' := ?_) #[true, true, true, false, true, false, false, false, false, false, false] rfl rfl (take_ofW HT_.out HW_.out (by kernel_rfl)) (fun _ _ _ h => h) (Or.inl ⟨by rfl, ?_⟩) hHeld ?_ ?_
                   rotate_left; exact pw6_; rotate_left; exact pz_
                   refine take_ (i := 3) (N := some 104) (v := ?_) (a' := ?_) bv6_33 rfl rfl (take_ofW HT_.out HW_.out (by kernel_rfl)) (fun _ _ _ h => h) (Or.inl ⟨by rfl, ?_⟩) hHeld ?_ ?_
                   rotate_left; exact pw6_; rotate_left; exact pz_
                   refine pure_ (i := 5) (N := some 106) (v := ?_) (a' := ?_) bv6_34 rfl rfl (any_of HT_.out (by kernel_rfl)) (fun _ _ _ h => h) (Or.inl ⟨by rfl, ?_⟩) ?_ ?_
                   rotate_left; exact pw_; rotate_left; exact pz_
                   refine take_ (i := 6) (N := some 107) (v := ?_) (a' := ?_) bv6_35 rfl rfl (take_ofW HT_.out HW_.out (by kernel_rfl)) (fun _ _ _ h => h) (Or.inl ⟨by rfl, ?_⟩) hHeld ?_ ?_
                   rotate_left; exact pw6_; rotate_left; exact pz_
                   refine pure_ (i := 7) (N := some 108) (v := ?_) (a' := ?_) bv6_36 rfl rfl (any_of HT_.out (by kernel_rfl)) (fun _ _ _ h => h) (Or.inl ⟨by rfl, ?_⟩) ?_ ?_
                   rotate_left; exact pw_; rotate_left; exact pz_
                   refine take_ (i := 8) (N := some 109) (v := ?_) (a' := ?_) bv6_37 rfl rfl (take_ofW HT_.out HW_.out (by kernel_rfl)) (fun _ _ _ h => h) (Or.inl ⟨by rfl, ?_⟩) hHeld ?_ ?_
                   rotate_left; exact pw6_; rotate_left; exact pz_
                   refine one_ (i := 9) (N := some 110) bv6_38 rfl rfl (one_of HT_.out (by kernel_rfl)) (by decide) (fun K hK => ?_)
                   refine goes_ Try.func56 (by kernel_rfl) rfl #[.agg #[.string ((rd_T68 l0_1 x7_3).f0), .int .i64 ((rd_T68 l0_1 x7_3).f1), .int .i64 ((rd_T68 l0_1 x7_3).f2), .slice (some ad234) ((rd_T68 l0_1 x7_3).f3).length c226_3], .slice A235_0 (rd_L8 x5_2 (rd ((rd_T68 l0_1 x7_3).f3) x9_5)).length c235_0] (by rfl) rfl rfl q0_ ?_
                   with_reducible refine (spec_l06Live.calls k5 ((rd_T68 l0_1 x7_3).f0) ((rd_T68 l0_1 x7_3).f1) ((rd_T68 l0_1 x7_3).f2) _ _ ((rd_T68 l0_1 x7_3).f3) _ _ (rd_L8 x5_2 (rd ((rd_T68 l0_1 x7_3).f3) x9_5)) true _ ?side1 ?side2 ?side3 ?side4 A61.out).mono ?_
                   (case side1 => exact (by repeat (first | exact (Kd.C_below HR226_3.out HB.out) | (with_reducible refine Kd.C_alloc ?_ _) | (with_reducible refine Kd.C_drewN ?_ _) | (with_reducible refine Kd.C_drew ?_))))
                   (case side2 => exact HC226_3.out)
                   (case side3 => exact (by repeat (first | exact q50_ | (with_reducible refine Kd.C_alloc ?_ _) | (with_reducible refine Kd.C_drewN ?_ _) | (with_reducible refine Kd.C_drew ?_))))
                   (case side4 => exact HC235_0.out)
                   rintro e w67 ⟨rfl, hb⟩
                   have HS5_ := (hb.cell (World.block_lt_of_cell? _ _ (hHeld.2.2.2.2.2))).trans (hHeld.2.2.2.2.2)
                   refine ⟨_, rfl, ?_⟩
                   have n0_ := Aside0.mk (Kd.R_below q35_ hb)
                   have n1_ := Aside0.mk (Kd.S_below q64_ hb)
                   have n2_ := Aside0.mk (Kd.R_below (by (with_reducible repeat (first | apply Kd.R_alloc | apply Kd.R_drewN | apply Kd.R_drew)); exact HL235_0.out) hb)
                   have n3_ := Aside0.mk (blk_below (g := gb211) (o := .cells #[.slice A0_0 l0_0.length c0_0, .slice (some ad226) l0_1.length c0_1] 30 (0, 0)) q22_ hb)
                   have n4_ := Aside0.mk (blk_below (g := gb227) (o := .cells #[.string ((rd_T68 l0_1 x7_3).f0), .int .i64 ((rd_T68 l0_1 x7_3).f1), .int .i64 ((rd_T68 l0_1 x7_3).f2), .slice (some ad234) ((rd_T68 l0_1 x7_3).f3).length c226_3] 68 (0, 0)) (by (with_reducible repeat (first | refine blk_drewN ?_ _ | refine blk_drew ?_ | refine blk_alloc ?_ _)); exact BK227.out) hb)
                   have n5_ := Aside0.mk (Kd.C_below q50_ hb)
                   have n6_ := Aside0.mk (below_step (by repeat (first | (with_reducible first | exact HB.out | apply below_alloc | apply pw_below_drewN | apply below_drew1 | refine below_set ?_ GE211.out | refine below_set ?_ GE227.out) | exact HB.out)) hb)
                   clear HO_4
                   clear HO_5
                   clear HL235_0
                   clear BK211
                   clear BK227
                   clear HR235_0
                   clear HB
                   have HO_4 := n0_
                   have HO_5 := n1_
                   have HL235_0 := n2_
                   have BK211 := n3_
                   have BK227 := n4_
                   have HR235_0 := n5_
                   have HB := n6_
                   clear n0_ n1_ n2_ n3_ n4_ n5_ n6_
                   (try clear hb)
                   (try clear hb2)
                   (try clear hk)
                   (try clear hi)
                   refine hK.out _ _ ⟨(blk_cell BK227.out 0).trans rfl, (blk_cell BK227.out 1).trans rfl, (blk_cell BK227.out 2).trans rfl, (blk_cell BK227.out 3).trans rfl, ((HB.out.cell (World.block_lt_of_cell? w _ hw234_0)).trans hw234_0), HS5_⟩ (fun hHeld => ?_)
                   clear hK K
                   refine norm_ (a' := ?_) ?_ ?_
                   rotate_left
                   ·show Act.put _ (some 110) _ = _
                    simp only [Act.put, List.setIfInBounds_toArray, List.set_cons_zero, List.set_cons_succ, i64_w, i32_w]
                    rfl
                   refine pure_ (i := 10) (N := some 111) (v := ?_) (a' := ?_) bv6_39 rfl rfl (any_of HT_.out (by kernel_rfl)) (fun _ _ _ h => h) (Or.inl ⟨by rfl, ?_⟩) ?_ ?_
                   rotate_left; exact pw_; rotate_left; exact pz_
                   refine done_ (done_of HT_.out (by kernel_rfl)) ?_
                   try go_wp2
                   (try simp only [← hl4_5])
                   go_roundg k5
                   case measure => have := HJ1.out; have := HK2.out; have := HK3.out; have := HJ26.out; have := HK5.out; omega
                   case rel => exact ⟨(wrap64 (x9_5 + 1)), q5_, H', ⟨by have := HJ1.out; have := HK2.out; have := HK3.out; have := HJ26.out; have := HK5.out; omega⟩, ⟨by (try simp only [hl4_5]); (with_reducible repeat (first | apply Kd.R_alloc | apply Kd.R_drewN | apply Kd.R_drew)); exact HO_4.out⟩, ⟨by (try simp only [hl4_5]); (with_reducible repeat (first | apply Kd.S_alloc | apply Kd.S_drewN | apply Kd.S_drew)); exact HO_5.out⟩, ⟨by (try simp only [hl4_5]); (with_reducible repeat (first | refine blk_drewN ?_ _ | refine blk_drew ?_ | refine blk_alloc ?_ _)); exact BK211.out⟩, ⟨by (try simp only [hl4_5]); (with_reducible repeat (first | refine blk_drewN ?_ _ | refine blk_drew ?_ | refine blk_alloc ?_ _)); exact BK227.out⟩, ⟨by repeat (first | (with_reducible first | exact HB.out | apply below_alloc | apply pw_below_drewN | apply below_drew1 | refine below_set ?_ GE211.out | refine below_set ?_ GE227.out) | exact HB.out)⟩⟩
                  ·replace c62 := Bool.eq_false_iff.mpr c62
                   subst c62
                   have H1 : (some false) = some r := by rw [if_neg (show ¬ (false = true) by decide)] at H; exact H
                   clear H
                   have H := H1
                   clear H1
                   obtain rfl := Option.some.inj H
                   have hnb68 := NB227_211.out
                   have hnc68 := NB211_227.out
                   have hcz69_0 : wr.cell? ⟨gb227, 0, none⟩ = some (.string ((rd_T68 l0_1 x7_3).f0)) := (blk_cell BK227.out 0).trans rfl
                   have hcz69_1 : wr.cell? ⟨gb227, 1, none⟩ = some (.int .i64 ((rd_T68 l0_1 x7_3).f1)) := (blk_cell BK227.out 1).trans rfl
                   have hcz69_2 : wr.cell? ⟨gb227, 2, none⟩ = some (.int .i64 ((rd_T68 l0_1 x7_3).f2)) := (blk_cell BK227.out 2).trans rfl
                   have hcz69_3 : wr.cell? ⟨gb227, 3, none⟩ = some (.slice A226_3 ((rd_T68 l0_1 x7_3).f3).length c226_3) := (blk_cell BK227.out 3).trans rfl
                   have hfz69_0 := blk_frozen BK227.out 0
                   have hfz69_1 := blk_frozen BK227.out 1
                   have hfz69_2 := blk_frozen BK227.out 2
                   have hfz69_3 := blk_frozen BK227.out 3
                   try go_wp2
                   have n0_ := Aside0.mk (Kd.R_drew HO_4.out)
                   have n1_ := Aside0.mk (Kd.S_drew HO_5.out)
                   have n2_ := Aside0.mk (blk_drew BK211.out)
                   have n3_ := Aside0.mk (blk_drew BK227.out)
                   have n4_ := Aside0.mk (below_drew1 HB.out)
                   clear HO_4
                   clear HO_5
                   clear BK211
                   clear BK227
                   clear HB
                   have HO_4 := n0_
                   have HO_5 := n1_
                   have BK211 := n2_
                   have BK227 := n3_
                   have HB := n4_
                   clear n0_ n1_ n2_ n3_ n4_
                   have p234 : 0 ≤ (x9_5 : Int) := of_decide_eq_true q2_
                   have q234 : x9_5 < (((rd_T68 l0_1 x7_3).f3).length : Int) := of_decide_eq_true q2_
                   obtain ⟨ad234, e234, hx234_0⟩ := Kd.at_int HR226_3.out x9_5 p234 q234
                   have hw234_0 := hx234_0
                   cases e234
                   replace hx234_0 := (HB.out.cell (World.block_lt_of_cell? w _ hx234_0)).trans hx234_0
                   replace p234 := eq_true p234
                   replace q234 := eq_true q234
                   obtain ⟨Ao71, co71, eo71⟩ := Kd.S_slice HO_5.out
                   (first | subst eo71 | (injection eo71 with f1_ f2_ f3_; have f4_ := f1_.symm; have f5_ := f3_.symm; clear f1_ f2_ f3_; subst f4_; subst f5_))
                   have p235 : 0 ≤ ((rd ((rd_T68 l0_1 x7_3).f3) x9_5) : Int) := of_decide_eq_true q2_
                   have q235 : (rd ((rd_T68 l0_1 x7_3).f3) x9_5) < (x5_2.length : Int) := of_decide_eq_true q2_
                   obtain ⟨ad235, A235_0, c235_0, e235, hx235_0, hl235_0, hi235_0⟩ := at_L8 (Kd.S_reads' HO_5.out).2.2 (rd ((rd_T68 l0_1 x7_3).f3) x9_5) p235 q235
                   cases e235
                   obtain ⟨ce235, hce235, hMe235, hcc235⟩ := Kd.S_get HO_5.out [] (rd ((rd_T68 l0_1 x7_3).f3) x9_5) p235 (by first | exact q235 | exact of_decide_eq_true q2_ | (have e_ := (Kd.S_reads' HO_5.out).1; omega))
                   obtain ⟨ve235_0, rfl, ge235_0⟩ := hMe235
                   have hv235_0 := hcc235 0 _ rfl
                   rw [Nat.add_zero, show ((Kd.slice 4 Kd.bool)).sz = 1 from rfl, Nat.mul_one] at hv235_0
                   replace hv235_0 := Option.some.inj (hv235_0.symm.trans hx235_0)
                   rw [hv235_0] at ge235_0
                   have HL235_0 := Aside0.mk (show Kd.R Kd.bool 4 _ _ _ _ (rd_L8 x5_2 (rd ((rd_T68 l0_1 x7_3).f3) x9_5)) from ge235_0)
                   clear hv235_0 ge235_0
                   clear hcc235 hce235
                   have HR235_0 := Aside0.mk hi235_0
                   have HC235_0 := Aside0.mk hl235_0
                   clear hi235_0 hl235_0
                   replace p235 := eq_true p235
                   replace q235 := eq_true q235
                   refine start_ (n := 11) (S := fun w' => w'.cell? ⟨gb227, 0, none⟩ = some (.string ((rd_T68 l0_1 x7_3).f0)) ∧ w'.cell? ⟨gb227, 1, none⟩ = some (.int .i64 ((rd_T68 l0_1 x7_3).f1)) ∧ w'.cell? ⟨gb227, 2, none⟩ = some (.int .i64 ((rd_T68 l0_1 x7_3).f2)) ∧ w'.cell? ⟨gb227, 3, none⟩ = some (.slice (some ad234) ((rd_T68 l0_1 x7_3).f3).length c226_3) ∧ w'.cell? (ad234.add (x9_5).toNat) = some (.int .i64 (rd ((rd_T68 l0_1 x7_3).f3) x9_5)) ∧ w'.cell? (ad235.add ((rd ((rd_T68 l0_1 x7_3).f3) x9_5)).toNat) = some (.slice A235_0 (rd_L8 x5_2 (rd ((rd_T68 l0_1 x7_3).f3) x9_5)).length c235_0)) (ds := []) bv6_32 (by kernel_rfl) rfl rfl ⟨(blk_cell BK227.out 0).trans rfl, (blk_cell BK227.out 1).trans rfl, (blk_cell BK227.out 2).trans rfl, (blk_cell BK227.out 3).trans rfl, ((HB.out.cell (World.block_lt_of_cell? w _ hw234_0)).trans hw234_0), hx235_0⟩ (fun hHeld => ?_); refine with_tabW spec_WeaveOk.tab20 spec_WeaveOk.bits20 (fun HT_ HW_ => ?_)
                   generalize wr.drew = w70 at HO_4 HO_5 BK211 BK227 HB HL235_0 HR235_0 hx234_0 hx235_0 hHeld ⊢
                   refine pure_ (i := 1) (N := some 102) (v := ?_) (a' := ?_) #[false, true, false, false, false, false, false, false, false, false, false] rfl rfl (any_of HT_.out (by kernel_rfl)) (fun _ _ _ h => h) (Or.inl ⟨by rfl, ?_⟩) ?_ ?_
                   rotate_left; exact pw_; rotate_left; exact pz_
                   refine pure_ (i := 2) (N := some 103) (v := ?_) (a' := ?_) #[false, true, true, false, false, false, false, false, false, false, false] rfl rfl (any_of HT_.out (by kernel_rfl)) (fun _ _ _ h => h) (Or.inl ⟨by rfl, ?_⟩) ?_ ?_
                   rotate_left; exact pw_; rotate_left; exact pz_
                   refine pure_ (i := 4) (N := some 105) (v := ?_) (a' := ?_) #[false, true, true, false, true, false, false, false, false, false, false] rfl rfl (any_of HT_.out (by kernel_rfl)) (fun _ _ _ h => h) (Or.inl ⟨by rfl, ?_⟩) ?_ ?_
                   rotate_left; exact pw_; rotate_left; exact pz_
                   refine take_ (i := 0) (N := some 101) (v := ?_) (a' := ?_) #[true, true, true, false, true, false, false, false, false, false, false] rfl rfl (take_ofW HT_.out HW_.out (by kernel_rfl)) (fun _ _ _ h => h) (Or.inl ⟨by rfl, ?_⟩) hHeld ?_ ?_
                   rotate_left; exact pw6_; rotate_left; exact pz_
                   refine take_ (i := 3) (N := some 104) (v := ?_) (a' := ?_) bv6_33 rfl rfl (take_ofW HT_.out HW_.out (by kernel_rfl)) (fun _ _ _ h => h) (Or.inl ⟨by rfl, ?_⟩) hHeld ?_ ?_
                   rotate_left; exact pw6_; rotate_left; exact pz_
                   refine pure_ (i := 5) (N := some 106) (v := ?_) (a' := ?_) bv6_34 rfl rfl (any_of HT_.out (by kernel_rfl)) (fun _ _ _ h => h) (Or.inl ⟨by rfl, ?_⟩) ?_ ?_
                   rotate_left; exact pw_; rotate_left; exact pz_
                   refine take_ (i := 6) (N := some 107) (v := ?_) (a' := ?_) bv6_35 rfl rfl (take_ofW HT_.out HW_.out (by kernel_rfl)) (fun _ _ _ h => h) (Or.inl ⟨by rfl, ?_⟩) hHeld ?_ ?_
                   rotate_left; exact pw6_; rotate_left; exact pz_
                   refine pure_ (i := 7) (N := some 108) (v := ?_) (a' := ?_) bv6_36 rfl rfl (any_of HT_.out (by kernel_rfl)) (fun _ _ _ h => h) (Or.inl ⟨by rfl, ?_⟩) ?_ ?_
                   rotate_left; exact pw_; rotate_left; exact pz_
                   refine take_ (i := 8) (N := some 109) (v := ?_) (a' := ?_) bv6_37 rfl rfl (take_ofW HT_.out HW_.out (by kernel_rfl)) (fun _ _ _ h => h) (Or.inl ⟨by rfl, ?_⟩) hHeld ?_ ?_
                   rotate_left; exact pw6_; rotate_left; exact pz_
                   refine one_ (i := 9) (N := some 110) bv6_38 rfl rfl (one_of HT_.out (by kernel_rfl)) (by decide) (fun K hK => ?_)
                   refine goes_ Try.func56 (by kernel_rfl) rfl #[.agg #[.string ((rd_T68 l0_1 x7_3).f0), .int .i64 ((rd_T68 l0_1 x7_3).f1), .int .i64 ((rd_T68 l0_1 x7_3).f2), .slice (some ad234) ((rd_T68 l0_1 x7_3).f3).length c226_3], .slice A235_0 (rd_L8 x5_2 (rd ((rd_T68 l0_1 x7_3).f3) x9_5)).length c235_0] (by rfl) rfl rfl q0_ ?_
                   with_reducible refine (spec_l06Live.calls k5 ((rd_T68 l0_1 x7_3).f0) ((rd_T68 l0_1 x7_3).f1) ((rd_T68 l0_1 x7_3).f2) _ _ ((rd_T68 l0_1 x7_3).f3) _ _ (rd_L8 x5_2 (rd ((rd_T68 l0_1 x7_3).f3) x9_5)) false _ ?side1 ?side2 ?side3 ?side4 A61.out).mono ?_
                   (case side1 => exact (by repeat (first | exact (Kd.C_below HR226_3.out HB.out) | (with_reducible refine Kd.C_alloc ?_ _) | (with_reducible refine Kd.C_drewN ?_ _) | (with_reducible refine Kd.C_drew ?_))))
                   (case side2 => exact HC226_3.out)
                   (case side3 => exact (by repeat (first | exact q50_ | (with_reducible refine Kd.C_alloc ?_ _) | (with_reducible refine Kd.C_drewN ?_ _) | (with_reducible refine Kd.C_drew ?_))))
                   (case side4 => exact HC235_0.out)
                   rintro e w72 ⟨rfl, hb⟩
                   have HS5_ := (hb.cell (World.block_lt_of_cell? _ _ (hHeld.2.2.2.2.2))).trans (hHeld.2.2.2.2.2)
                   refine ⟨_, rfl, ?_⟩
                   have n0_ := Aside0.mk (Kd.R_below q35_ hb)
                   have n1_ := Aside0.mk (Kd.S_below q64_ hb)
                   have n2_ := Aside0.mk (Kd.R_below (by (with_reducible repeat (first | apply Kd.R_alloc | apply Kd.R_drewN | apply Kd.R_drew)); exact HL235_0.out) hb)
                   have n3_ := Aside0.mk (blk_below (g := gb211) (o := .cells #[.slice A0_0 l0_0.length c0_0, .slice (some ad226) l0_1.length c0_1] 30 (0, 0)) q22_ hb)
                   have n4_ := Aside0.mk (blk_below (g := gb227) (o := .cells #[.string ((rd_T68 l0_1 x7_3).f0), .int .i64 ((rd_T68 l0_1 x7_3).f1), .int .i64 ((rd_T68 l0_1 x7_3).f2), .slice (some ad234) ((rd_T68 l0_1 x7_3).f3).length c226_3] 68 (0, 0)) (by (with_reducible repeat (first | refine blk_drewN ?_ _ | refine blk_drew ?_ | refine blk_alloc ?_ _)); exact BK227.out) hb)
                   have n5_ := Aside0.mk (Kd.C_below q50_ hb)
                   have n6_ := Aside0.mk (below_step (by repeat (first | (with_reducible first | exact HB.out | apply below_alloc | apply pw_below_drewN | apply below_drew1 | refine below_set ?_ GE211.out | refine below_set ?_ GE227.out) | exact HB.out)) hb)
                   clear HO_4
                   clear HO_5
                   clear HL235_0
                   clear BK211
                   clear BK227
                   clear HR235_0
                   clear HB
                   have HO_4 := n0_
                   have HO_5 := n1_
                   have HL235_0 := n2_
                   have BK211 := n3_
                   have BK227 := n4_
                   have HR235_0 := n5_
                   have HB := n6_
                   clear n0_ n1_ n2_ n3_ n4_ n5_ n6_
                   (try clear hb)
                   (try clear hb2)
                   (try clear hk)
                   (try clear hi)
                   refine hK.out _ _ ⟨(blk_cell BK227.out 0).trans rfl, (blk_cell BK227.out 1).trans rfl, (blk_cell BK227.out 2).trans rfl, (blk_cell BK227.out 3).trans rfl, ((HB.out.cell (World.block_lt_of_cell? w _ hw234_0)).trans hw234_0), HS5_⟩ (fun hHeld => ?_)
                   clear hK K
                   refine norm_ (a' := ?_) ?_ ?_
                   rotate_left
                   ·show Act.put _ (some 110) _ = _
                    simp only [Act.put, List.setIfInBounds_toArray, List.set_cons_zero, List.set_cons_succ, i64_w, i32_w]
                    rfl
                   refine pure_ (i := 10) (N := some 111) (v := ?_) (a' := ?_) bv6_39 rfl rfl (any_of HT_.out (by kernel_rfl)) (fun _ _ _ h => h) (Or.inl ⟨by rfl, ?_⟩) ?_ ?_
                   rotate_left; exact pw_; rotate_left; exact pz_
                   refine done_ (done_of HT_.out (by kernel_rfl)) ?_
                   try go_wp2
                   go_ret
                   exact ⟨by first | rfl | (simp [errW_none, errW_some] <;> rfl) | (simp [*, errW_none, errW_some] <;> rfl), by repeat (first | (with_reducible first | exact HB.out | apply below_alloc | apply pw_below_drewN | apply below_drew1 | refine below_set ?_ GE211.out | refine below_set ?_ GE227.out) | exact HB.out)⟩
                 ·rw [if_neg c57] at H
                  have c57b0 : decide (x9_5 < (((rd_T68 l0_1 x7_3).f3).length : Int)) = false := decide_eq_false c57
                  clear c57
                  have H' := Aside0.mk H
                  clear H
                  have hnb73 := NB227_211.out
                  have hnc73 := NB211_227.out
                  have hcz74_0 : wr.cell? ⟨gb227, 0, none⟩ = some (.string ((rd_T68 l0_1 x7_3).f0)) := (blk_cell BK227.out 0).trans rfl
                  have hcz74_1 : wr.cell? ⟨gb227, 1, none⟩ = some (.int .i64 ((rd_T68 l0_1 x7_3).f1)) := (blk_cell BK227.out 1).trans rfl
                  have hcz74_2 : wr.cell? ⟨gb227, 2, none⟩ = some (.int .i64 ((rd_T68 l0_1 x7_3).f2)) := (blk_cell BK227.out 2).trans rfl
                  have hcz74_3 : wr.cell? ⟨gb227, 3, none⟩ = some (.slice A226_3 ((rd_T68 l0_1 x7_3).f3).length c226_3) := (blk_cell BK227.out 3).trans rfl
                  have hfz74_0 := blk_frozen BK227.out 0
                  have hfz74_1 := blk_frozen BK227.out 1
                  have hfz74_2 := blk_frozen BK227.out 2
                  have hfz74_3 := blk_frozen BK227.out 3
                  go_wp2
                  (try simp only [← hl4_5])
                  go_roundg k5
                  case measure => have := HJ1.out; have := HK2.out; have := HK3.out; have := HJ26.out; have := HK5.out; omega
                  case rel => exact ⟨(y233), (wrap64 (x7_3 + 1)), q5_, H', ⟨by have := HJ1.out; have := HK2.out; have := HK3.out; have := HJ26.out; have := HK5.out; omega⟩, ⟨by (try simp only [hl4_5]); (with_reducible repeat (first | apply Kd.R_alloc | apply Kd.R_drewN | apply Kd.R_drew)); exact HO_4.out⟩, ⟨by (try simp only [hl4_5]); (with_reducible repeat (first | apply Kd.S_alloc | apply Kd.S_drewN | apply Kd.S_drew)); exact HO_5.out⟩, ⟨by (try simp only [hl4_5]); (with_reducible repeat (first | refine blk_drewN ?_ _ | refine blk_drew ?_ | refine blk_alloc ?_ _)); exact BK211.out⟩, ⟨by repeat (first | (with_reducible first | exact HB.out | apply below_alloc | apply pw_below_drewN | apply below_drew1 | refine below_set ?_ GE211.out | refine below_set ?_ GE227.out) | exact HB.out)⟩⟩
           ·rw [if_neg c25] at H
            have c25b0 : decide (x7_3 < (l0_1.length : Int)) = false := decide_eq_false c25
            clear c25
            have H' := Aside0.mk H
            clear H
            have hcz75_0 : wr.cell? ⟨gb211, 0, none⟩ = some (.slice A0_0 l0_0.length c0_0) := (blk_cell BK211.out 0).trans rfl
            have hcz75_1 : wr.cell? ⟨gb211, 1, none⟩ = some (.slice A0_1 l0_1.length c0_1) := (blk_cell BK211.out 1).trans rfl
            have hfz75_0 := blk_frozen BK211.out 0
            have hfz75_1 := blk_frozen BK211.out 1
            go_wp2
            go_loopg [10] k3 (fun kq v10 w' => ∃ (x10_4 : Int), v10 = .int .i64 x10_4 ∧ Aside0 (spec_WeaveOk.l3 kq (l0_0.length : Int) x4_3 x10_4 l0_0 l0_1 = some r) ∧ Aside0 (kq ≤ k3) ∧ Aside0 (Kd.R (Kd.int .i64) 3 w' w.heap.size (fun _ => True) v214 x4_3) ∧ Aside0 (w'.heap[gb211]? = some (.cells #[(.slice A0_0 l0_0.length c0_0), (.slice A0_1 l0_1.length c0_1)] 30 (0, 0))) ∧ Aside0 (Below w.heap.size w w'))
            case atStart => exact ⟨(0), q5_, H', ⟨Nat.le_refl _⟩, ⟨by (with_reducible repeat (first | apply Kd.R_alloc | apply Kd.R_drewN | apply Kd.R_drew)); exact HO_4.out⟩, ⟨by (with_reducible repeat (first | refine blk_drewN ?_ _ | refine blk_drew ?_ | refine blk_alloc ?_ _)); exact BK211.out⟩, ⟨by repeat (first | (with_reducible first | exact HB.out | apply below_alloc | apply pw_below_drewN | apply below_drew1 | refine below_set ?_ GE211.out) | exact HB.out)⟩⟩
            case round =>
             clear H'
             try clear c2
             try clear p2
             try clear q2
             try clear hx2
             try clear c3
             try clear c5
             try clear p5
             try clear q5
             try clear hx5
             try clear hf5
             try clear c6
             try clear p6
             try clear c7
             try clear c22
             try clear c23
             try clear p23
             try clear q23
             try clear hx23
             try clear c25
             try clear c25b0
             try clear c26
             try clear c33
             try clear c35
             try clear c36
             try clear c37
             try clear c50
             try clear c51
             try clear c51b0
             try clear c52
             try clear c52b0
             try clear c53
             try clear p53
             try clear q53
             try clear hx53
             try clear hf53
             try clear c54
             try clear c56
             try clear c57
             try clear c57b0
             try clear c58
             try clear c58b0
             try clear c59
             try clear c59b0
             try clear c60
             try clear c60b0
             try clear c62
             try clear c63
             try clear p64
             try clear c68
             try clear c73
             try clear hcz64_0
             try clear hcz64_1
             try clear hcz64_2
             try clear hcz64_3
             try clear hcz69_0
             try clear hcz69_1
             try clear hcz69_2
             try clear hcz69_3
             try clear hcz74_0
             try clear hcz74_1
             try clear hcz74_2
             try clear hcz74_3
             try clear hcz75_0
             try clear hcz75_1
             try clear hfz64_0
             try clear hfz64_1
             try clear hfz64_2
             try clear hfz64_3
             try clear hfz69_0
             try clear hfz69_1
             try clear hfz69_2
             try clear hfz69_3
             try clear hfz74_0
             try clear hfz74_1
             try clear hfz74_2
             try clear hfz74_3
             try clear hfz75_0
             try clear hfz75_1
             try clear hx232_0
             try clear hx234_0
             try clear hx235_0
             try clear hx53_0
             try clear p2
             try clear p23
             try clear p232
             try clear p234
             try clear p235
             try clear p5
             try clear p53
             try clear p6
             try clear q2
             try clear q23
             try clear q232
             try clear q234
             try clear q235
             try clear q5
             try clear q53
             obtain ⟨x10_4, rfl, HA, HK4, HO_4, BK211, HB⟩ := hrel
             cases gk with
             | zero => exact absurd HA.out (by simp [spec_WeaveOk.l3])
             | succ k4 =>
              have H := HA.out
              clear HA
              simp only [spec_WeaveOk.l3] at H
              by_cases c76 : x10_4 < (l0_0.length : Int)
              ·rw [if_pos c76] at H
               have c76b0 : decide (x10_4 < (l0_0.length : Int)) = true := decide_eq_true c76
               clear c76
               by_cases c77 : 0 ≤ x10_4
               case neg =>
                rw [if_neg c77] at H
                exact absurd H (by simp)
               rw [if_pos c77] at H
               have c77b0 : decide (0 ≤ x10_4) = true := decide_eq_true c77
               clear c77
               by_cases c78 : x10_4 < (x4_3.length : Int)
               case neg =>
                rw [if_neg c78] at H
                exact absurd H (by simp)
               rw [if_pos c78] at H
               have c78b0 : decide (x10_4 < (x4_3.length : Int)) = true := decide_eq_true c78
               clear c78
               by_cases c79 : (rd x4_3 x10_4) > 80
               ·rw [if_pos c79] at H
                have c79b0 : decide (80 < (rd x4_3 x10_4)) = true := decide_eq_true c79
                clear c79
                obtain rfl := Option.some.inj H
                try go_wp2
                have n0_ := Aside0.mk (Kd.R_drew HO_4.out)
                have n1_ := Aside0.mk (blk_drew BK211.out)
                have n2_ := Aside0.mk (below_drew1 HB.out)
                clear HO_4
                clear BK211
                clear HB
                have HO_4 := n0_
                have BK211 := n1_
                have HB := n2_
                clear n0_ n1_ n2_
                obtain ⟨Ao81, co81, eo81⟩ := Kd.R_slice HO_4.out
                (first | subst eo81 | (injection eo81 with f1_ f2_ f3_; have f4_ := f1_.symm; have f5_ := f3_.symm; clear f1_ f2_ f3_; subst f4_; subst f5_))
                have p237 : 0 ≤ (x10_4 : Int) := of_decide_eq_true q2_
                have q237 : x10_4 < (x4_3.length : Int) := of_decide_eq_true q2_
                obtain ⟨ad237, e237, hx237_0⟩ := Kd.at_int (Kd.R_reads' HO_4.out).2.2 x10_4 p237 q237
                cases e237
                replace p237 := eq_true p237
                replace q237 := eq_true q237
                refine start_ (n := 14) (S := fun w' => w'.cell? (ad237.add (x10_4).toNat) = some (.int .i64 (rd x4_3 x10_4))) (ds := []) bv6_40 (by kernel_rfl) rfl rfl (hx237_0) (fun hHeld => ?_); refine with_tabW spec_WeaveOk.tab25 spec_WeaveOk.bits25 (fun HT_ HW_ => ?_)
                generalize wr.drew = w80 at HO_4 BK211 HB hx237_0 hHeld ⊢
                refine pure_ (i := 0) (N := some 117) (v := ?_) (a' := ?_) bv6_41 rfl rfl (any_of HT_.out (by kernel_rfl)) (fun _ _ _ h => h) (Or.inl ⟨by rfl, ?_⟩) ?_ ?_
                rotate_left; exact pw_; rotate_left; exact pz_
                refine pure_ (i := 1) (N := some 118) (v := ?_) (a' := ?_) bv6_42 rfl rfl (any_of HT_.out (by kernel_rfl)) (fun _ _ _ h => h) (Or.inl ⟨by rfl, ?_⟩) ?_ ?_
                rotate_left; exact pw_; rotate_left; exact pz_
                refine pure_ (i := 2) (N := some 119) (v := ?_) (a' := ?_) bv6_43 rfl rfl (any_of HT_.out (by kernel_rfl)) (fun _ _ _ h => h) (Or.inl ⟨by rfl, ?_⟩) ?_ ?_
                rotate_left; exact pw_; rotate_left; exact pz_
                refine take_ (i := 3) (N := some 120) (v := ?_) (a' := ?_) bv6_44 rfl rfl (take_ofW HT_.out HW_.out (by kernel_rfl)) (fun _ _ _ h => h) (Or.inl ⟨by rfl, ?_⟩) hHeld ?_ ?_
                rotate_left
                ·intro w' s0
                 go_simp
                 with_reducible rfl
                rotate_left; exact pz_
                refine pure_ (i := 4) (N := some 121) (v := ?_) (a' := ?_) bv6_45 rfl rfl (any_of HT_.out (by kernel_rfl)) (fun _ _ _ h => h) (Or.inl ⟨by rfl, ?_⟩) ?_ ?_
                rotate_left; exact pw_; rotate_left; exact pz_
                refine pure_ (i := 5) (N := some 122) (v := ?_) (a' := ?_) bv6_46 rfl rfl (any_of HT_.out (by kernel_rfl)) (fun _ _ _ h => h) (Or.inl ⟨by rfl, ?_⟩) ?_ ?_
                rotate_left; exact pw_; rotate_left; exact pz_
                refine pure_ (i := 6) (N := some 123) (v := undef) (a' := ?_) #[true, true, true, true, true, true, true, false, false, false, false, false, false, false] rfl rfl (any_of HT_.out (by kernel_rfl)) (fun _ _ _ h => h) (Or.inr ⟨by rfl, rfl⟩) ?_ ?_
                rotate_left; exact pz_
                refine pure_ (i := 7) (N := some 124) (v := undef) (a' := ?_) #[true, true, true, true, true, true, true, true, false, false, false, false, false, false] rfl rfl (any_of HT_.out (by kernel_rfl)) (fun _ _ _ h => h) (Or.inr ⟨by rfl, rfl⟩) ?_ ?_
                rotate_left; exact pz_
                refine pure_ (i := 8) (N := some 125) (v := undef) (a' := ?_) bv6_47 rfl rfl (any_of HT_.out (by kernel_rfl)) (fun _ _ _ h => h) (Or.inr ⟨by rfl, rfl⟩) ?_ ?_
                rotate_left; exact pz_
                refine pure_ (i := 9) (N := some 126) (v := undef) (a' := ?_) bv6_48 rfl rfl (any_of HT_.out (by kernel_rfl)) (fun _ _ _ h => h) (Or.inr ⟨by rfl, rfl⟩) ?_ ?_
                rotate_left; exact pz_
                refine pure_ (i := 10) (N := some 127) (v := undef) (a' := ?_) bv6_49 rfl rfl (any_of HT_.out (by kernel_rfl)) (fun _ _ _ h => h) (Or.inr ⟨by rfl, rfl⟩) ?_ ?_
                rotate_left; exact pz_
                refine pure_ (i := 11) (N := some 128) (v := undef) (a' := ?_) bv6_50 rfl rfl (any_of HT_.out (by kernel_rfl)) (fun _ _ _ h => h) (Or.inr ⟨by rfl, rfl⟩) ?_ ?_
                rotate_left; exact pz_
                refine pure_ (i := 12) (N := some 129) (v := undef) (a' := ?_) bv6_51 rfl rfl (any_of HT_.out (by kernel_rfl)) (fun _ _ _ h => h) (Or.inr ⟨by rfl, rfl⟩) ?_ ?_
                rotate_left; exact pz_
                refine pure_ (i := 13) (N := some 130) (v := ?_) (a' := ?_) bv6_52 rfl rfl (any_of HT_.out (by kernel_rfl)) (fun _ _ _ h => h) (Or.inl ⟨by rfl, ?_⟩) ?_ ?_
                rotate_left; exact pw_; rotate_left; exact pz_
                refine done_ (done_of HT_.out (by kernel_rfl)) ?_
                try go_wp2
                go_ret
                exact ⟨by first | rfl | (simp [errW_none, errW_some] <;> rfl) | (simp [*, errW_none, errW_some] <;> rfl), by repeat (first | (with_reducible first | exact HB.out | apply below_alloc | apply pw_below_drewN | apply below_drew1 | refine below_set ?_ GE211.out) | exact HB.out)⟩
               ·rw [if_neg c79] at H
                have c79b0 : decide (80 < (rd x4_3 x10_4)) = false := decide_eq_false c79
                clear c79
                replace H := Option.bind_eq_some_iff.mp H
                obtain ⟨t238, A820, H⟩ := H
                replace H : ((spec_l06Places.f k4 l0_0 l0_1 t238).bind fun t241 => (if (t241.length : Int) > 80 then (some false) else (spec_WeaveOk.l3 k4 (l0_0.length : Int) x4_3 (wrap64 (x10_4 + 1)) l0_0 l0_1))) = some r := H
                have A82 := Aside0.mk A820
                clear A820
                replace H := Option.bind_eq_some_iff.mp H
                obtain ⟨t241, A830, H⟩ := H
                replace H : (if (t241.length : Int) > 80 then (some false) else (spec_WeaveOk.l3 k4 (l0_0.length : Int) x4_3 (wrap64 (x10_4 + 1)) l0_0 l0_1)) = some r := H
                have A83 := Aside0.mk A830
                clear A830
                by_cases c84 : (t241.length : Int) > 80
                ·rw [if_pos c84] at H
                 have c84b0 : decide (80 < (t241.length : Int)) = true := decide_eq_true c84
                 have c84b1 : decide (80 < t241.length) = true := decide_eq_true (by omega)
                 clear c84
                 obtain rfl := Option.some.inj H
                 try go_wp2
                 have n0_ := Aside0.mk (Kd.R_drew HO_4.out)
                 have n1_ := Aside0.mk (blk_drew BK211.out)
                 have n2_ := Aside0.mk (below_drew1 HB.out)
                 clear HO_4
                 clear BK211
                 clear HB
                 have HO_4 := n0_
                 have BK211 := n1_
                 have HB := n2_
                 clear n0_ n1_ n2_
                 obtain ⟨Ao86, co86, eo86⟩ := Kd.R_slice HO_4.out
                 (first | subst eo86 | (injection eo86 with f1_ f2_ f3_; have f4_ := f1_.symm; have f5_ := f3_.symm; clear f1_ f2_ f3_; subst f4_; subst f5_))
                 have p237 : 0 ≤ (x10_4 : Int) := of_decide_eq_true q2_
                 have q237 : x10_4 < (x4_3.length : Int) := of_decide_eq_true q2_
                 obtain ⟨ad237, e237, hx237_0⟩ := Kd.at_int (Kd.R_reads' HO_4.out).2.2 x10_4 p237 q237
                 cases e237
                 replace p237 := eq_true p237
                 replace q237 := eq_true q237
                 refine start_ (n := 14) (S := fun w' => w'.cell? ⟨gb211, 0, none⟩ = some (.slice A0_0 l0_0.length c0_0) ∧ w'.cell? ⟨gb211, 1, none⟩ = some (.slice A0_1 l0_1.length c0_1) ∧ w'.cell? (ad237.add (x10_4).toNat) = some (.int .i64 (rd x4_3 x10_4))) (ds := []) bv6_40 (by kernel_rfl) rfl rfl ⟨(blk_cell BK211.out 0).trans rfl, (blk_cell BK211.out 1).trans rfl, hx237_0⟩ (fun hHeld => ?_); refine with_tabW spec_WeaveOk.tab25 spec_WeaveOk.bits25 (fun HT_ HW_ => ?_)
                 generalize wr.drew = w85 at HO_4 BK211 HB hx237_0 hHeld ⊢
                 refine pure_ (i := 0) (N := some 117) (v := ?_) (a' := ?_) bv6_41 rfl rfl (any_of HT_.out (by kernel_rfl)) (fun _ _ _ h => h) (Or.inl ⟨by rfl, ?_⟩) ?_ ?_
                 rotate_left; exact pw_; rotate_left; exact pz_
                 refine pure_ (i := 1) (N := some 118) (v := ?_) (a' := ?_) bv6_42 rfl rfl (any_of HT_.out (by kernel_rfl)) (fun _ _ _ h => h) (Or.inl ⟨by rfl, ?_⟩) ?_ ?_
                 rotate_left; exact pw_; rotate_left; exact pz_
                 refine pure_ (i := 2) (N := some 119) (v := ?_) (a' := ?_) bv6_43 rfl rfl (any_of HT_.out (by kernel_rfl)) (fun _ _ _ h => h) (Or.inl ⟨by rfl, ?_⟩) ?_ ?_
                 rotate_left; exact pw_; rotate_left; exact pz_
                 refine take_ (i := 3) (N := some 120) (v := ?_) (a' := ?_) bv6_44 rfl rfl (take_ofW HT_.out HW_.out (by kernel_rfl)) (fun _ _ _ h => h) (Or.inl ⟨by rfl, ?_⟩) hHeld ?_ ?_
                 rotate_left; exact pw3_; rotate_left; exact pz_
                 refine pure_ (i := 4) (N := some 121) (v := ?_) (a' := ?_) bv6_45 rfl rfl (any_of HT_.out (by kernel_rfl)) (fun _ _ _ h => h) (Or.inl ⟨by rfl, ?_⟩) ?_ ?_
                 rotate_left; exact pw_; rotate_left; exact pz_
                 refine pure_ (i := 5) (N := some 122) (v := ?_) (a' := ?_) bv6_46 rfl rfl (any_of HT_.out (by kernel_rfl)) (fun _ _ _ h => h) (Or.inl ⟨by rfl, ?_⟩) ?_ ?_
                 rotate_left; exact pw_; rotate_left; exact pz_
                 refine pure_ (i := 8) (N := some 125) (v := ?_) (a' := ?_) #[true, true, true, true, true, true, false, false, true, false, false, false, false, false] rfl rfl (any_of HT_.out (by kernel_rfl)) (fun _ _ _ h => h) (Or.inl ⟨by rfl, ?_⟩) ?_ ?_
                 rotate_left; exact pw_; rotate_left; exact pz_
                 refine take_ (i := 6) (N := some 123) (v := ?_) (a' := ?_) #[true, true, true, true, true, true, true, false, true, false, false, false, false, false] rfl rfl (take_ofW HT_.out HW_.out (by kernel_rfl)) (fun _ _ _ h => h) (Or.inl ⟨by rfl, ?_⟩) hHeld ?_ ?_
                 rotate_left; exact pw3_; rotate_left; exact pz_
                 refine take_ (i := 7) (N := some 124) (v := ?_) (a' := ?_) bv6_47 rfl rfl (take_ofW HT_.out HW_.out (by kernel_rfl)) (fun _ _ _ h => h) (Or.inl ⟨by rfl, ?_⟩) hHeld ?_ ?_
                 rotate_left; exact pw3_; rotate_left; exact pz_
                 refine one_ (i := 9) (N := some 126) bv6_48 rfl rfl (one_of HT_.out (by kernel_rfl)) (by decide) (fun K hK => ?_)
                 refine goes_ Try.func58 (by kernel_rfl) rfl #[.agg #[.slice A0_0 l0_0.length c0_0, .slice A0_1 l0_1.length c0_1], .int .i64 x10_4] (by rfl) rfl rfl q0_ ?_
                 with_reducible refine (spec_l06Closure.calls k4 _ _ l0_0 _ _ l0_1 x10_4 t238 _ ?side1 ?side2 ?side3 ?side4 A82.out).mono ?_
                 (case side1 => exact q4_)
                 (case side2 => exact HC0_0.out)
                 (case side3 => exact q7_)
                 (case side4 => exact HC0_1.out)
                 rintro e w87 ⟨v239, rfl, ho0, hb⟩
                 have HS2_ := (hb.cell (World.block_lt_of_cell? _ _ (hHeld.2.2))).trans (hHeld.2.2)
                 refine ⟨_, rfl, ?_⟩
                 have n0_ := Aside0.mk (Kd.R_below q35_ hb)
                 have n1_ := Aside0.mk (Kd.R_lower ho0 (below_size q9_))
                 have n2_ := Aside0.mk (blk_below (g := gb211) (o := .cells #[.slice A0_0 l0_0.length c0_0, .slice A0_1 l0_1.length c0_1] 30 (0, 0)) q22_ hb)
                 have n3_ := Aside0.mk (below_step q9_ hb)
                 clear HO_4
                 clear BK211
                 clear HB
                 have HO_4 := n0_
                 have HO240 := n1_
                 have BK211 := n2_
                 have HB := n3_
                 clear n0_ n1_ n2_ n3_
                 (try clear hb)
                 (try clear hb2)
                 (try clear hk)
                 (try clear hi)
                 (try clear ho0)
                 obtain ⟨Ao88, co88, eo88⟩ := Kd.R_slice HO240.out
                 (first | subst eo88 | (injection eo88 with f1_ f2_ f3_; have f4_ := f1_.symm; have f5_ := f3_.symm; clear f1_ f2_ f3_; subst f4_; subst f5_))
                 refine hK.out _ _ ⟨(blk_cell BK211.out 0).trans rfl, (blk_cell BK211.out 1).trans rfl, HS2_⟩ (fun hHeld => ?_)
                 clear hK K
                 refine norm_ (a' := ?_) ?_ ?_
                 rotate_left
                 ·show Act.put _ (some 126) _ = _
                  simp only [Act.put, List.setIfInBounds_toArray, List.set_cons_zero, List.set_cons_succ, i64_w, i32_w]
                  rfl
                 refine one_ (i := 10) (N := some 127) bv6_49 rfl rfl (one_of HT_.out (by kernel_rfl)) (by decide) (fun K hK => ?_)
                 refine goes_ Try.func57 (by kernel_rfl) rfl #[.agg #[.slice A0_0 l0_0.length c0_0, .slice A0_1 l0_1.length c0_1], .slice Ao88 t238.length co88] (by rfl) rfl rfl q0_ ?_
                 with_reducible refine (spec_l06Places.calls k4 _ _ l0_0 _ _ l0_1 _ _ t238 t241 _ ?side1 ?side2 ?side3 ?side4 ?side5 ?side6 A83.out).mono ?_
                 (case side1 => exact q4_)
                 (case side2 => exact HC0_0.out)
                 (case side3 => exact q7_)
                 (case side4 => exact HC0_1.out)
                 (case side5 => exact (by repeat (first | exact (Kd.R_reads' HO240.out).2.2 | (with_reducible refine Kd.C_alloc ?_ _) | (with_reducible refine Kd.C_drewN ?_ _) | (with_reducible refine Kd.C_drew ?_))))
                 (case side6 => exact (Kd.R_reads' HO240.out).2.1)
                 rintro e w89 ⟨v242, rfl, ho0, hb⟩
                 have HS2_ := (hb.cell (World.block_lt_of_cell? _ _ (hHeld.2.2))).trans (hHeld.2.2)
                 refine ⟨_, rfl, ?_⟩
                 have n0_ := Aside0.mk (Kd.R_elder' q35_ (Kd.R_base ho0) hb)
                 have n1_ := Aside0.mk (Kd.R_below (by (with_reducible repeat (first | apply Kd.R_alloc | apply Kd.R_drewN | apply Kd.R_drew)); exact HO240.out) hb)
                 have n2_ := Aside0.mk (Kd.R_lower (Kd.R_new' ho0 (Kd.R_lt q35_)) (below_size q9_))
                 have n3_ := Aside0.mk (blk_below (g := gb211) (o := .cells #[.slice A0_0 l0_0.length c0_0, .slice A0_1 l0_1.length c0_1] 30 (0, 0)) q22_ hb)
                 have n4_ := Aside0.mk (below_step q9_ hb)
                 clear HO_4
                 clear HO240
                 clear BK211
                 clear HB
                 have HO_4 := n0_
                 have HO240 := n1_
                 have HO243 := n2_
                 have BK211 := n3_
                 have HB := n4_
                 clear n0_ n1_ n2_ n3_ n4_
                 (try clear hb)
                 (try clear hb2)
                 (try clear hk)
                 (try clear hi)
                 (try clear ho0)
                 obtain ⟨Ao90, co90, eo90⟩ := Kd.R_slice HO243.out
                 (first | subst eo90 | (injection eo90 with f1_ f2_ f3_; have f4_ := f1_.symm; have f5_ := f3_.symm; clear f1_ f2_ f3_; subst f4_; subst f5_))
                 refine hK.out _ _ ⟨(blk_cell BK211.out 0).trans rfl, (blk_cell BK211.out 1).trans rfl, HS2_⟩ (fun hHeld => ?_)
                 clear hK K
                 refine norm_ (a' := ?_) ?_ ?_
                 rotate_left
                 ·show Act.put _ (some 127) _ = _
                  simp only [Act.put, List.setIfInBounds_toArray, List.set_cons_zero, List.set_cons_succ, i64_w, i32_w]
                  rfl
                 refine pure_ (i := 11) (N := some 128) (v := ?_) (a' := ?_) bv6_50 rfl rfl (any_of HT_.out (by kernel_rfl)) (fun _ _ _ h => h) (Or.inl ⟨by rfl, ?_⟩) ?_ ?_
                 rotate_left; exact pw_; rotate_left; exact pz_
                 refine pure_ (i := 12) (N := some 129) (v := ?_) (a' := ?_) bv6_51 rfl rfl (any_of HT_.out (by kernel_rfl)) (fun _ _ _ h => h) (Or.inl ⟨by rfl, ?_⟩) ?_ ?_
                 rotate_left; exact pw_; rotate_left; exact pz_
                 refine pure_ (i := 13) (N := some 130) (v := ?_) (a' := ?_) bv6_52 rfl rfl (any_of HT_.out (by kernel_rfl)) (fun _ _ _ h => h) (Or.inl ⟨by rfl, ?_⟩) ?_ ?_
                 rotate_left; exact pw_; rotate_left; exact pz_
                 refine done_ (done_of HT_.out (by kernel_rfl)) ?_
                 try go_wp2
                 go_ret
                 exact ⟨by first | rfl | (simp [errW_none, errW_some] <;> rfl) | (simp [*, errW_none, errW_some] <;> rfl), by repeat (first | (with_reducible first | exact HB.out | apply below_alloc | apply pw_below_drewN | apply below_drew1 | refine below_set ?_ GE211.out) | exact HB.out)⟩
                ·rw [if_neg c84] at H
                 have c84b0 : decide (80 < (t241.length : Int)) = false := decide_eq_false c84
                 have c84b1 : decide (80 < t241.length) = false := decide_eq_false (by omega)
                 clear c84
                 have H' := Aside0.mk H
                 clear H
                 try go_wp2
                 have n0_ := Aside0.mk (Kd.R_drew HO_4.out)
                 have n1_ := Aside0.mk (blk_drew BK211.out)
                 have n2_ := Aside0.mk (below_drew1 HB.out)
                 clear HO_4
                 clear BK211
                 clear HB
                 have HO_4 := n0_
                 have BK211 := n1_
                 have HB := n2_
                 clear n0_ n1_ n2_
                 obtain ⟨Ao92, co92, eo92⟩ := Kd.R_slice HO_4.out
                 (first | subst eo92 | (injection eo92 with f1_ f2_ f3_; have f4_ := f1_.symm; have f5_ := f3_.symm; clear f1_ f2_ f3_; subst f4_; subst f5_))
                 have p237 : 0 ≤ (x10_4 : Int) := of_decide_eq_true q2_
                 have q237 : x10_4 < (x4_3.length : Int) := of_decide_eq_true q2_
                 obtain ⟨ad237, e237, hx237_0⟩ := Kd.at_int (Kd.R_reads' HO_4.out).2.2 x10_4 p237 q237
                 cases e237
                 replace p237 := eq_true p237
                 replace q237 := eq_true q237
                 refine start_ (n := 14) (S := fun w' => w'.cell? ⟨gb211, 0, none⟩ = some (.slice A0_0 l0_0.length c0_0) ∧ w'.cell? ⟨gb211, 1, none⟩ = some (.slice A0_1 l0_1.length c0_1) ∧ w'.cell? (ad237.add (x10_4).toNat) = some (.int .i64 (rd x4_3 x10_4))) (ds := []) bv6_40 (by kernel_rfl) rfl rfl ⟨(blk_cell BK211.out 0).trans rfl, (blk_cell BK211.out 1).trans rfl, hx237_0⟩ (fun hHeld => ?_); refine with_tabW spec_WeaveOk.tab25 spec_WeaveOk.bits25 (fun HT_ HW_ => ?_)
                 generalize wr.drew = w91 at HO_4 BK211 HB hx237_0 hHeld ⊢
                 refine pure_ (i := 0) (N := some 117) (v := ?_) (a' := ?_) bv6_41 rfl rfl (any_of HT_.out (by kernel_rfl)) (fun _ _ _ h => h) (Or.inl ⟨by rfl, ?_⟩) ?_ ?_
                 rotate_left; exact pw_; rotate_left; exact pz_
                 refine pure_ (i := 1) (N := some 118) (v := ?_) (a' := ?_) bv6_42 rfl rfl (any_of HT_.out (by kernel_rfl)) (fun _ _ _ h => h) (Or.inl ⟨by rfl, ?_⟩) ?_ ?_
                 rotate_left; exact pw_; rotate_left; exact pz_
                 refine pure_ (i := 2) (N := some 119) (v := ?_) (a' := ?_) bv6_43 rfl rfl (any_of HT_.out (by kernel_rfl)) (fun _ _ _ h => h) (Or.inl ⟨by rfl, ?_⟩) ?_ ?_
                 rotate_left; exact pw_; rotate_left; exact pz_
                 refine take_ (i := 3) (N := some 120) (v := ?_) (a' := ?_) bv6_44 rfl rfl (take_ofW HT_.out HW_.out (by kernel_rfl)) (fun _ _ _ h => h) (Or.inl ⟨by rfl, ?_⟩) hHeld ?_ ?_
                 rotate_left; exact pw3_; rotate_left; exact pz_
                 refine pure_ (i := 4) (N := some 121) (v := ?_) (a' := ?_) bv6_45 rfl rfl (any_of HT_.out (by kernel_rfl)) (fun _ _ _ h => h) (Or.inl ⟨by rfl, ?_⟩) ?_ ?_
                 rotate_left; exact pw_; rotate_left; exact pz_
                 refine pure_ (i := 5) (N := some 122) (v := ?_) (a' := ?_) bv6_46 rfl rfl (any_of HT_.out (by kernel_rfl)) (fun _ _ _ h => h) (Or.inl ⟨by rfl, ?_⟩) ?_ ?_
                 rotate_left; exact pw_; rotate_left; exact pz_
                 refine pure_ (i := 8) (N := some 125) (v := ?_) (a' := ?_) #[true, true, true, true, true, true, false, false, true, false, false, false, false, false] rfl rfl (any_of HT_.out (by kernel_rfl)) (fun _ _ _ h => h) (Or.inl ⟨by rfl, ?_⟩) ?_ ?_
                 rotate_left; exact pw_; rotate_left; exact pz_
                 refine take_ (i := 6) (N := some 123) (v := ?_) (a' := ?_) #[true, true, true, true, true, true, true, false, true, false, false, false, false, false] rfl rfl (take_ofW HT_.out HW_.out (by kernel_rfl)) (fun _ _ _ h => h) (Or.inl ⟨by rfl, ?_⟩) hHeld ?_ ?_
                 rotate_left; exact pw3_; rotate_left; exact pz_
                 refine take_ (i := 7) (N := some 124) (v := ?_) (a' := ?_) bv6_47 rfl rfl (take_ofW HT_.out HW_.out (by kernel_rfl)) (fun _ _ _ h => h) (Or.inl ⟨by rfl, ?_⟩) hHeld ?_ ?_
                 rotate_left; exact pw3_; rotate_left; exact pz_
                 refine one_ (i := 9) (N := some 126) bv6_48 rfl rfl (one_of HT_.out (by kernel_rfl)) (by decide) (fun K hK => ?_)
                 refine goes_ Try.func58 (by kernel_rfl) rfl #[.agg #[.slice A0_0 l0_0.length c0_0, .slice A0_1 l0_1.length c0_1], .int .i64 x10_4] (by rfl) rfl rfl q0_ ?_
                 with_reducible refine (spec_l06Closure.calls k4 _ _ l0_0 _ _ l0_1 x10_4 t238 _ ?side1 ?side2 ?side3 ?side4 A82.out).mono ?_
                 (case side1 => exact q4_)
                 (case side2 => exact HC0_0.out)
                 (case side3 => exact q7_)
                 (case side4 => exact HC0_1.out)
                 rintro e w93 ⟨v239, rfl, ho0, hb⟩
                 have HS2_ := (hb.cell (World.block_lt_of_cell? _ _ (hHeld.2.2))).trans (hHeld.2.2)
                 refine ⟨_, rfl, ?_⟩
                 have n0_ := Aside0.mk (Kd.R_below q35_ hb)
                 have n1_ := Aside0.mk (Kd.R_lower ho0 (below_size q9_))
                 have n2_ := Aside0.mk (blk_below (g := gb211) (o := .cells #[.slice A0_0 l0_0.length c0_0, .slice A0_1 l0_1.length c0_1] 30 (0, 0)) q22_ hb)
                 have n3_ := Aside0.mk (below_step q9_ hb)
                 clear HO_4
                 clear BK211
                 clear HB
                 have HO_4 := n0_
                 have HO240 := n1_
                 have BK211 := n2_
                 have HB := n3_
                 clear n0_ n1_ n2_ n3_
                 (try clear hb)
                 (try clear hb2)
                 (try clear hk)
                 (try clear hi)
                 (try clear ho0)
                 obtain ⟨Ao94, co94, eo94⟩ := Kd.R_slice HO240.out
                 (first | subst eo94 | (injection eo94 with f1_ f2_ f3_; have f4_ := f1_.symm; have f5_ := f3_.symm; clear f1_ f2_ f3_; subst f4_; subst f5_))
                 refine hK.out _ _ ⟨(blk_cell BK211.out 0).trans rfl, (blk_cell BK211.out 1).trans rfl, HS2_⟩ (fun hHeld => ?_)
                 clear hK K
                 refine norm_ (a' := ?_) ?_ ?_
                 rotate_left
                 ·show Act.put _ (some 126) _ = _
                  simp only [Act.put, List.setIfInBounds_toArray, List.set_cons_zero, List.set_cons_succ, i64_w, i32_w]
                  rfl
                 refine one_ (i := 10) (N := some 127) bv6_49 rfl rfl (one_of HT_.out (by kernel_rfl)) (by decide) (fun K hK => ?_)
                 refine goes_ Try.func57 (by kernel_rfl) rfl #[.agg #[.slice A0_0 l0_0.length c0_0, .slice A0_1 l0_1.length c0_1], .slice Ao94 t238.length co94] (by rfl) rfl rfl q0_ ?_
                 with_reducible refine (spec_l06Places.calls k4 _ _ l0_0 _ _ l0_1 _ _ t238 t241 _ ?side1 ?side2 ?side3 ?side4 ?side5 ?side6 A83.out).mono ?_
                 (case side1 => exact q4_)
                 (case side2 => exact HC0_0.out)
                 (case side3 => exact q7_)
                 (case side4 => exact HC0_1.out)
                 (case side5 => exact (by repeat (first | exact (Kd.R_reads' HO240.out).2.2 | (with_reducible refine Kd.C_alloc ?_ _) | (with_reducible refine Kd.C_drewN ?_ _) | (with_reducible refine Kd.C_drew ?_))))
                 (case side6 => exact (Kd.R_reads' HO240.out).2.1)
                 rintro e w95 ⟨v242, rfl, ho0, hb⟩
                 have HS2_ := (hb.cell (World.block_lt_of_cell? _ _ (hHeld.2.2))).trans (hHeld.2.2)
                 refine ⟨_, rfl, ?_⟩
                 have n0_ := Aside0.mk (Kd.R_elder' q35_ (Kd.R_base ho0) hb)
                 have n1_ := Aside0.mk (Kd.R_below (by (with_reducible repeat (first | apply Kd.R_alloc | apply Kd.R_drewN | apply Kd.R_drew)); exact HO240.out) hb)
                 have n2_ := Aside0.mk (Kd.R_lower (Kd.R_new' ho0 (Kd.R_lt q35_)) (below_size q9_))
                 have n3_ := Aside0.mk (blk_below (g := gb211) (o := .cells #[.slice A0_0 l0_0.length c0_0, .slice A0_1 l0_1.length c0_1] 30 (0, 0)) q22_ hb)
                 have n4_ := Aside0.mk (below_step q9_ hb)
                 clear HO_4
                 clear HO240
                 clear BK211
                 clear HB
                 have HO_4 := n0_
                 have HO240 := n1_
                 have HO243 := n2_
                 have BK211 := n3_
                 have HB := n4_
                 clear n0_ n1_ n2_ n3_ n4_
                 (try clear hb)
                 (try clear hb2)
                 (try clear hk)
                 (try clear hi)
                 (try clear ho0)
                 obtain ⟨Ao96, co96, eo96⟩ := Kd.R_slice HO243.out
                 (first | subst eo96 | (injection eo96 with f1_ f2_ f3_; have f4_ := f1_.symm; have f5_ := f3_.symm; clear f1_ f2_ f3_; subst f4_; subst f5_))
                 refine hK.out _ _ ⟨(blk_cell BK211.out 0).trans rfl, (blk_cell BK211.out 1).trans rfl, HS2_⟩ (fun hHeld => ?_)
                 clear hK K
                 refine norm_ (a' := ?_) ?_ ?_
                 rotate_left
                 ·show Act.put _ (some 127) _ = _
                  simp only [Act.put, List.setIfInBounds_toArray, List.set_cons_zero, List.set_cons_succ, i64_w, i32_w]
                  rfl
                 refine pure_ (i := 11) (N := some 128) (v := ?_) (a' := ?_) bv6_50 rfl rfl (any_of HT_.out (by kernel_rfl)) (fun _ _ _ h => h) (Or.inl ⟨by rfl, ?_⟩) ?_ ?_
                 rotate_left; exact pw_; rotate_left; exact pz_
                 refine pure_ (i := 12) (N := some 129) (v := ?_) (a' := ?_) bv6_51 rfl rfl (any_of HT_.out (by kernel_rfl)) (fun _ _ _ h => h) (Or.inl ⟨by rfl, ?_⟩) ?_ ?_
                 rotate_left; exact pw_; rotate_left; exact pz_
                 refine pure_ (i := 13) (N := some 130) (v := ?_) (a' := ?_) bv6_52 rfl rfl (any_of HT_.out (by kernel_rfl)) (fun _ _ _ h => h) (Or.inl ⟨by rfl, ?_⟩) ?_ ?_
                 rotate_left; exact pw_; rotate_left; exact pz_
                 refine done_ (done_of HT_.out (by kernel_rfl)) ?_
                 try go_wp2
                 go_roundg k4
                 case measure => have := HJ1.out; have := HK2.out; have := HK3.out; have := HK4.out; omega
                 case rel => exact ⟨(wrap64 (x10_4 + 1)), q5_, H', ⟨by have := HJ1.out; have := HK2.out; have := HK3.out; have := HK4.out; omega⟩, ⟨by (with_reducible repeat (first | apply Kd.R_alloc | apply Kd.R_drewN | apply Kd.R_drew)); exact Kd.R_mono HO_4.out (fun _ hk => trivial)⟩, ⟨by (with_reducible repeat (first | refine blk_drewN ?_ _ | refine blk_drew ?_ | refine blk_alloc ?_ _)); exact BK211.out⟩, ⟨by repeat (first | (with_reducible first | exact HB.out | apply below_alloc | apply pw_below_drewN | apply below_drew1 | refine below_set ?_ GE211.out) | exact HB.out)⟩⟩
              ·rw [if_neg c76] at H
               have c76b0 : decide (x10_4 < (l0_0.length : Int)) = false := decide_eq_false c76
               clear c76
               obtain rfl := Option.some.inj H
               go_wp2
               go_ret
               exact ⟨by first | rfl | (simp [errW_none, errW_some] <;> rfl) | (simp [*, errW_none, errW_some] <;> rfl), by repeat (first | (with_reducible first | exact HB.out | apply below_alloc | apply pw_below_drewN | apply below_drew1 | refine below_set ?_ GE211.out) | exact HB.out)⟩
end Go.Proofs.Ytcgelllmdcnmfaa.PFnExactLivesIn
-- (flat)
-- (thin)
