-- Made by a program (the kit's print with additions of this session: wip/tools/patch_print.py, ext.py).
-- (turned)
import Derived.Test.YtmodgiingohphaaPFnTopx14
import Derived.Test.YtmodgiingohphaaPFnTopx15
namespace Go.Proofs.Ytmodgiingohphaa.PFnTop
open Go.RowKit Go.Proofs.YtmodgiingohphaaW.PrintWords Go.Proofs.YtmodgiingohphaaW.PrintLast Go.Proofs.YtmodgiingohphaaW.PrintMore
attribute [local go_sem] max2_int min2_int max_two min_two max_three min_three max_four min_four   -- for this text's walks alone
set_option linter.unusedVariables false
set_option linter.unusedSimpArgs false

/-! ### spec_l06Add: function 69 -/
mutual
def spec_l06Add.l0 : Nat → List Int → List ByteArray → Int → List Int → List Int → List (List ByteArray) → List Bool → Int → Int → List (List Int) → List (S123) → Option ((List (List Int)) × (List (S123)) × Int × Int)
  | 0, _, _, _, _, _, _, _, _, _, _, _ => none
  | k + 1, x1, x2, x9, x10, x11, x12, x13, x14, x15, x334000, x334001 => if x15 < (x2.length : Int) then (if 0 ≤ x15 then (if x15 < (x11.length : Int) then (if (rd x11 x15) ≥ 0 then (if 0 ≤ (rd x11 x15) then (if (rd x11 x15) < (x10.length : Int) then (if 0 ≤ (wrap64 ((wrap64 ((rd x10 (rd x11 x15)) + 1)) - 1)) then (if (wrap64 ((wrap64 ((rd x10 (rd x11 x15)) + 1)) - 1)) < (x13.length : Int) then (spec_l06Add.l0 k x1 x2 x9 x10 x11 x12 (x13.set ((wrap64 ((wrap64 ((rd x10 (rd x11 x15)) + 1)) - 1)) : Int).toNat true) (wrap64 ((rd x10 (rd x11 x15)) + 1)) (wrap64 (x15 + 1)) x334000 x334001) else (none)) else (none)) else (none)) else (none)) else (if 0 ≤ x14 then (if x14 < (x12.length : Int) then (if (rd_L7 x12 x14).length < 8796093022208 then (spec_l06Add.l0 k x1 x2 x9 x10 x11 (x12.set (x14 : Int).toNat ((rd_L7 x12 x14) ++ [rdOf ByteArray.empty x2 x15])) x13 x14 (wrap64 (x15 + 1)) x334000 x334001) else (none)) else (none)) else (none))) else (none)) else (none)) else (spec_l06Add.l1 k x1 x9 x12 x13 0 x334000 x334001 ([] : List (List Int)))
def spec_l06Add.l1 : Nat → List Int → Int → List (List ByteArray) → List Bool → Int → List (List Int) → List (S123) → List (List Int) → Option ((List (List Int)) × (List (S123)) × Int × Int)
  | 0, _, _, _, _, _, _, _, _ => none
  | k + 1, x1, x9, x12, x13, x17, x334000, x334001, x363000 => if x17 < x9 then ((some (([] : List Int) : List Int)).bind fun y363 => (if 0 ≤ x17 then (if x17 < (x334000.length : Int) then (if y363.length + (rd_L2 x334000 x17).length < 17592186044416 then (if x363000.length < 5864062014805 then (spec_l06Add.l1 k x1 x9 x12 x13 (wrap64 (x17 + 1)) x334000 x334001 (x363000 ++ [(y363 ++ (rd_L2 x334000 x17))])) else (none)) else (none)) else (none)) else (none))) else ((some (([] : List Int) : List Int)).bind fun y373 => (if y373.length + x1.length < 17592186044416 then (if x363000.length < 5864062014805 then ((spec_l05Set.f k x334000 x1).bind fun t382 => (spec_l06Add.l2 k x9 x12 x13 t382 0 0 x334000 x334001 (x363000 ++ [(y373 ++ x1)]) ([] : List (S123)))) else (none)) else (none)))
def spec_l06Add.l2 : Nat → Int → List (List ByteArray) → List Bool → List Bool → Int → Int → List (List Int) → List (S123) → List (List Int) → List (S123) → Option ((List (List Int)) × (List (S123)) × Int × Int)
  | 0, _, _, _, _, _, _, _, _, _, _ => none
  | k + 1, x9, x12, x13, x18, x19, x20, x334000, x334001, x363000, x363001 => if x20 ≤ (x334001.length : Int) then (if x20 > 0 then (if 0 ≤ (wrap64 (x20 - 1)) then (if (wrap64 (x20 - 1)) < (x334001.length : Int) then ((some (([] : List Int) : List Int)).bind fun y387 => (if y387.length + ((rd_T123 x334001 (wrap64 (x20 - 1))).f3).length < 17592186044416 then ((some (y387 ++ ((rd_T123 x334001 (wrap64 (x20 - 1))).f3) : List Int)).bind fun y390 => (if (wrap64 (x20 - 1)) < (x13.length : Int) then (if (rdOf false x13 (wrap64 (x20 - 1)) = true) then (if x363001.length < 2513169434916 then (spec_l06Add.j3 k x9 x12 x13 x18 x19 x20 x334000 x334001 x363000 (x363001 ++ [(⟨(rd_T123 x334001 (wrap64 (x20 - 1))).f0, (rd_T123 x334001 (wrap64 (x20 - 1))).f1, (rd_T123 x334001 (wrap64 (x20 - 1))).f2, y390⟩ : S123)])) else (none)) else ((spec_l06Live.f k ((rd_T123 x334001 (wrap64 (x20 - 1))).f0) ((rd_T123 x334001 (wrap64 (x20 - 1))).f1) ((rd_T123 x334001 (wrap64 (x20 - 1))).f2) y390 x18).bind fun t397 => (if t397 = true then (if y390.length < 17592186044416 then (if x363001.length < 2513169434916 then (spec_l06Add.j3 k x9 x12 x13 x18 x19 x20 x334000 x334001 x363000 (x363001 ++ [(⟨(rd_T123 x334001 (wrap64 (x20 - 1))).f0, (rd_T123 x334001 (wrap64 (x20 - 1))).f1, (rd_T123 x334001 (wrap64 (x20 - 1))).f2, (y390 ++ [x9])⟩ : S123)])) else (none)) else (none)) else (if x363001.length < 2513169434916 then (spec_l06Add.j3 k x9 x12 x13 x18 x19 x20 x334000 x334001 x363000 (x363001 ++ [(⟨(rd_T123 x334001 (wrap64 (x20 - 1))).f0, (rd_T123 x334001 (wrap64 (x20 - 1))).f1, (rd_T123 x334001 (wrap64 (x20 - 1))).f2, y390⟩ : S123)])) else (none))))) else (none))) else (none))) else (none)) else (none)) else (spec_l06Add.j3 k x9 x12 x13 x18 x19 x20 x334000 x334001 x363000 x363001)) else (if (x363001.length : Int) > 300 then (some (([] : List (List Int)), ([] : List (S123)), 0, 4)) else (some (x363000, x363001, x9, 0)))
def spec_l06Add.j3 : Nat → Int → List (List ByteArray) → List Bool → List Bool → Int → Int → List (List Int) → List (S123) → List (List Int) → List (S123) → Option ((List (List Int)) × (List (S123)) × Int × Int)
  | 0, _, _, _, _, _, _, _, _, _, _ => none
  | k + 1, x9, x12, x13, x18, x19, x20, x334000, x334001, x363000, x363001 => spec_l06Add.l3 k x9 x12 x13 x18 x19 x20 0 x334000 x334001 x363000 x363001
def spec_l06Add.l3 : Nat → Int → List (List ByteArray) → List Bool → List Bool → Int → Int → Int → List (List Int) → List (S123) → List (List Int) → List (S123) → Option ((List (List Int)) × (List (S123)) × Int × Int)
  | 0, _, _, _, _, _, _, _, _, _, _, _ => none
  | k + 1, x9, x12, x13, x18, x19, x20, x22, x334000, x334001, x363000, x363001 => if 0 ≤ x20 then (if x20 < (x12.length : Int) then (if x22 < ((rd_L7 x12 x20).length : Int) then (if 0 ≤ x22 then (if x363001.length < 2513169434916 then (spec_l06Add.l3 k x9 x12 x13 x18 (wrap64 (x19 + 1)) x20 (wrap64 (x22 + 1)) x334000 x334001 x363000 (x363001 ++ [(⟨rdOf ByteArray.empty (rd_L7 x12 x20) x22, x9, x19, ([] : List Int)⟩ : S123)])) else (none)) else (none)) else (spec_l06Add.l2 k x9 x12 x13 x18 x19 (wrap64 (x20 + 1)) x334000 x334001 x363000 x363001)) else (none)) else (none)
end
def spec_l06Add.f (k : Nat) (l0_0 : List (List Int)) (l0_1 : List (S123)) (l1 : List Int) (l2 : List ByteArray) : Option ((List (List Int)) × (List (S123)) × Int × Int) := (spec_l06Parents.f k l0_0 l0_1 l1).bind fun t335 => (if t335 = true then ((spec_LinesOk.f k l2).bind fun t336 => (if t336 = true then (if (l0_0.length : Int) = 40 then (some (([] : List (List Int)), ([] : List (S123)), 0, 4)) else ((spec_l06Seen.f k l0_0 l0_1 l1).bind fun t337 => ((spec_l06Lines.f k l0_0 l0_1 t337).bind fun t340 => ((spec_Align.f k t340 l2).bind fun t343 => (if 0 ≤ (wrap64 ((l0_1.length : Int) + 1)) then (if (wrap64 ((l0_1.length : Int) + 1) : Int).toNat ≤ 11728124029610 then (if 0 ≤ (l0_1.length : Int) then (if ((l0_1.length : Int) : Int).toNat ≤ 281474976710656 then (spec_l06Add.l0 k l1 l2 (l0_0.length : Int) t337 t343 (List.replicate (wrap64 ((l0_1.length : Int) + 1) : Int).toNat []) (List.replicate ((l0_1.length : Int) : Int).toNat false) 0 0 l0_0 l0_1) else (none)) else (none)) else (none)) else (none)))))) else (some (([] : List (List Int)), ([] : List (S123)), 0, 3)))) else (some (([] : List (List Int)), ([] : List (S123)), 0, 2)))
theorem spec_l06Add.mono_l : ∀ k, (∀ y0 y1 y2 y3 y4 y5 y6 y7 y8 y9 y10, LeO (spec_l06Add.l0 k y0 y1 y2 y3 y4 y5 y6 y7 y8 y9 y10) (spec_l06Add.l0 (k + 1) y0 y1 y2 y3 y4 y5 y6 y7 y8 y9 y10)) ∧ (∀ y0 y1 y2 y3 y4 y5 y6 y7, LeO (spec_l06Add.l1 k y0 y1 y2 y3 y4 y5 y6 y7) (spec_l06Add.l1 (k + 1) y0 y1 y2 y3 y4 y5 y6 y7)) ∧ (∀ y0 y1 y2 y3 y4 y5 y6 y7 y8 y9, LeO (spec_l06Add.l2 k y0 y1 y2 y3 y4 y5 y6 y7 y8 y9) (spec_l06Add.l2 (k + 1) y0 y1 y2 y3 y4 y5 y6 y7 y8 y9)) ∧ (∀ y0 y1 y2 y3 y4 y5 y6 y7 y8 y9, LeO (spec_l06Add.j3 k y0 y1 y2 y3 y4 y5 y6 y7 y8 y9) (spec_l06Add.j3 (k + 1) y0 y1 y2 y3 y4 y5 y6 y7 y8 y9)) ∧ (∀ y0 y1 y2 y3 y4 y5 y6 y7 y8 y9 y10, LeO (spec_l06Add.l3 k y0 y1 y2 y3 y4 y5 y6 y7 y8 y9 y10) (spec_l06Add.l3 (k + 1) y0 y1 y2 y3 y4 y5 y6 y7 y8 y9 y10))
  | 0 => by refine ⟨?_, ?_, ?_, ?_, ?_⟩ <;> intros <;> exact LeO.none _
  | k + 1 => by
    obtain ⟨ih0, ih1, ih2, ih3, ih4⟩ := spec_l06Add.mono_l k; refine ⟨?_, ?_, ?_, ?_, ?_⟩ <;> intros <;> (first | unfold spec_l06Add.l0 | unfold spec_l06Add.l1 | unfold spec_l06Add.l2 | unfold spec_l06Add.j3 | unfold spec_l06Add.l3) <;> repeat' with_reducible first | exact LeO.refl _ | exact LeO.none _ | refine LeO.ite ?_ ?_ | refine LeO.bind ?_ (fun _ => ?_) | apply ih0 | apply ih1 | apply ih2 | apply ih3 | apply ih4 | apply spec_Align.mono | apply spec_LinesOk.mono | apply spec_l05Set.mono | apply spec_l06Lines.mono | apply spec_l06Live.mono | apply spec_l06Parents.mono | apply spec_l06Seen.mono
theorem spec_l06Add.mono : ∀ a0 a1 a2 a3 k, LeO (spec_l06Add.f k a0 a1 a2 a3) (spec_l06Add.f (k + 1) a0 a1 a2 a3) := by
  intro a0 a1 a2 a3 k; obtain ⟨ih0, ih1, ih2, ih3, ih4⟩ := spec_l06Add.mono_l k; unfold spec_l06Add.f
  repeat' with_reducible first | exact LeO.refl _ | exact LeO.none _ | refine LeO.ite ?_ ?_ | refine LeO.bind ?_ (fun _ => ?_) | apply ih0 | apply ih1 | apply ih2 | apply ih3 | apply ih4 | apply spec_Align.mono | apply spec_LinesOk.mono | apply spec_l05Set.mono | apply spec_l06Lines.mono | apply spec_l06Live.mono | apply spec_l06Parents.mono | apply spec_l06Seen.mono
def spec_l06Add.T19 : Bool × List (List Nat × List Nat) := (true, [([], []), ([], []), ([], []), ([], []), ([2, 3], [2, 3]), ([4], [4]), ([], []), ([], []), ([6, 7], [6, 7]), ([8], [8]), ([9], [9]), ([5, 10], [5, 10]), ([0, 1, 0, 1, 2, 3, 4, 5, 6, 7, 8, 9, 10, 11], [0, 1]), ([12, 11, 11, 0, 1, 2, 3, 4, 5, 6, 7, 8, 9, 10, 11], [11, 12])])
def spec_l06Add.B19 : List Nat := [0, 0, 0, 0, 12, 28, 0, 0, 192, 448, 960, 2044, 4095, 8191]
theorem spec_l06Add.tab19 : rtab .any (opsOf Try.f69 19) = spec_l06Add.T19 := by kernel_rfl
theorem spec_l06Add.bits19 : waitsOk spec_l06Add.T19.2 spec_l06Add.B19 = true := by kernel_rfl
def spec_l06Add.T24 : Bool × List (List Nat × List Nat) := (true, [([], []), ([0], [0]), ([], []), ([], []), ([3], [3]), ([], []), ([4, 5], [4, 5]), ([6], [6]), ([2, 7], [2, 7]), ([8], [8]), ([1, 9, 8], [1, 9]), ([0, 1, 2, 3, 4, 5, 6, 7, 8, 9, 10], []), ([11, 10, 10, 0, 1, 2, 3, 4, 5, 6, 7, 8, 9, 10], [10, 11])])
def spec_l06Add.B24 : List Nat := [0, 1, 0, 0, 8, 0, 56, 120, 252, 508, 1023, 2047, 4095]
theorem spec_l06Add.tab24 : rtab .any (opsOf Try.f69 24) = spec_l06Add.T24 := by kernel_rfl
theorem spec_l06Add.bits24 : waitsOk spec_l06Add.T24.2 spec_l06Add.B24 = true := by kernel_rfl
def spec_l06Add.T25 : Bool × List (List Nat × List Nat) := (true, [([], []), ([0], [0]), ([], []), ([], []), ([2, 3], [2, 3]), ([4], [4]), ([1, 5, 4], [1, 5]), ([0, 1, 2, 3, 4, 5, 6], []), ([7, 6, 6, 0, 1, 2, 3, 4, 5, 6], [6, 7])])
def spec_l06Add.B25 : List Nat := [0, 1, 0, 0, 12, 28, 63, 127, 255]
theorem spec_l06Add.tab25 : rtab .any (opsOf Try.f69 25) = spec_l06Add.T25 := by kernel_rfl
theorem spec_l06Add.bits25 : waitsOk spec_l06Add.T25.2 spec_l06Add.B25 = true := by kernel_rfl
def spec_l06Add.T40 : Bool × List (List Nat × List Nat) := (true, [([], []), ([0], [0]), ([], []), ([], []), ([2, 3], [2, 3]), ([4], [4]), ([], []), ([5, 6], [5, 6]), ([7], [7]), ([], []), ([], []), ([8, 9, 10], [8, 9, 10]), ([11], [11]), ([1, 12], [1, 12]), ([0, 1, 2, 3, 4, 5, 6, 7, 8, 9, 10, 11, 12, 13], []), ([14, 13, 13, 0, 1, 2, 3, 4, 5, 6, 7, 8, 9, 10, 11, 12, 13], [13, 14])])
def spec_l06Add.B40 : List Nat := [0, 1, 0, 0, 12, 28, 0, 124, 252, 0, 0, 2044, 4092, 8191, 16383, 32767]
theorem spec_l06Add.tab40 : rtab .any (opsOf Try.f69 40) = spec_l06Add.T40 := by kernel_rfl
theorem spec_l06Add.bits40 : waitsOk spec_l06Add.T40.2 spec_l06Add.B40 = true := by kernel_rfl
/-- The two boxes of the call's own: the weave that came in, the answer. -/
structure Lw (w0 w : World) (g3 g6 : Nat) (u0 u1 : Value) : Prop where
 b : Below w0.heap.size w0 w
 h3 : w.heap[g3]? = some (.cells #[u0, u1] 32 (0, 0))
 h6 : w.heap[g6]? = some (.cells #[.slice none 0 0, .slice none 0 0] 32 (0, 0))
 n3 : w0.heap.size ≤ g3
 n6 : w0.heap.size ≤ g6
 ne : g3 ≠ g6
section
variable {w0 w W : World} {g3 g6 : Nat} {u0 u1 : Value} {S : Nat → Prop}
theorem Lw.below (F : Lw w0 w g3 g6 u0 u1) (hb : Below w.heap.size w W) : Lw w0 W g3 g6 u0 u1 := ⟨below_step F.b hb, blk_below F.h3 hb, blk_below F.h6 hb, F.n3, F.n6, F.ne⟩
theorem Lw.drewN (F : Lw w0 w g3 g6 u0 u1) (n : Nat) : Lw w0 (w.drewN n) g3 g6 u0 u1 := F.below (pw_below_drewN (Below.refl _ _) n)
theorem Lw.kept (F : Lw w0 w g3 g6 u0 u1) (hb : Below w0.heap.size w0 W) (hk : Kept w W S) (s3 : ¬ S g3) (s6 : ¬ S g6) : Lw w0 W g3 g6 u0 u1 := ⟨hb, blk_kept F.h3 hk s3, blk_kept F.h6 hk s6, F.n3, F.n6, F.ne⟩
theorem Lw.out (F : Lw w0 w g3 g6 u0 u1) (a b : Value) : ((w.setCell ⟨g6, 0, none⟩ a).setCell ⟨g6, 1, none⟩ b).heap[g6]? = some (.cells #[a, b] 32 (0, 0)) ∧ Below w0.heap.size w0 ((w.setCell ⟨g6, 0, none⟩ a).setCell ⟨g6, 1, none⟩ b) := ⟨blk_put (blk_put F.h6 0 _ rfl) 1 _ rfl, below_set (below_set F.b F.n6) F.n6⟩
end
theorem staysPut {wh w : World} {g n c : Nat} {vb : Value} {x12 : List (List ByteArray)} {x13 : List Bool} (hS : Kd.S (Kd.slice 9 Kd.string) 46 w wh.heap.size (fun _ => True) vb x12) (hR : Kd.R Kd.bool 4 w wh.heap.size (fun _ => True) (.slice (some ⟨g, 0, none⟩) n c) x13) (hb : Below wh.heap.size wh w) (i : Int) (h0 : 0 ≤ i) (h1 : i < (n : Int)) :
  w.cell? ⟨g, i.toNat, none⟩ = some (.bool (rdOf false x13 i)) ∧ w.frozen? ⟨g, i.toNat, none⟩ = false ∧ Kd.S (Kd.slice 9 Kd.string) 46 (w.setCell ⟨g, i.toNat, none⟩ (.bool true)) wh.heap.size (fun _ => True) vb x12 ∧ Kd.R Kd.bool 4 (w.setCell ⟨g, i.toNat, none⟩ (.bool true)) wh.heap.size (fun _ => True) (.slice (some ⟨g, 0, none⟩) n c) (x13.set i.toNat true) ∧ Below wh.heap.size wh (w.setCell ⟨g, i.toNat, none⟩ (.bool true)) := by
 obtain ⟨c1, f1⟩ := Kd.R_celln false hR i h0 h1
 obtain ⟨_, hc⟩ := Kd.R_typed hR g rfl
 exact ⟨c1, f1, Kd.S_mono (Kd.S_far (p := ⟨g, i.toNat, none⟩) (Kd.S_types hS hc (by decide)) (fun _ hk => hk.2) _) (fun _ _ => trivial), (Kd.R_putg hR i true).1, below_set hb (Kd.R_base hR g rfl)⟩
theorem behindDel {wh w : World} {g n c : Nat} {vst : Value} {x12 : List (List ByteArray)} {x13 : List Bool} (hS : Kd.S (Kd.slice 9 Kd.string) 46 w wh.heap.size (fun _ => True) (.slice (some ⟨g, 0, none⟩) n c) x12) (hR : Kd.R Kd.bool 4 w wh.heap.size (fun _ => True) vst x13) (hb : Below wh.heap.size wh w) (i : Int) (h0 : 0 ≤ i) (h1 : i < (n : Int)) :
  ∃ A3 c3 okj, w.cell? ⟨g, i.toNat, none⟩ = some (.slice A3 (rd_L7 x12 i).length c3) ∧ Kd.R Kd.string 9 w wh.heap.size okj (.slice A3 (rd_L7 x12 i).length c3) (rd_L7 x12 i) ∧ (∀ k, w.heap.size ≤ k → okj k) ∧
   ∀ (W1 : World) (v4 : Value) (d' : List ByteArray), Kd.R Kd.string 9 W1 wh.heap.size okj v4 d' → w.grownBy W1 (Value.slice A3 (rd_L7 x12 i).length c3).ownBlock → W1.cell? ⟨g, i.toNat, none⟩ = some (.slice A3 (rd_L7 x12 i).length c3) ∧ W1.frozen? ⟨g, i.toNat, none⟩ = false ∧
    Kd.S (Kd.slice 9 Kd.string) 46 (W1.setCell ⟨g, i.toNat, none⟩ v4) wh.heap.size (fun _ => True) (.slice (some ⟨g, 0, none⟩) n c) (x12.set i.toNat d') ∧ Kd.R Kd.bool 4 (W1.setCell ⟨g, i.toNat, none⟩ v4) wh.heap.size (fun _ => True) vst x13 ∧ Below wh.heap.size wh (W1.setCell ⟨g, i.toNat, none⟩ v4) := by
 have hlt := Kd.S_lt hS g rfl
 obtain ⟨oki, ce, hcl, hM, hcc, hfr, hoki, hH⟩ := Kd.S_elem (Kd.S_mono (Kd.S_bound hS) (fun k hk => (⟨hk.1, Nat.not_le.2 hk.2.2.1⟩ : True ∧ ¬ w.heap.size ≤ k))) [] i h0 h1
 obtain ⟨ve, rfl, ge⟩ := hM
 replace ge := (show Kd.R Kd.string 9 _ _ _ _ (rd_L7 x12 i) from ge)
 obtain ⟨A3, c3, rfl⟩ := Kd.R_slice ge
 have hx := hcc 0 _ rfl
 simp only [show ((Kd.slice 9 Kd.string)).sz = 1 from rfl, Nat.mul_one, Nat.add_zero] at hx
 refine ⟨A3, c3, fun k => oki k ∨ w.heap.size ≤ k, hx, Kd.R_mono ge (fun k hk => .inl hk), fun k hk => .inr hk, fun W1 v4 d' hR4 hg => ?_⟩
 have hne : some g ≠ (Value.slice A3 (rd_L7 x12 i).length c3).ownBlock := fun e => (hoki g (ge.1 g e.symm)).2 rfl
 have hs := Kd.S_seg (okg := fun k => w.heap.size ≤ k) (okp := fun k => oki k ∨ w.heap.size ≤ k) (Kd.H_grown hH hg (fun k hk => ge.1 k hk)) h0 h1 (seg := [v4]) (j := 0) (show 1 ≤ 1 by decide) (x' := d') (Kd.M_row hR4) (fun k hk => hk) (fun k hk => ⟨trivial, by omega⟩)
 simp only [show ((Kd.slice 9 Kd.string)).sz = 1 from rfl, Nat.mul_one, Nat.add_zero] at hs
 obtain ⟨_, hc8⟩ := Kd.S_typed hS g rfl
 have b8 := blk_grown hc8 hg hne
 exact ⟨cell_grown hg hx hne, blk_frozen b8 _, hs.1, Kd.R_mono (Kd.R_far (p := ⟨g, i.toNat, none⟩) (Kd.R_types (Kd.R_over' hR (Kd.R_typed ge) (by decide) hg) b8 (by decide)) (fun _ hk => hk.2) _) (fun _ _ => trivial), below_set (pw_below_grown hb _ (below_size hb) hg (fun k hk => Kd.R_base ge k hk)) (Kd.S_base hS g rfl)⟩
/-- The new weave while it grows: its box at g; what it leads to is not elder than ws; all else is as it was in ws. -/
structure Ow (w0 ws w : World) (g : Nat) (c0 c1 : Value) : Prop where
 b : Below w0.heap.size w0 w
 k : Kept ws w (fun k => k = g)
 h : w.heap[g]? = some (.cells #[c0, c1] 32 (0, 0))
 n : w0.heap.size ≤ g
 lt : g < ws.heap.size
section
variable {w0 ws w w1 : World} {g : Nat} {c0 c1 v1 v2 : Value}
theorem Ow.below (F : Ow w0 ws w g c0 c1) (hb : Below w.heap.size w w1) : Ow w0 ws w1 g c0 c1 := ⟨below_step F.b hb, F.k.below hb, blk_below F.h hb, F.n, F.lt⟩
theorem Ow.drew (F : Ow w0 ws w g c0 c1) : Ow w0 ws w.drew g c0 c1 := F.below (below_drew1 (Below.refl _ _))
theorem Ow.size (F : Ow w0 ws w g c0 c1) : ws.heap.size ≤ w.heap.size := F.k.1
theorem Ow.grown (F : Ow w0 ws w g c0 c1) {row : Option Nat} (hg : w.grownBy w1 row) (hr : ∀ k, row = some k → ws.heap.size ≤ k) : Ow w0 ws w1 g c0 c1 := ⟨pw_below_grown F.b _ (below_size F.b) hg (fun k hk => by have := hr k hk; have := F.lt; have := F.n; omega), Kept.of_grown hg F.k (fun k hk => .inr (hr k hk)), blk_grown F.h hg (fun e => by have := hr g e.symm; have := F.lt; omega), F.n, F.lt⟩
theorem Ow.put0 (F : Ow w0 ws w g c0 c1) (v : Value) : Ow w0 ws (w.setCell ⟨g, 0, none⟩ v) g v c1 := ⟨below_set F.b F.n, F.k.setCell (.inl rfl) v, blk_put F.h 0 _ rfl, F.n, F.lt⟩
theorem Ow.put1 (F : Ow w0 ws w g c0 c1) (v : Value) : Ow w0 ws (w.setCell ⟨g, 1, none⟩ v) g c0 v := ⟨below_set F.b F.n, F.k.setCell (.inl rfl) v, blk_put F.h 1 _ rfl, F.n, F.lt⟩
theorem Ow.other (F : Ow w0 ws w g c0 c1) {q : Nat} (hq : ws.heap.size ≤ q) (j : Nat) (u : Value) : Ow w0 ws (w.setCell ⟨q, j, none⟩ u) g c0 c1 := ⟨below_set F.b (by have := F.n; have := F.lt; omega), F.k.setCell (.inr hq) u, blk_far F.h (by have := F.lt; intro e; simp only at e; omega) u, F.n, F.lt⟩
theorem Ow.keepS {α : Type} {d : Kd α} {e base : Nat} {ok : Nat → Prop} {xs : List α} (F : Ow w0 ws w g c0 c1) (h : Kd.S d e ws base ok v1 xs) (hne : ∀ k, ok k → k ≠ g) : Kd.S d e w base ok v1 xs := Kd.S_step h (fun k ho hl => F.k.2 k hl (hne k ho))
theorem Ow.keepR {α : Type} {d : Kd α} {e base : Nat} {ok : Nat → Prop} {xs : List α} (F : Ow w0 ws w g c0 c1) (h : Kd.R d e ws base ok v1 xs) (hne : ∀ k, ok k → k ≠ g) : Kd.R d e w base ok v1 xs := Kd.R_kept h F.k hne
theorem Ow.lt' (F : Ow w0 ws w g c0 c1) : g < w.heap.size := blk_lt F.h
theorem Ow.far {α : Type} {d : Kd α} {e : Nat} {xs : List α} (F : Ow w0 ws w g c0 c1) (h : Kd.S d e w w0.heap.size (fun k => ws.heap.size ≤ k) v1 xs) (j : Nat) (u : Value) : Kd.S d e (w.setCell ⟨g, j, none⟩ u) w0.heap.size (fun k => ws.heap.size ≤ k) v1 xs := Kd.S_far (p := ⟨g, j, none⟩) h (fun k hk => by have := F.lt; intro e; simp only at e; omega) u
theorem Ow.lit {α : Type} {d : Kd α} {e : Nat} {xs : List α} {ys : List Int} (F : Ow w0 ws w g c0 c1) (hP : Kd.S d e w w0.heap.size (fun k => ws.heap.size ≤ k) v2 xs) (ho : Kd.R (Kd.int .i64) 3 w1 w.heap.size (fun _ => True) v1 ys) (hb : Below w.heap.size w w1) :
  Kd.S d e w1 w0.heap.size (fun k => ws.heap.size ≤ k ∧ some k ≠ v1.ownBlock) v2 xs ∧ Kd.R (Kd.int .i64) 3 w1 w0.heap.size (fun k => ws.heap.size ≤ k) v1 ys :=
 ⟨Kd.S_elder' hP (Kd.R_base ho) hb, Kd.R_mono (Kd.R_lower (Kd.R_bound ho) (below_size F.b)) (fun k hk => Nat.le_trans F.size hk.2.1)⟩
end
set_option maxHeartbeats 8000000 in
set_option maxRecDepth 100000 in
theorem spec_l06Add.calls (k : Nat) (A0_0 : Option Addr) (c0_0 : Nat) (l0_0 : List (List Int)) (A0_1 : Option Addr) (c0_1 : Nat) (l0_1 : List (S123)) (A1 : Option Addr) (c1 : Nat) (l1 : List Int) (A2 : Option Addr) (c2 : Nat) (l2 : List ByteArray) (r1 : List (List Int)) (r2 : List (S123)) (r3 : Int) (r4 : Int) (w : World) (hr0_0 : Kd.C (Kd.slice 3 (Kd.int .i64)) w A0_0 l0_0.length l0_0) (hc0_0 : l0_0.length ≤ c0_0) (hr0_1 : Kd.C k123 w A0_1 l0_1.length l0_1) (hc0_1 : l0_1.length ≤ c0_1) (hr1 : Kd.C (Kd.int .i64) w A1 l1.length l1) (hc1 : l1.length ≤ c1) (hr2 : Kd.C Kd.string w A2 l2.length l2) (hc2 : l2.length ≤ c2) (h : spec_l06Add.f k l0_0 l0_1 l1 l2 = some (r1, r2, r3, r4)) :
  Calls Try.prog 69 #[.agg #[.slice A0_0 l0_0.length c0_0, .slice A0_1 l0_1.length c0_1], .slice A1 l1.length c1, .slice A2 l2.length c2] w fun e w' => ∃ v0_ v1_ : Value, e = .returned (.tuple #[.agg #[v0_, v1_], .int .i64 r3, .int .i64 r4]) ∧ Kd.S (Kd.slice 3 (Kd.int .i64)) 45 w' w.heap.size (fun _ => True) v0_ r1 ∧ Kd.S k123 123 w' w.heap.size (fun _ => True) v1_ r2 ∧ Below w.heap.size w w' := by
 have hu32 := Try.underlying32
 have hu123 := Try.underlying123
 have HR0_0 := Aside0.mk hr0_0
 have HC0_0 := Aside0.mk hc0_0
 have HR0_1 := Aside0.mk hr0_1
 have HC0_1 := Aside0.mk hc0_1
 have HR1 := Aside0.mk hr1
 have HC1 := Aside0.mk hc1
 have HR2 := Aside0.mk hr2
 have HC2 := Aside0.mk hc2
 clear hr0_0 hc0_0 hr0_1 hc0_1 hr1 hc1 hr2 hc2
 unfold spec_l06Add.f at h
 obtain ⟨b1, h1, h⟩ := Option.bind_eq_some_iff.mp h
 have A1_ := Aside0.mk h1
 have HH := Aside0.mk h
 clear h1 h
 go_enter Try.func69, Try.ntmps69
 go_upto_if 26 with (first | ((with_reducible refine gate_dst (N := 3) rfl ?_); refine be_ 3 #[.slice A0_0 l0_0.length c0_0, .slice A0_1 l0_1.length c0_1] 32 ?_; intro gb3 hg3 w3 hbox3 hb3) | ((with_reducible refine gate_dst (N := 6) rfl ?_); refine be_ 6 #[.slice none 0 0, .slice none 0 0] 32 ?_; intro gb6 hg6 w6 hbox6 hb6; have F := Aside0.mk (⟨below_step hb3 hb6, blk_below hbox3 hb6, hbox6, Nat.le_of_eq hg3.symm, (by rw [hg6]; exact hb3.size), (by rw [hg6]; exact Nat.ne_of_lt (blk_lt hbox3))⟩ : Lw w w6 gb3 gb6 (.slice A0_0 l0_0.length c0_0) (.slice A0_1 l0_1.length c0_1)); clear hg3 hbox3 hb3 hg6 hbox6 hb6; obtain ⟨y0, y1, y2, y3⟩ := bk2_ F.out.h3) | ((with_reducible refine gate_callee (f := 110) rfl ?_); refine gl_ 25 Try.func110 #[.agg #[.slice A0_0 l0_0.length c0_0, .slice A0_1 l0_1.length c0_1], .slice A1 l1.length c1] ?_; (with_reducible refine (spec_l06Parents.calls k _ _ l0_0 _ _ l0_1 _ _ l1 b1 _ (Kd.C_below HR0_0.out F.out.b) HC0_0.out (Kd.C_below HR0_1.out F.out.b) HC0_1.out (Kd.C_below HR1.out F.out.b) HC1.out A1_.out).mono ?_); rintro e w7 ⟨rfl, hb⟩; refine ⟨_, rfl, ?_⟩; have F1 := Aside0.mk (F.out.below hb); clear F y0 y1 y2 y3 hb A1_; have F := F1; clear F1))
 cases b1
 case false =>
  have H := HH.out
  clear HH
  rw [if_neg (by decide)] at H
  simp only [Option.some.injEq, Prod.mk.injEq] at H
  obtain ⟨rfl, rfl, rfl, rfl⟩ := H
  obtain ⟨z0, z1, z2, z3⟩ := bk2_ F.out.h6
  go_wp2
  refine bodyPost_ret (results_ctt rfl _ _ gb6 32 #[.slice none 0 0, .slice none 0 0] (0, 0) _ rfl (F.out.out _ _).1 Try.underlying32 rfl (by kernel_rfl)) rfl ?_
  exact ⟨_, _, rfl, Kd.S_nil _ _ _ _ _, Kd.S_nil _ _ _ _ _, (F.out.out _ _).2⟩
 have h := HH.out
 clear HH
 rw [if_pos rfl] at h
 obtain ⟨b2, h1, h⟩ := Option.bind_eq_some_iff.mp h
 have A1_ := Aside0.mk h1
 have HH := Aside0.mk h
 clear h1 h
 go_upto_if 30 with (first | ((with_reducible refine gate_callee (f := 93) rfl ?_); refine gl_ 29 Try.func93 #[.slice A2 l2.length c2] ?_; (with_reducible refine (spec_LinesOk.calls k _ _ l2 b2 _ (Kd.C_below HR2.out F.out.b) HC2.out A1_.out).mono ?_); rintro e w' ⟨rfl, ⟨nd, rfl⟩⟩; refine ⟨_, rfl, ?_⟩; have F1 := Aside0.mk (F.out.drewN nd); clear F A1_; have F := F1; clear F1))
 generalize World.drewN w7 nd = w8 at F ⊢
 cases b2
 case false =>
  have H := HH.out
  clear HH
  rw [if_neg (by decide)] at H
  simp only [Option.some.injEq, Prod.mk.injEq] at H
  obtain ⟨rfl, rfl, rfl, rfl⟩ := H
  obtain ⟨z0, z1, z2, z3⟩ := bk2_ F.out.h6
  go_wp2
  refine bodyPost_ret (results_ctt rfl _ _ gb6 32 #[.slice none 0 0, .slice none 0 0] (0, 0) _ rfl (F.out.out _ _).1 Try.underlying32 rfl (by kernel_rfl)) rfl ?_
  exact ⟨_, _, rfl, Kd.S_nil _ _ _ _ _, Kd.S_nil _ _ _ _ _, (F.out.out _ _).2⟩
 obtain ⟨y0, y1, y2, y3⟩ := bk2_ F.out.h3
 have h := HH.out
 clear HH
 rw [if_pos rfl] at h
 go_upto_if 36 with (fail)
 by_cases c40 : (l0_0.length : Int) = 40
 ·rw [if_pos c40] at h
  have c40b : ((l0_0.length : Int) == 40) = true := beq_iff_eq.mpr c40
  rw [c40b]
  simp only [Option.some.injEq, Prod.mk.injEq] at h
  obtain ⟨rfl, rfl, rfl, rfl⟩ := h
  obtain ⟨z0, z1, z2, z3⟩ := bk2_ F.out.h6
  go_wp2
  refine bodyPost_ret (results_ctt rfl _ _ gb6 32 #[.slice none 0 0, .slice none 0 0] (0, 0) _ rfl (F.out.out _ _).1 Try.underlying32 rfl (by kernel_rfl)) rfl ?_
  exact ⟨_, _, rfl, Kd.S_nil _ _ _ _ _, Kd.S_nil _ _ _ _ _, (F.out.out _ _).2⟩
 rw [if_neg c40] at h
 have c40b : ((l0_0.length : Int) == 40) = false := beq_eq_false_iff_ne.mpr c40
 rw [c40b]
 clear c40
 obtain ⟨seen, h1, h⟩ := Option.bind_eq_some_iff.mp h
 obtain ⟨lns, h2, h⟩ := Option.bind_eq_some_iff.mp h
 obtain ⟨way, h3, h⟩ := Option.bind_eq_some_iff.mp h
 have A1_ := Aside0.mk h1
 have A2_ := Aside0.mk h2
 have A3_ := Aside0.mk h3
 clear h1 h2 h3
 obtain ⟨jn, hjn⟩ : ∃ j_ : Int, (wrap64 ((l0_1.length : Int) + 1)) = j_ := ⟨_, rfl⟩
 rw [hjn] at h
 have hjnw : (IntKind.i64.wrap ((l0_1.length : Int) + 1)) = jn := (i64_w _).trans hjn
 obtain ⟨c1b0, c1b1, h⟩ := ife_ h
 obtain ⟨c2b0, c2b1, h⟩ := ife_ h
 obtain ⟨c3b0, c3b1, h⟩ := ife_ h
 obtain ⟨c4b0, c4b1, h⟩ := ife_ h
 have HH := Aside0.mk h
 clear h
 go_wp2_with (first | ((with_reducible refine gate_callee (f := 111) rfl ?_); refine gl_ 40 Try.func111 #[.agg #[.slice A0_0 l0_0.length c0_0, .slice A0_1 l0_1.length c0_1], .slice A1 l1.length c1] ?_; (with_reducible refine (spec_l06Seen.calls k _ _ l0_0 _ _ l0_1 _ _ l1 seen _ (Kd.C_below HR0_0.out F.out.b) HC0_0.out (Kd.C_below HR0_1.out F.out.b) HC0_1.out (Kd.C_below HR1.out F.out.b) HC1.out A1_.out).mono ?_); rintro e w9 ⟨vs, rfl, ho, hb⟩; refine ⟨_, rfl, ?_⟩; obtain ⟨As, cs, es⟩ := Kd.R_slice ho; subst es; have HS := Aside0.mk (Kd.R_lower ho (below_size F.out.b)); have F1 := Aside0.mk (F.out.below hb); clear F A1_ ho hb y0 y1 y2 y3; have F := F1; clear F1; obtain ⟨y0, y1, y2, y3⟩ := bk2_ F.out.h3) | ((with_reducible refine gate_callee (f := 113) rfl ?_); refine gl_ 43 Try.func113 #[.agg #[.slice A0_0 l0_0.length c0_0, .slice A0_1 l0_1.length c0_1], .slice As seen.length cs] ?_; (with_reducible refine (spec_l06Lines.calls k _ _ l0_0 _ _ l0_1 _ _ seen lns _ (Kd.C_below HR0_0.out F.out.b) HC0_0.out (Kd.C_below HR0_1.out F.out.b) HC0_1.out (Kd.R_reads' HS.out).2.2 (Kd.R_reads' HS.out).2.1 A2_.out).mono ?_); rintro e w10 ⟨vl, rfl, ho, hb⟩; refine ⟨_, rfl, ?_⟩; obtain ⟨Al, cl, el⟩ := Kd.R_slice ho; subst el; have HL := Aside0.mk ho; have HS1 := Aside0.mk (Kd.R_below HS.out hb); have F1 := Aside0.mk (F.out.below hb); clear F HS A2_ ho hb y0 y1 y2 y3; have F := F1; have HS := HS1; clear F1 HS1) | ((with_reducible refine gate_callee (f := 112) rfl ?_); refine gl_ 45 Try.func112 #[.slice Al lns.length cl, .slice A2 l2.length c2] ?_; (with_reducible refine (spec_Align.calls k _ _ lns _ _ l2 way _ (Kd.R_reads' HL.out).2.2 (Kd.R_reads' HL.out).2.1 (Kd.C_below HR2.out F.out.b) HC2.out A3_.out).mono ?_); rintro e w11 ⟨vw, rfl, ho, hb⟩; refine ⟨_, rfl, ?_⟩; obtain ⟨Aw, cw, ew⟩ := Kd.R_slice ho; subst ew; have HW := Aside0.mk (Kd.R_lower ho (below_size F.out.b)); have HS1 := Aside0.mk (Kd.R_below HS.out hb); have F1 := Aside0.mk (F.out.below hb); clear F HS HL A3_ ho hb; have F := F1; have HS := HS1; clear F1 HS1; obtain ⟨y0, y1, y2, y3⟩ := bk2_ F.out.h3) | ((with_reducible refine gate_dst (N := 50) rfl ?_); refine Kd.S_make (Kd.slice 9 Kd.string) _ 46 rfl (N := 50) rfl 58 _ _ rfl jn rfl rfl Try.underlying58 (.slice none 0 0) 24 info46 rfl (by decide) (by omega) [] (ok := fun _ => True) (okp := fun _ => True) ⟨_, rfl, Kd.R_nil _ _ _ _ _⟩ (fun _ hk => hk) trivial (of_decide_eq_true q0_) (Nat.le_trans (Nat.mul_le_mul_right _ (of_decide_eq_true q0_ : jn.toNat ≤ 11728124029610)) (by omega)) (Below.refl _ _) (Nat.le_refl _) ?_; intro vbe w12 ho hb hg_ hnew_; have HBe := Aside0.mk ho; have HK := Aside0.mk hb; obtain ⟨y0', y1', _, _⟩ := bk2_ (F.out.below hb).h3; clear ho hb hg_ hnew_ y0 y1 y2 y3) | ((with_reducible refine gate_dst (N := 54) rfl ?_); refine Kd.R_make Kd.bool _ 4 rfl (N := 54) rfl 127 _ _ rfl (l0_1.length : Int) rfl rfl Try.underlying127 (.bool false) 1 info4 rfl (by decide) (by omega) false (ok := fun _ => True) (okp := fun _ => True) rfl (fun _ hk => hk) trivial (of_decide_eq_true q0_) (Nat.le_trans (Nat.mul_le_mul_right _ (of_decide_eq_true q0_ : (l0_1.length : Int).toNat ≤ 281474976710656)) (by omega)) (Below.refl _ _) (Nat.le_refl _) ?_; intro vst w13 ho hb hg_ hnew_; have HSt := Aside0.mk (Kd.R_lower ho (below_size HK.out)); have HBe1 := Aside0.mk (Kd.S_below HBe.out hb); have HK1 := Aside0.mk (below_step HK.out hb); clear HBe HK ho hb hg_ hnew_ y0' y1'; have HBe := HBe1; have HK := HK1; clear HBe1 HK1))
 go_loopg [14, 15] k (fun kq v14 v15 w' => ∃ (x12 : List (List ByteArray)) (x13 : List Bool) (at_ i : Int), v14 = .int .i64 at_ ∧ v15 = .int .i64 i ∧ Aside0 (spec_l06Add.l0 kq l1 l2 (l0_0.length : Int) seen way x12 x13 at_ i l0_0 l0_1 = some (r1, r2, r3, r4)) ∧ Aside0 (kq ≤ k) ∧ Aside0 (Kd.S (Kd.slice 9 Kd.string) 46 w' w11.heap.size (fun _ => True) vbe x12) ∧ Aside0 (Kd.R Kd.bool 4 w' w11.heap.size (fun _ => True) vst x13) ∧ Aside0 (Below w11.heap.size w11 w'))
 case atStart => exact ⟨_, _, 0, 0, rfl, rfl, HH, ⟨Nat.le_refl _⟩, HBe, HSt, HK⟩
 case round =>
  clear HH HBe HSt HK
  obtain ⟨x12, x13, at_, i, rfl, rfl, HA, HK1, HBe, HSt, HK⟩ := hrel
  cases gk with
  | zero => exact absurd HA.out (by simp [spec_l06Add.l0])
  | succ k1 =>
   have H := HA.out
   clear HA
   simp only [spec_l06Add.l0] at H
   by_cases c6 : i < (l2.length : Int)
   ·rw [if_pos c6] at H
    have c6b := decide_eq_true c6
    obtain ⟨c7, H⟩ := ifs_ H
    obtain ⟨c8, H⟩ := ifs_ H
    obtain ⟨gw, cw', ew, _⟩ := Kd.R_form HW.out (by omega)
    cases ew
    have xi : wr.cell? ⟨gw, i.toNat, none⟩ = some (.int .i64 (rd way i)) := pw_cell_below HK.out (Kd.R_cell (0 : Int) HW.out i c7 c8).1
    have q6 := eq_true c6
    have q7 := eq_true c7
    have q8 := eq_true c8
    by_cases c9 : rd way i ≥ 0
    ·rw [if_pos c9] at H
     have c9b : decide (rd way i ≥ 0) = true := decide_eq_true c9
     obtain ⟨c10, H⟩ := ifs_ H
     obtain ⟨c11, H⟩ := ifs_ H
     obtain ⟨p, hp⟩ : ∃ j_ : Int, (wrap64 (rd seen (rd way i) + 1)) = j_ := ⟨_, rfl⟩
     rw [hp] at H
     have hpw : (IntKind.i64.wrap (rd seen (rd way i) + 1)) = p := (i64_w _).trans hp
     obtain ⟨q, hq⟩ : ∃ j_ : Int, (wrap64 (p - 1)) = j_ := ⟨_, rfl⟩
     rw [hq] at H
     have hqw : (IntKind.i64.wrap (p - 1)) = q := (i64_w _).trans hq
     obtain ⟨c12, H⟩ := ifs_ H
     obtain ⟨c13, H⟩ := ifs_ H
     have HH := Aside0.mk H
     obtain ⟨gs, cs', es, _⟩ := Kd.R_form HS.out (by omega)
     cases es
     have xs : wr.cell? ⟨gs, (rd way i).toNat, none⟩ = some (.int .i64 (rd seen (rd way i))) := pw_cell_below HK.out (Kd.R_cell (0 : Int) HS.out (rd way i) c10 c11).1
     obtain ⟨gt, ct, et, _⟩ := Kd.R_form HSt.out (by omega)
     subst et
     obtain ⟨xt, ft, s1, s2, s3⟩ := staysPut HBe.out HSt.out HK.out q c12 c13
     have S1 := Aside0.mk s1
     have S2 := Aside0.mk s2
     have S3 := Aside0.mk s3
     have q10 : (0 ≤ rd way i) = True := eq_true c10
     have q11 := eq_true c11
     have q12 := eq_true c12
     have q13 := eq_true c13
     clear H c6 c7 c8 c9 c10 c11 c12 c13 s1 s2 s3 HBe HSt HK
     go_wp2
     go_roundg k1
     case measure => have := HK1.out; omega
     case rel => exact ⟨_, _, p, wrap64 (i + 1), rfl, rfl, HH, ⟨by have := HK1.out; omega⟩, S1, S2, S3⟩
    ·rw [if_neg c9] at H
     have c9b : decide (rd way i ≥ 0) = false := decide_eq_false c9
     obtain ⟨c10, H⟩ := ifs_ H
     obtain ⟨c11, H⟩ := ifs_ H
     obtain ⟨c12, H⟩ := ifs_ H
     have HH := Aside0.mk H
     have HL12 := Aside0.mk c12
     clear H c12
     go_upto_region 19 with (fail)
     clear xi
     have HBe2 := Aside0.mk (Kd.S_drew HBe.out)
     have HSt2 := Aside0.mk (Kd.R_drew HSt.out)
     have HK2 := Aside0.mk (below_drew1 HK.out)
     clear HBe HSt HK
     obtain ⟨gb, cb, eb, _⟩ := Kd.S_form HBe2.out (by omega)
     subst eb
     obtain ⟨A3, c3, okj, x3, r3', fr3, nx3⟩ := behindDel HBe2.out HSt2.out HK2.out at_ c10 c11
     have R3 := Aside0.mk r3'
     have FR := Aside0.mk fr3
     have NX := Aside0.mk nx3
     obtain ⟨al, el, sl⟩ := Kd.at_string HR2.out i c7 c6
     cases el
     have SL := Aside0.mk (pw_cell_below F.out.b sl)
     have q10 := eq_true c10
     have q11 := eq_true c11
     clear r3' fr3 nx3 sl
     refine start_ (n := 14) (S := fun w' => w'.cell? ⟨gb, at_.toNat, none⟩ = some (.slice A3 (rd_L7 x12 at_).length c3) ∧ w'.cell? (al.add i.toNat) = some (.string (rdOf ByteArray.empty l2 i))) (ds := [13]) _ (by kernel_rfl) rfl rfl ⟨x3, pw_cell_below HK2.out SL.out⟩ (fun hHeld => ?_)
     refine with_tabW spec_l06Add.tab19 spec_l06Add.bits19 (fun HT_ HW_ => ?_)
     generalize wr.drew = w20 at x3 R3 FR NX HK2 hHeld ⊢
     clear HBe2 HSt2
     refine pu_ 0 78 (bn_ 14 1) ?_; refine pu_ 1 79 (bn_ 14 3) ?_; refine pu_ 2 80 (bn_ 14 7) ?_; refine pu_ 3 81 (bn_ 14 15) ?_; refine pu_ 4 82 (bn_ 14 31) ?_; refine pu_ 6 84 (bn_ 14 95) ?_; refine pu_ 7 85 (bn_ 14 223) ?_; refine pu_ 8 86 (bn_ 14 479) ?_; refine tk2_ 5 83 (bn_ 14 511) ?_; refine tk2_ 9 87 (bn_ 14 1023) ?_
     refine on_ 10 (some 88) (bn_ 14 2047) (fun K hK => ?_)
     refine value_ (w1 := ?_) (v := ?_) (by rfl) rfl ?_ ?_
     rotate_left 2
     ·go_simp; constructor
      ·rfl
      ·rfl
     refine hK.out _ _ ⟨pw_cell_below (below_alloc (Below.refl _ _) _) x3, pw_cell_below (below_alloc (Below.refl _ _) _) (pw_cell_below HK2.out SL.out)⟩ (fun hHeld => ?_)
     clear hK K
     refine nk_ 88 ?_
     refine on_ 11 (some 89) (bn_ 14 4095) (fun K hK => ?_)
     refine Kd.R_append_step (W := w20) Kd.string (w0 := w11) w11.heap.size (by rfl) (.tmp 83) (.tmp 88) 46 9 (.string ⟨#[]⟩) 16 rfl Try.underlying46 info9 rfl (by decide) (by omega) (.slice A3 (rd_L7 x12 at_).length c3) (rd_L7 x12 at_) (rdOf ByteArray.empty l2 i) [.string (rdOf ByteArray.empty l2 i)] okj (fun _ => False) rfl rfl ?aP (fun _ hk => hk.elim) FR.out R3.out HK2.out (below_size HK2.out) ?aL ?_
     case aP => exact rfl
     case aL => have := HL12.out; omega
     intro v7 wC ho hB hg hat
     obtain ⟨A7, c7_, e7⟩ := Kd.R_slice ho
     rw [List.length_append, List.length_cons, List.length_nil, Nat.zero_add] at e7
     subst e7
     obtain ⟨xC, fC, s1, s2, s3⟩ := NX.out wC _ _ ho hg
     have S1 := Aside0.mk s1
     have S2 := Aside0.mk s2
     have S3 := Aside0.mk s3
     refine hK.out _ _ ⟨xC, pw_cell_below hB SL.out⟩ (fun hHeld => ?_)
     clear hK K ho hB hg hat s1 s2 s3 NX FR R3
     refine nk_ 89 ?_
     refine pu_ 12 90 (bn_ 14 8191) ?_
     refine last_ (i := 13) (N := none) #[true, true, true, true, true, true, true, true, true, true, true, true, true, true] rfl rfl (one_of HT_.out (by kernel_rfl)) (by decide) (fun K hK => ?_)
     refine skip_ (w1 := ?_) (by rfl) rfl ?_ ?_
     rotate_left
     ·go_simp; rfl
     refine hK.out _ _ ?_
     clear hK K
     refine dn_ ?_
     go_wp2
     go_roundg k1
     case measure => have := HK1.out; omega
     case rel => exact ⟨_, _, at_, wrap64 (i + 1), rfl, rfl, HH, ⟨by have := HK1.out; omega⟩, S1, S2, S3⟩
   ·rw [if_neg c6] at H
    have c6b := decide_eq_false c6
    have HH := Aside0.mk H
    clear H c6
    go_wp2_with (first | ((with_reducible refine gate_dst (N := 16) rfl ?_); refine be_ 16 #[.slice none 0 0, .slice none 0 0] 32 ?_; intro g16 hg16 w30 hbox hb; obtain ⟨hz0, hz1, hf0, hf1⟩ := bk2_ hbox; have HG16 := Aside0.mk hg16; clear hg16))
    obtain ⟨w31, hw31⟩ : ∃ x, x = (w30.setCell ⟨g16, 0, none⟩ (.slice none 0 0)).setCell ⟨g16, 1, none⟩ (.slice none 0 0) := ⟨_, rfl⟩
    have hg16 := HG16.out
    have hb31 : Below wr.heap.size wr w31 := by rw [hw31]; exact below_set (below_set hb (Nat.le_of_eq hg16.symm)) (Nat.le_of_eq hg16.symm)
    have F2 := Aside0.mk ((F.out.below HK.out).below hb31)
    have HBe2 := Aside0.mk (Kd.S_mono (ok' := fun k => k < g16) (Kd.S_below (Kd.S_bound HBe.out) hb31) (fun k hk => by rw [hg16]; exact hk.2.2.1))
    have HSt2 := Aside0.mk (Kd.R_mono (ok' := fun k => k < g16) (Kd.R_below (Kd.R_bound HSt.out) hb31) (fun k hk => by rw [hg16]; exact hk.2.2.1))
    have hbx : w31.heap[g16]? = some (.cells #[.slice none 0 0, .slice none 0 0] 32 (0, 0)) := by rw [hw31]; exact blk_put (blk_put hbox 0 _ rfl) 1 _ rfl
    have O := Aside0.mk (⟨F2.out.b, Kept.refl _ _, hbx, (by rw [hg16]; exact below_size (F.out.below HK.out).b), blk_lt hbx⟩ : Ow w w31 w31 g16 (.slice none 0 0) (.slice none 0 0))
    have NE := Aside0.mk (show gb3 < g16 ∧ gb6 < g16 from by have h3 := blk_lt (F.out.below HK.out).h3; have h6 := blk_lt (F.out.below HK.out).h6; omega)
    rw [← hw31]
    clear F HK HBe HSt hbx hb31 hw31 hz0 hz1 hf0 hf1 hbox hb hg16
    go_loopg [17] k1 (fun kq v17 w' => ∃ (ps : List (List Int)) (vp : Value) (x : Int), v17 = .int .i64 x ∧ Aside0 (spec_l06Add.l1 kq l1 (l0_0.length : Int) x12 x13 x l0_0 l0_1 ps = some (r1, r2, r3, r4)) ∧ Aside0 (kq ≤ k1) ∧ Aside0 (Ow w w31 w' g16 vp (.slice none 0 0)) ∧ Aside0 (Kd.S (Kd.slice 3 (Kd.int .i64)) 45 w' w.heap.size (fun k => w31.heap.size ≤ k) vp ps))
    case atStart => exact ⟨[], _, 0, rfl, HH, ⟨Nat.le_refl _⟩, O, ⟨Kd.S_nil _ _ _ _ _⟩⟩
    case round =>
     clear HH O
     obtain ⟨ps, vp, x, rfl, HA, HK2, O, HP⟩ := hrel
     cases gk with
     | zero => exact absurd HA.out (by simp [spec_l06Add.l1])
     | succ k2 =>
      have H := HA.out
      clear HA
      simp only [spec_l06Add.l1] at H
      by_cases c71 : x < (l0_0.length : Int)
      ·rw [if_pos c71] at H
       have c71b := decide_eq_true c71
       obtain ⟨y359, hy, H⟩ := bs_ H
       subst hy
       obtain ⟨c72, H⟩ := ifs_ H
       obtain ⟨c73, H⟩ := ifs_ H
       obtain ⟨c74, H⟩ := ifs_ H
       obtain ⟨c75, H⟩ := ifs_ H
       have HH := Aside0.mk H
       have HLa := Aside0.mk c74
       have HLb := Aside0.mk c75
       clear H c74 c75
       obtain ⟨ad, A362, c362, e362, hx, hl, hi⟩ := at_L2 HR0_0.out x c72 c73
       cases e362
       have HX := Aside0.mk hx
       have HI := Aside0.mk hi
       have q72 := eq_true c72
       have q73 := eq_true c73
       clear hx hl hi
       go_upto_region 24 with (fail)
       have OD := Aside0.mk O.out.drew
       have PD := Aside0.mk (Kd.S_drew HP.out)
       have x1 := pw_cell_below OD.out.b HX.out
       clear O HP
       obtain ⟨z0, z1, z2, z3⟩ := bk2_ OD.out.h
       have F24 := Aside0.mk (F2.out.kept OD.out.b OD.out.k (Nat.ne_of_lt NE.out.1) (Nat.ne_of_lt NE.out.2))
       obtain ⟨y0, y1, _, _⟩ := bk2_ F24.out.h3
       refine start_ (n := 13) (S := fun w' => w'.cell? ⟨g16, 0, none⟩ = some vp ∧ w'.cell? ⟨g16, 1, none⟩ = some (.slice none 0 0) ∧ w'.cell? ⟨gb3, 0, none⟩ = some (.slice (some ad) l0_0.length c0_0) ∧ w'.cell? ⟨gb3, 1, none⟩ = some (.slice A0_1 l0_1.length c0_1) ∧ w'.cell? (ad.add x.toNat) = some (.slice A362 (rd_L2 l0_0 x).length c362)) (ds := [12]) _ (by kernel_rfl) rfl rfl ⟨z0, z1, y0, y1, x1⟩ (fun hHeld => ?_)
       refine with_tabW spec_l06Add.tab24 spec_l06Add.bits24 (fun HT_ HW_ => ?_)
       generalize wr.drew = wD at OD PD x1 z0 z1 z2 z3 F24 y0 y1 hHeld ⊢
       refine pu_ 0 97 (bn_ 13 1) ?_; refine pu_ 3 100 (bn_ 13 9) ?_; refine pu_ 5 102 (bn_ 13 41) ?_; refine tk5_ 1 98 (bn_ 13 43) ?_; refine tk5_ 4 101 (bn_ 13 59) ?_; refine pu_ 6 103 (bn_ 13 123) ?_; refine tk5_ 7 104 (bn_ 13 251) ?_
       clear z0 z1 z2 z3 y0 y1 x1 F24
       refine on_ 2 (some 99) (bn_ 13 255) (fun K hK => ?_)
       refine Kd.R_lit_step (W := wD) (Kd.int .i64) _ 3 ?hg (N := 99) ?hd (xs := ([] : List Int)) (inner := []) (ok := fun _ => True) (okp := fun _ => True) ?hr ?hp (fun _ hk => hk) trivial (Below.refl _ _) (Nat.le_refl _) (by simp) ?_
       case hd => rfl
       case hg => rfl
       case hr => first | (go_simp; done) | (go_simp; rfl)
       case hp => exact (Reps.none _ _)
       intro v1 w1 ho hb hg_ hnew_
       have O1 := Aside0.mk (OD.out.below hb)
       obtain ⟨p1, l1'⟩ := OD.out.lit PD.out ho hb
       have P1 := Aside0.mk p1
       have L1 := Aside0.mk l1'
       clear ho hb hg_ hnew_ p1 l1' OD PD
       refine hK.out _ _ ⟨(bk2_ (O1.out).h).1, (bk2_ (O1.out).h).2.1, (bk2_ (F2.out.kept (O1.out).b (O1.out).k (Nat.ne_of_lt NE.out.1) (Nat.ne_of_lt NE.out.2)).h3).1, (bk2_ (F2.out.kept (O1.out).b (O1.out).k (Nat.ne_of_lt NE.out.1) (Nat.ne_of_lt NE.out.2)).h3).2.1, pw_cell_below (O1.out).b HX.out⟩ (fun hHeld => ?_)
       clear hK K
       refine nk_ 99 ?_
       refine on_ 8 (some 105) (bn_ 13 511) (fun K hK => ?_)
       refine Kd.R_append_rows_step (W := w1) (Kd.int .i64) (w0 := w) w.heap.size (by rfl) (.tmp 99) (.tmp 104) 45 3 (.int .i64 0) 8 rfl Try.underlying45 info3 rfl (by decide) (by omega) v1 [] (rd_L2 l0_0 x) _ _ _ (fun k => w31.heap.size ≤ k) (fun _ => False) rfl rfl L1.out ?aR (fun _ _ h => h) (fun _ h => h.elim) (fun k hk => Nat.le_trans O1.out.size hk) O1.out.b (below_size O1.out.b) ?aL ?_
       case aR => exact Kd.C_below HI.out O1.out.b
       case aL => have := HLa.out; simp only [List.length_nil, Nat.zero_add] at this ⊢; omega
       intro v2 w2 ho hB hg hat
       rw [List.nil_append] at ho
       have O2 := Aside0.mk (O1.out.grown hg L1.out.1)
       have P2 := Aside0.mk (Kd.S_after P1.out hg hat)
       obtain ⟨A2', c2', e2'⟩ := Kd.R_slice ho
       subst e2'
       have L2 := Aside0.mk ho
       clear ho hB hg hat L1 P1 O1
       refine hK.out _ _ ⟨(bk2_ (O2.out).h).1, (bk2_ (O2.out).h).2.1, (bk2_ (F2.out.kept (O2.out).b (O2.out).k (Nat.ne_of_lt NE.out.1) (Nat.ne_of_lt NE.out.2)).h3).1, (bk2_ (F2.out.kept (O2.out).b (O2.out).k (Nat.ne_of_lt NE.out.1) (Nat.ne_of_lt NE.out.2)).h3).2.1, pw_cell_below (O2.out).b HX.out⟩ (fun hHeld => ?_)
       clear hK K
       refine nk_ 105 ?_
       refine on_ 9 (some 106) (bn_ 13 1023) (fun K hK => ?_)
       refine value_ (w1 := ?_) (v := ?_) (by rfl) rfl ?_ ?_
       rotate_left 2
       ·go_simp; constructor
        ·rfl
        ·rfl
       refine hK.out _ _ ⟨(bk2_ ((O2.out.below (below_alloc (Below.refl _ _) _))).h).1, (bk2_ ((O2.out.below (below_alloc (Below.refl _ _) _))).h).2.1, (bk2_ (F2.out.kept ((O2.out.below (below_alloc (Below.refl _ _) _))).b ((O2.out.below (below_alloc (Below.refl _ _) _))).k (Nat.ne_of_lt NE.out.1) (Nat.ne_of_lt NE.out.2)).h3).1, (bk2_ (F2.out.kept ((O2.out.below (below_alloc (Below.refl _ _) _))).b ((O2.out.below (below_alloc (Below.refl _ _) _))).k (Nat.ne_of_lt NE.out.1) (Nat.ne_of_lt NE.out.2)).h3).2.1, pw_cell_below ((O2.out.below (below_alloc (Below.refl _ _) _))).b HX.out⟩ (fun hHeld => ?_)
       clear hK K
       refine nk_ 106 ?_
       have hap := Kd.R_apart' L2.out (Kd.S_typed P2.out) (by decide)
       have HAP := Aside0.mk hap
       clear hap
       refine on_ 10 (some 107) (bn_ 13 2047) (fun K hK => ?_)
       refine Kd.S_append_step (W := w2) (Kd.slice 3 (Kd.int .i64)) (w0 := w) w.heap.size (by rfl) (.tmp 98) (.tmp 106) 22 45 (.slice none 0 0) 24 rfl Try.underlying22 info45 rfl (by decide) (by omega) vp ps (rd_L2 l0_0 x) [.slice A2' (rd_L2 l0_0 x).length c2'] (fun k => w31.heap.size ≤ k) (fun k => some k = (Value.slice A2' (rd_L2 l0_0 x).length c2').ownBlock) rfl rfl (Kd.M_row (Kd.R_tight rfl HAP.out)) (fun k hk => HAP.out.1 k hk.symm) (fun k hk => Nat.le_trans O2.out.size hk) P2.out O2.out.b (below_size O2.out.b) ?aL ?_
       case aL => have := HLb.out; omega
       intro v3 w4 ho hB hg hat
       have O3 := Aside0.mk (O2.out.grown hg (fun k hk => ((Kd.S_R P2.out).1 k hk).1))
       have P3 := Aside0.mk ho
       obtain ⟨Ap, cp, ep⟩ := Kd.S_slice ho
       rw [List.length_append, List.length_cons, List.length_nil, Nat.zero_add] at ep
       subst ep
       clear ho hB hg hat L2 P2 O2 HAP
       refine hK.out _ _ ⟨(bk2_ (O3.out).h).1, (bk2_ (O3.out).h).2.1, (bk2_ (F2.out.kept (O3.out).b (O3.out).k (Nat.ne_of_lt NE.out.1) (Nat.ne_of_lt NE.out.2)).h3).1, (bk2_ (F2.out.kept (O3.out).b (O3.out).k (Nat.ne_of_lt NE.out.1) (Nat.ne_of_lt NE.out.2)).h3).2.1, pw_cell_below (O3.out).b HX.out⟩ (fun hHeld => ?_)
       clear hK K
       refine nk_ 107 ?_
       refine pu_ 11 108 (bn_ 13 4095) ?_
       refine last_ (i := 12) (N := none) #[true, true, true, true, true, true, true, true, true, true, true, true, true] rfl rfl (one_of HT_.out (by kernel_rfl)) (by decide) (fun K hK => ?_)
       have hz0 := (bk2_ O3.out.h).1
       have hz1 := (bk2_ O3.out.h).2.2.1
       refine skip_ (w1 := ?_) (by rfl) rfl ?_ ?_
       rotate_left
       ·go_simp; rfl
       refine hK.out _ _ ?_
       clear hK K
       refine dn_ ?_
       have O4 := Aside0.mk (O3.out.put0 (.slice Ap (ps.length + 1) cp))
       have P4 := Aside0.mk (O3.out.far P3.out 0 (.slice Ap (ps.length + 1) cp))
       clear O3 P3 hz0 hz1
       go_wp2
       go_roundg k2
       case measure => have := HK1.out; have := HK2.out; omega
       case rel => exact ⟨_, _, wrap64 (x + 1), rfl, HH, ⟨by have := HK2.out; omega⟩, O4, P4⟩
      ·rw [if_neg c71] at H
       have c71b := decide_eq_false c71
       obtain ⟨y369, hy, H⟩ := bs_ H
       subst hy
       obtain ⟨c74, H⟩ := ifs_ H
       obtain ⟨c75, H⟩ := ifs_ H
       obtain ⟨ins, h1, H⟩ := Option.bind_eq_some_iff.mp H
       rw [List.nil_append] at H
       have HH := Aside0.mk H
       have A1_ := Aside0.mk h1
       have HLa := Aside0.mk c74
       have HLb := Aside0.mk c75
       clear H h1 c71 c74 c75
       go_upto_region 25 with (fail)
       have OD := Aside0.mk O.out.drew
       have PD := Aside0.mk (Kd.S_drew HP.out)
       clear O HP
       obtain ⟨z0, z1, z2, z3⟩ := bk2_ OD.out.h
       refine start_ (n := 9) (S := fun w' => w'.cell? ⟨g16, 0, none⟩ = some vp ∧ w'.cell? ⟨g16, 1, none⟩ = some (.slice none 0 0)) (ds := [8]) _ (by kernel_rfl) rfl rfl ⟨z0, z1⟩ (fun hHeld => ?_)
       refine with_tabW spec_l06Add.tab25 spec_l06Add.bits25 (fun HT_ HW_ => ?_)
       generalize wr.drew = wD at OD PD z0 z1 z2 z3 hHeld ⊢
       refine pu_ 0 109 (bn_ 9 1) ?_; refine pu_ 3 112 (bn_ 9 9) ?_; refine tk2_ 1 110 (bn_ 9 11) ?_
       clear z0 z1 z2 z3
       refine on_ 2 (some 111) (bn_ 9 15) (fun K hK => ?_)
       refine Kd.R_lit_step (W := wD) (Kd.int .i64) _ 3 ?hg (N := 111) ?hd (xs := ([] : List Int)) (inner := []) (ok := fun _ => True) (okp := fun _ => True) ?hr ?hp (fun _ hk => hk) trivial (Below.refl _ _) (Nat.le_refl _) (by simp) ?_
       case hd => rfl
       case hg => rfl
       case hr => first | (go_simp; done) | (go_simp; rfl)
       case hp => exact (Reps.none _ _)
       intro v1 w1 ho hb hg_ hnew_
       have O1 := Aside0.mk (OD.out.below hb)
       obtain ⟨p1, l1'⟩ := OD.out.lit PD.out ho hb
       have P1 := Aside0.mk p1
       have L1 := Aside0.mk l1'
       clear ho hb hg_ hnew_ p1 l1' OD PD
       refine hK.out _ _ ⟨(bk2_ (O1.out).h).1, (bk2_ (O1.out).h).2.1⟩ (fun hHeld => ?_)
       clear hK K
       refine nk_ 111 ?_
       refine on_ 4 (some 113) (bn_ 9 31) (fun K hK => ?_)
       refine Kd.R_append_rows_step (W := w1) (Kd.int .i64) (w0 := w) w.heap.size (by rfl) (.tmp 111) (.tmp 112) 45 3 (.int .i64 0) 8 rfl Try.underlying45 info3 rfl (by decide) (by omega) v1 [] l1 _ _ _ (fun k => w31.heap.size ≤ k) (fun _ => False) rfl rfl L1.out ?aR (fun _ _ h => h) (fun _ h => h.elim) (fun k hk => Nat.le_trans O1.out.size hk) O1.out.b (below_size O1.out.b) ?aL ?_
       case aR => exact Kd.C_below HR1.out O1.out.b
       case aL => have := HLa.out; simp only [List.length_nil, Nat.zero_add] at this ⊢; omega
       intro v2 w2 ho hB hg hat
       rw [List.nil_append] at ho
       have O2 := Aside0.mk (O1.out.grown hg L1.out.1)
       have P2 := Aside0.mk (Kd.S_after P1.out hg hat)
       obtain ⟨A2', c2', e2'⟩ := Kd.R_slice ho
       subst e2'
       have L2 := Aside0.mk ho
       clear ho hB hg hat L1 P1 O1
       refine hK.out _ _ ⟨(bk2_ (O2.out).h).1, (bk2_ (O2.out).h).2.1⟩ (fun hHeld => ?_)
       clear hK K
       refine nk_ 113 ?_
       refine on_ 5 (some 114) (bn_ 9 63) (fun K hK => ?_)
       refine value_ (w1 := ?_) (v := ?_) (by rfl) rfl ?_ ?_
       rotate_left 2
       ·go_simp; constructor
        ·rfl
        ·rfl
       refine hK.out _ _ ⟨(bk2_ ((O2.out.below (below_alloc (Below.refl _ _) _))).h).1, (bk2_ ((O2.out.below (below_alloc (Below.refl _ _) _))).h).2.1⟩ (fun hHeld => ?_)
       clear hK K
       refine nk_ 114 ?_
       have hap := Kd.R_apart' L2.out (Kd.S_typed P2.out) (by decide)
       have HAP := Aside0.mk hap
       clear hap
       refine on_ 6 (some 115) (bn_ 9 127) (fun K hK => ?_)
       refine Kd.S_append_step (W := w2) (Kd.slice 3 (Kd.int .i64)) (w0 := w) w.heap.size (by rfl) (.tmp 110) (.tmp 114) 22 45 (.slice none 0 0) 24 rfl Try.underlying22 info45 rfl (by decide) (by omega) vp ps l1 [.slice A2' l1.length c2'] (fun k => w31.heap.size ≤ k) (fun k => some k = (Value.slice A2' l1.length c2').ownBlock) rfl rfl (Kd.M_row (Kd.R_tight rfl HAP.out)) (fun k hk => HAP.out.1 k hk.symm) (fun k hk => Nat.le_trans O2.out.size hk) P2.out O2.out.b (below_size O2.out.b) ?aL ?_
       case aL => have := HLb.out; omega
       intro v3 w4 ho hB hg hat
       have O3 := Aside0.mk (O2.out.grown hg (fun k hk => ((Kd.S_R P2.out).1 k hk).1))
       have P3 := Aside0.mk ho
       obtain ⟨Ap, cp, ep⟩ := Kd.S_slice ho
       rw [List.length_append, List.length_cons, List.length_nil, Nat.zero_add] at ep
       subst ep
       clear ho hB hg hat L2 P2 O2 HAP
       refine hK.out _ _ ⟨(bk2_ (O3.out).h).1, (bk2_ (O3.out).h).2.1⟩ (fun hHeld => ?_)
       clear hK K
       refine nk_ 115 ?_
       refine pu_ 7 116 (bn_ 9 255) ?_
       refine last_ (i := 8) (N := none) #[true, true, true, true, true, true, true, true, true] rfl rfl (one_of HT_.out (by kernel_rfl)) (by decide) (fun K hK => ?_)
       have hz0 := (bk2_ O3.out.h).1
       have hz1 := (bk2_ O3.out.h).2.2.1
       refine skip_ (w1 := ?_) (by rfl) rfl ?_ ?_
       rotate_left
       ·go_simp; rfl
       refine hK.out _ _ ?_
       clear hK K
       refine dn_ ?_
       have O4 := Aside0.mk (O3.out.put0 (.slice Ap (ps.length + 1) cp))
       have P4 := Aside0.mk (O3.out.far P3.out 0 (.slice Ap (ps.length + 1) cp))
       clear O3 P3 hz0 hz1
       have F3 := Aside0.mk (F2.out.kept O4.out.b O4.out.k (Nat.ne_of_lt NE.out.1) (Nat.ne_of_lt NE.out.2))
       obtain ⟨y0, y1, _, _⟩ := bk2_ F3.out.h3
       generalize w4.setCell ⟨g16, 0, none⟩ (.slice Ap (ps.length + 1) cp) = w5 at O4 P4 F3 y0 y1 ⊢
       go_wp2_with (first | ((with_reducible refine gate_callee (f := 99) rfl ?_); refine gl_ 120 Try.func99 #[.slice A0_0 l0_0.length c0_0, .slice A1 l1.length c1] ?_; (with_reducible refine (spec_l05Set.calls k2 _ _ l0_0 _ _ l1 ins _ (Kd.C_below HR0_0.out O4.out.b) HC0_0.out (Kd.C_below HR1.out O4.out.b) HC1.out A1_.out).mono ?_); rintro e w6 ⟨vi, rfl, ho, hb⟩; refine ⟨_, rfl, ?_⟩; obtain ⟨Ai, ci, ei⟩ := Kd.R_slice ho; subst ei; have O6 := Aside0.mk (O4.out.below hb); have HI := Aside0.mk (Kd.R_mono (ok' := fun k => g16 < k) (Kd.R_bound ho) (fun k hk => by have := O4.out.lt; have := O4.out.size; have := hk.2.1; omega)); have HP6 := Aside0.mk (Kd.S_mono (ok' := fun k => g16 < k) (Kd.S_below P4.out hb) (fun k hk => Nat.lt_of_lt_of_le O4.out.lt hk)); have F6 := Aside0.mk (F3.out.below hb); clear y0 y1 ho hb A1_ O4 P4 F3))
       have HBe6 := Aside0.mk (O6.out.keepS HBe2.out (fun k hk => Nat.ne_of_lt hk))
       have HSt6 := Aside0.mk (O6.out.keepR HSt2.out (fun k hk => Nat.ne_of_lt hk))
       obtain ⟨Abe, cbe, ebe⟩ := Kd.S_slice HBe6.out
       subst ebe
       obtain ⟨Ast, cst, est⟩ := Kd.R_slice HSt6.out
       subst est
       have OI := Aside0.mk (⟨O6.out.b, Kept.refl _ _, O6.out.h, O6.out.n, O6.out.lt'⟩ : Ow w w6 w6 g16 (.slice Ap (ps.length + 1) cp) (.slice none 0 0))
       clear O6 HBe2 HSt2 F2
       go_loopg [19, 20] k2 (fun kq v19 v20 w' => ∃ (bs : List S123) (vb : Value) (ord j : Int), v19 = .int .i64 ord ∧ v20 = .int .i64 j ∧ Aside0 (spec_l06Add.l2 kq (l0_0.length : Int) x12 x13 ins ord j l0_0 l0_1 (ps ++ [l1]) bs = some (r1, r2, r3, r4)) ∧ Aside0 (kq ≤ k2) ∧ Aside0 (Ow w w6 w' g16 (.slice Ap (ps.length + 1) cp) vb) ∧ Aside0 (Kd.S k123 123 w' w.heap.size (fun k => w6.heap.size ≤ k) vb bs))
       case atStart => exact ⟨[], _, 0, 0, rfl, rfl, HH, ⟨Nat.le_refl _⟩, OI, ⟨Kd.S_nil _ _ _ _ _⟩⟩
       case round =>
        clear HH OI
        obtain ⟨bs, vb, ord, j, rfl, rfl, HA, HK3, O, HB⟩ := hrel
        cases gk with
        | zero => exact absurd HA.out (by simp [spec_l06Add.l2])
        | succ k3 =>
         have H := HA.out
         clear HA
         simp only [spec_l06Add.l2] at H
         have F7 := Aside0.mk (F6.out.kept O.out.b O.out.k (Nat.ne_of_lt NE.out.1) (Nat.ne_of_lt NE.out.2))
         obtain ⟨y0, y1, _, _⟩ := bk2_ F7.out.h3
         by_cases c99 : j ≤ (l0_1.length : Int)
         ·rw [if_pos c99] at H
          have c99b := decide_eq_true c99
          have HC := Aside0.mk H
          clear H
          go_upto_if 129 with (fail)
          clear F7 y0 y1
          go_cut [] (fun wc => ∃ (kq : Nat) (bs : List S123) (vb : Value), Aside0 (spec_l06Add.j3 kq (l0_0.length : Int) x12 x13 ins ord j l0_0 l0_1 (ps ++ [l1]) bs = some (r1, r2, r3, r4)) ∧ Aside0 (kq ≤ k3) ∧ Aside0 (Ow w w6 wc g16 (.slice Ap (ps.length + 1) cp) vb) ∧ Aside0 (Kd.S k123 123 wc w.heap.size (fun k => w6.heap.size ≤ k) vb bs))
          case first =>
           have H := HC.out
           clear HC
           by_cases c104 : j > 0
           ·rw [if_pos c104] at H
            have c104b := decide_eq_true c104
            first | rw [c104b] | skip
            obtain ⟨jj, hjj⟩ : ∃ j_ : Int, (wrap64 (j - 1)) = j_ := ⟨_, rfl⟩
            rw [hjj] at H
            have hjjw : (IntKind.i64.wrap (j - 1)) = jj := (i64_w _).trans hjj
            obtain ⟨c1', H⟩ := ifs_ H
            obtain ⟨c2', H⟩ := ifs_ H
            obtain ⟨y383, hy, H⟩ := bs_ H
            subst hy
            obtain ⟨c108, H⟩ := ifs_ H
            obtain ⟨y386, hy, H⟩ := bs_ H
            subst hy
            rw [List.nil_append] at H
            obtain ⟨c109, H⟩ := ifs_ H
            have HH := Aside0.mk H
            have HLa := Aside0.mk c108
            clear H c108 c104
            obtain ⟨ad, A3, c3, e3, x0, x1, x2, x3, hl, hi⟩ := at_T123 HR0_1.out jj c1' c2'
            cases e3
            have HI3 := Aside0.mk hi
            clear hl hi
            replace x0 := pw_cell_below O.out.b x0
            replace x1 := pw_cell_below O.out.b x1
            replace x2 := pw_cell_below O.out.b x2
            replace x3 := pw_cell_below O.out.b x3
            have F7 := Aside0.mk (F6.out.kept O.out.b O.out.k (Nat.ne_of_lt NE.out.1) (Nat.ne_of_lt NE.out.2))
            obtain ⟨y0, y1, _, _⟩ := bk2_ F7.out.h3
            have q1' := eq_true c1'
            have q2' := eq_true c2'
            obtain ⟨gt, ct, et, _⟩ := Kd.R_form HSt6.out (by omega)
            cases et
            go_upto_region 34 with (first | ((with_reducible refine gate_dst (N := 21) rfl ?_); refine be_ 21 #[.string (⟨#[]⟩ : ByteArray), .int .i64 0, .int .i64 0, .slice none 0 0] 123 ?_; intro gb hg wA hbox hb; have O1 := Aside0.mk (O.out.below hb); have S1 := Aside0.mk (Kd.S_below (Kd.S_elderB HB.out gb (Nat.le_of_eq hg.symm)) hb); have BB := Aside0.mk hbox; have GE := Aside0.mk (show w6.heap.size ≤ gb from by rw [hg]; exact O.out.size); obtain ⟨b0, b1, b2, b3, b4, b5, b6, b7⟩ := bk4_ hbox; clear O HB hbox hb hg x0 x1 x2 x3 y0 y1 F7) | ((with_reducible refine gate_dst (N := 136) rfl ?_); refine Kd.R_lit (Kd.int .i64) _ 3 ?hg (N := 136) ?hd (xs := ([] : List Int)) (inner := []) (ok := fun _ => True) (okp := fun _ => True) ?hr ?hp (fun _ hk => hk) trivial (Below.refl _ _) (Nat.le_refl _) (by simp) ?_; (case hd => rfl); (case hg => rfl); (case hr => first | (go_simp; done) | (go_simp; rfl)); (case hp => exact (Reps.none _ _)); intro v1 w9 ho hb hg_ hnew_; have C4 := (((O1.out.other GE.out 0 (.string (rd_T123 l0_1 jj).f0)).other GE.out 1 (.int .i64 (rd_T123 l0_1 jj).f1)).other GE.out 2 (.int .i64 (rd_T123 l0_1 jj).f2)).other GE.out 3 (.slice A3 (rd_T123 l0_1 jj).f3.length c3); have B4 := blk_put (blk_put (blk_put (blk_put BB.out 0 (.string (rd_T123 l0_1 jj).f0) rfl) 1 (.int .i64 (rd_T123 l0_1 jj).f1) rfl) 2 (.int .i64 (rd_T123 l0_1 jj).f2) rfl) 3 (.slice A3 (rd_T123 l0_1 jj).f3.length c3) rfl; have O2 := Aside0.mk (C4.below hb); have S2 := Aside0.mk (Kd.S_elder' (Kd.S_far (p := ⟨gb, 3, none⟩) (Kd.S_far (p := ⟨gb, 2, none⟩) (Kd.S_far (p := ⟨gb, 1, none⟩) (Kd.S_far (p := ⟨gb, 0, none⟩) S1.out (fun k hk => hk.2) (.string (rd_T123 l0_1 jj).f0)) (fun k hk => hk.2) (.int .i64 (rd_T123 l0_1 jj).f1)) (fun k hk => hk.2) (.int .i64 (rd_T123 l0_1 jj).f2)) (fun k hk => hk.2) (.slice A3 (rd_T123 l0_1 jj).f3.length c3)) (Kd.R_base ho) hb); have BB2 := Aside0.mk (blk_below B4 hb); have L2 := Aside0.mk (Kd.R_mono (ok' := fun k => w6.heap.size ≤ k ∧ k ≠ gb) (Kd.R_lower (Kd.R_bound ho) (below_size C4.b)) (fun k hk => ⟨Nat.le_trans C4.size hk.2.1, by have h1 := blk_lt B4; have h2 := hk.2.1; omega⟩)); obtain ⟨b0, b1, b2, b3, _, _, _, _⟩ := bk4_ BB2.out; clear O1 S1 BB C4 B4 ho hb hg_ hnew_) | ((with_reducible refine gate_builtin (b := .append) (xs := #[.tmp 136, .tmp 138]) rfl ?_); at_builtin; refine Kd.R_append_rows (Kd.int .i64) (w0 := w) w.heap.size rfl (.tmp 136) (.tmp 138) 45 3 (.int .i64 0) 8 rfl Try.underlying45 info3 rfl (by decide) (by omega) v1 [] (rd_T123 l0_1 jj).f3 _ _ _ (fun k => w6.heap.size ≤ k ∧ k ≠ gb) (fun _ => False) rfl rfl L2.out ?aR (fun _ _ h => h) (fun _ h => h.elim) ?aF O2.out.b (below_size O2.out.b) ?aL ?_; (case aR => exact Kd.C_below HI3.out O2.out.b); (case aF => exact fun k hk => ⟨Nat.le_trans O2.out.size hk, fun e => by have := blk_lt BB2.out; omega⟩); (case aL => have := HLa.out; simp only [List.length_nil, Nat.zero_add] at this ⊢; omega); intro v2 w10 ho hB hg hat; rw [List.nil_append] at ho; have O3 := Aside0.mk (O2.out.grown hg (fun k hk => (L2.out.1 k hk).1)); have S3 := Aside0.mk (Kd.S_after S2.out hg hat); have BB3 := Aside0.mk (blk_grown BB2.out hg (fun e => (L2.out.1 gb e.symm).2 rfl)); obtain ⟨Ad, cd, ed⟩ := Kd.R_slice ho; subst ed; have L3 := Aside0.mk ho; obtain ⟨b0, b1, b2, b3, b4, b5, b6, b7⟩ := bk4_ BB3.out; clear O2 S2 BB2 L2 ho hB hg hat))
            have O4 := Aside0.mk (O3.out.other GE.out 3 (.slice Ad (rd_T123 l0_1 jj).f3.length cd))
            have S4 := Aside0.mk (Kd.S_far (p := ⟨gb, 3, none⟩) S3.out (fun k hk => hk.1.2) (.slice Ad (rd_T123 l0_1 jj).f3.length cd))
            have BB4 := Aside0.mk (blk_put BB3.out 3 (.slice Ad (rd_T123 l0_1 jj).f3.length cd) rfl)
            have L4 := Aside0.mk (Kd.R_far (p := ⟨gb, 3, none⟩) L3.out (fun k hk => hk.2) (.slice Ad (rd_T123 l0_1 jj).f3.length cd))
            clear O3 S3 BB3 L3 b0 b1 b2 b3 b4 b5 b6 b7
            generalize w10.setCell ⟨gb, 3, none⟩ (.slice Ad (rd_T123 l0_1 jj).f3.length cd) = w11 at O4 S4 BB4 L4 ⊢
            go_cut [151] (fun v151 wc => ∃ (b : Bool), v151 = .bool b ∧ Aside0 ((if b = true then (if (rd_T123 l0_1 jj).f3.length < 17592186044416 then (if bs.length < 2513169434916 then spec_l06Add.j3 k3 (l0_0.length : Int) x12 x13 ins ord j l0_0 l0_1 (ps ++ [l1]) (bs ++ [(⟨(rd_T123 l0_1 jj).f0, (rd_T123 l0_1 jj).f1, (rd_T123 l0_1 jj).f2, (rd_T123 l0_1 jj).f3 ++ [(l0_0.length : Int)]⟩ : S123)]) else none) else none) else (if bs.length < 2513169434916 then spec_l06Add.j3 k3 (l0_0.length : Int) x12 x13 ins ord j l0_0 l0_1 (ps ++ [l1]) (bs ++ [(⟨(rd_T123 l0_1 jj).f0, (rd_T123 l0_1 jj).f1, (rd_T123 l0_1 jj).f2, (rd_T123 l0_1 jj).f3⟩ : S123)]) else none)) = some (r1, r2, r3, r4)) ∧ Aside0 (Ow w w6 wc g16 (.slice Ap (ps.length + 1) cp) vb) ∧ Aside0 (Kd.S k123 123 wc w.heap.size (fun k => (w6.heap.size ≤ k ∧ k ≠ gb) ∧ some k ≠ (Value.slice Ad (rd_T123 l0_1 jj).f3.length cd).ownBlock) vb bs) ∧ Aside0 (wc.heap[gb]? = some (.cells #[.string (rd_T123 l0_1 jj).f0, .int .i64 (rd_T123 l0_1 jj).f1, .int .i64 (rd_T123 l0_1 jj).f2, .slice Ad (rd_T123 l0_1 jj).f3.length cd] 123 (0, 0))) ∧ Aside0 (Kd.R (Kd.int .i64) 3 wc w.heap.size (fun k => w6.heap.size ≤ k ∧ k ≠ gb) (.slice Ad (rd_T123 l0_1 jj).f3.length cd) (rd_T123 l0_1 jj).f3))
            case first =>
             have xs := (Kd.R_celln false (O4.out.keepR HSt6.out (fun k hk => Nat.ne_of_lt hk)) jj c1' c109).1
             have q3' := eq_true c109
             obtain ⟨b0, b1, b2, b3, _, _, _, _⟩ := bk4_ BB4.out
             have H := HH.out
             clear HH
             obtain ⟨bq, hbq⟩ : ∃ b_ : Bool, b_ = rdOf false x13 jj := ⟨_, rfl⟩
             rw [← hbq] at H xs
             clear hbq
             cases bq with
             | true =>
              rw [if_pos rfl] at H
              have H' := Aside0.mk H
              clear H
              go_wp2
              go_meet
              case rel => exact ⟨false, rfl, H', O4, S4, BB4, L4⟩
             | false =>
              rw [if_neg (by decide)] at H
              obtain ⟨lv, h1, H⟩ := Option.bind_eq_some_iff.mp H
              have A1_ := Aside0.mk h1
              have H' := Aside0.mk H
              have HIw := Aside0.mk (O4.out.keepR HI.out (fun k hk => Nat.ne_of_gt hk))
              clear H h1
              go_wp2_with (first | (go_at_call 103; (with_reducible refine (spec_l06Live.calls k3 _ _ _ _ _ (rd_T123 l0_1 jj).f3 _ _ ins lv _ (Kd.R_reads' L4.out).2.2 (Kd.R_reads' L4.out).2.1 (Kd.R_reads' HIw.out).2.2 (Kd.R_reads' HIw.out).2.1 A1_.out).mono ?_); rintro e w12 ⟨rfl, hb⟩; have O5 := Aside0.mk (O4.out.below hb); have S5 := Aside0.mk (Kd.S_below S4.out hb); have BB5 := Aside0.mk (blk_below BB4.out hb); have L5 := Aside0.mk (Kd.R_below L4.out hb); clear O4 S4 BB4 L4 b0 b1 b2 b3 xs hb HIw))
              go_meet
              case rel => exact ⟨lv, rfl, H', O5, S5, BB5, L5⟩
            case rest =>
             clear HH O4 S4 BB4 L4
             obtain ⟨b, rfl, HA, O4, S4, BB4, L4⟩ := hcut
             go_upto_if 151 with (fail)
             go_cut [] (fun wc => ∃ (dl : List Int) (Ad : Option Addr) (cd : Nat), Aside0 ((if bs.length < 2513169434916 then spec_l06Add.j3 k3 (l0_0.length : Int) x12 x13 ins ord j l0_0 l0_1 (ps ++ [l1]) (bs ++ [(⟨(rd_T123 l0_1 jj).f0, (rd_T123 l0_1 jj).f1, (rd_T123 l0_1 jj).f2, dl⟩ : S123)]) else none) = some (r1, r2, r3, r4)) ∧ Aside0 (Ow w w6 wc g16 (.slice Ap (ps.length + 1) cp) vb) ∧ Aside0 (Kd.S k123 123 wc w.heap.size (fun k => (w6.heap.size ≤ k ∧ k ≠ gb) ∧ some k ≠ (Value.slice Ad dl.length cd).ownBlock) vb bs) ∧ Aside0 (wc.heap[gb]? = some (.cells #[.string (rd_T123 l0_1 jj).f0, .int .i64 (rd_T123 l0_1 jj).f1, .int .i64 (rd_T123 l0_1 jj).f2, .slice Ad dl.length cd] 123 (0, 0))) ∧ Aside0 (Kd.R (Kd.int .i64) 3 wc w.heap.size (fun k => w6.heap.size ≤ k ∧ k ≠ gb) (.slice Ad dl.length cd) dl))
             case first =>
              have H := HA.out
              clear HA
              cases b with
              | true =>
               rw [if_pos rfl] at H
               obtain ⟨c137, H⟩ := ifs_ H
               have H' := Aside0.mk H
               have HLb := Aside0.mk c137
               clear H c137
               obtain ⟨b0, b1, b2, b3, b4, b5, b6, b7⟩ := bk4_ BB4.out
               go_wp2_with (first | ((with_reducible refine gate_builtin (b := .append) (xs := #[.tmp 153, .tmp 155]) rfl ?_); at_builtin; refine Kd.R_append (Kd.int .i64) (w0 := w) w.heap.size rfl (.tmp 153) (.tmp 155) 45 3 (.int .i64 0) 8 rfl Try.underlying45 info3 rfl (by decide) (by omega) (.slice Ad (rd_T123 l0_1 jj).f3.length cd) (rd_T123 l0_1 jj).f3 (l0_0.length : Int) [.int .i64 (l0_0.length : Int)] (fun k => w6.heap.size ≤ k ∧ k ≠ gb) (fun _ => False) rfl rfl ?aP (fun _ hk => hk.elim) ?aF L4.out O4.out.b (below_size O4.out.b) ?aL ?_; (case aP => exact rfl); (case aF => exact fun k hk => ⟨Nat.le_trans O4.out.size hk, fun e => by have := blk_lt BB4.out; omega⟩); (case aL => have := HLb.out; omega); intro v2 w14 ho hB hg hat; have O5 := Aside0.mk (O4.out.grown hg (fun k hk => (L4.out.1 k hk).1)); have S5 := Aside0.mk (Kd.S_after S4.out hg hat); have BB5 := Aside0.mk (blk_grown BB4.out hg (fun e => (L4.out.1 gb e.symm).2 rfl)); obtain ⟨Ae, ce, ee⟩ := Kd.R_slice ho; rw [List.length_append, List.length_cons, List.length_nil, Nat.zero_add] at ee; subst ee; have L5 := Aside0.mk ho; obtain ⟨b0, b1, b2, b3, b4, b5, b6, b7⟩ := bk4_ BB5.out; clear O4 S4 BB4 L4 ho hB hg hat))
               go_meet
               have e1 : ((rd_T123 l0_1 jj).f3 ++ [(l0_0.length : Int)]).length = (rd_T123 l0_1 jj).f3.length + 1 := by rw [List.length_append]; rfl
               case rel =>
                refine ⟨(rd_T123 l0_1 jj).f3 ++ [(l0_0.length : Int)], Ae, ce, H', ⟨O5.out.other GE.out 3 _⟩, ?_, ?_, ?_⟩
                ·rw [e1]; exact ⟨Kd.S_far (p := ⟨gb, 3, none⟩) S5.out (fun k hk => hk.1.2) _⟩
                ·rw [e1]; exact ⟨blk_put BB5.out 3 _ rfl⟩
                ·rw [e1]; exact ⟨Kd.R_far (p := ⟨gb, 3, none⟩) L5.out (fun k hk => hk.2) _⟩
              | false =>
               rw [if_neg (by decide)] at H
               have H' := Aside0.mk H
               clear H
               go_wp2
               go_meet
               case rel => exact ⟨_, _, _, H', O4, S4, BB4, L4⟩
             case rest =>
              clear HA O4 S4 BB4 L4
              obtain ⟨dl, Ad, cd, HA, O4, S4, BB4, L4⟩ := hcut
              have H := HA.out
              clear HA
              obtain ⟨c112, H⟩ := ifs_ H
              have H' := Aside0.mk H
              have HLb := Aside0.mk c112
              clear H c112
              obtain ⟨z0, z1, z2, z3⟩ := bk2_ O4.out.h
              obtain ⟨b0, b1, b2, b3, b4, b5, b6, b7⟩ := bk4_ BB4.out
              have HAP := Aside0.mk (Kd.R_apart' L4.out (Kd.S_typed S4.out) (by decide))
              go_wp2_with (first | ((with_reducible refine gate_builtin (b := .append) (xs := #[.tmp 159, .tmp 161]) rfl ?_); at_builtin; refine Kd.S_append k123 (w0 := w) w.heap.size rfl (.tmp 159) (.tmp 161) 30 123 (.agg #[(.string ⟨#[]⟩), (.int .i64 0), (.int .i64 0), (.slice none 0 0)]) 56 rfl Try.underlying30 info123 rfl (by decide) (by omega) vb bs (⟨(rd_T123 l0_1 jj).f0, (rd_T123 l0_1 jj).f1, (rd_T123 l0_1 jj).f2, dl⟩ : S123) [.string (rd_T123 l0_1 jj).f0, .int .i64 (rd_T123 l0_1 jj).f1, .int .i64 (rd_T123 l0_1 jj).f2, .slice Ad dl.length cd] (fun k => w6.heap.size ≤ k) (fun k => some k = (Value.slice Ad dl.length cd).ownBlock) rfl rfl (k123_mkM _ _ _ (⟨(rd_T123 l0_1 jj).f0, (rd_T123 l0_1 jj).f1, (rd_T123 l0_1 jj).f2, dl⟩ : S123) (Kd.R_tight rfl HAP.out)) (fun k hk => ⟨(HAP.out.1 k hk.symm).1.1, (HAP.out.1 k hk.symm).2⟩) (fun k hk => Nat.le_trans O4.out.size hk) (Kd.S_mono S4.out (fun k hk => ⟨hk.1.1, hk.2⟩)) O4.out.b (below_size O4.out.b) ?aL ?_; (case aL => have := HLb.out; omega); intro v3 w16 ho hB hg hat; have O5 := Aside0.mk (O4.out.grown hg (fun k hk => ((Kd.S_R S4.out).1 k hk).1.1)); have S5 := Aside0.mk ho; obtain ⟨A9, c9, e9⟩ := Kd.S_slice ho; rw [List.length_append, List.length_cons, List.length_nil, Nat.zero_add] at e9; subst e9; obtain ⟨z0, z1, z2, z3⟩ := bk2_ O5.out.h; clear O4 S4 BB4 L4 HAP ho hB hg hat b0 b1 b2 b3 b4 b5 b6 b7))
              go_meet
              case rel => exact ⟨_, _, _, H', ⟨Nat.le_refl _⟩, ⟨O5.out.put1 _⟩, ⟨O5.out.far S5.out 1 _⟩⟩
           ·rw [if_neg c104] at H
            have c104b := decide_eq_false c104
            first | rw [c104b] | skip
            have H' := Aside0.mk H
            clear H
            go_wp2
            go_meet
            case rel => exact ⟨_, _, _, H', ⟨Nat.le_refl _⟩, O, HB⟩
          case rest =>
           clear HC O HB
           obtain ⟨kq, bs, vb, HA, HJ, O, HB⟩ := hcut
           cases kq with
           | zero => exact absurd HA.out (by simp [spec_l06Add.j3])
           | succ kj =>
            have H := HA.out
            clear HA
            simp only [spec_l06Add.j3] at H
            have HH := Aside0.mk H
            clear H
            go_wp2
            go_loopg [19, 22] kj (fun kq v19 v22 w' => ∃ (bs : List S123) (vb : Value) (ord m : Int), v19 = .int .i64 ord ∧ v22 = .int .i64 m ∧ Aside0 (spec_l06Add.l3 kq (l0_0.length : Int) x12 x13 ins ord j m l0_0 l0_1 (ps ++ [l1]) bs = some (r1, r2, r3, r4)) ∧ Aside0 (kq ≤ kj) ∧ Aside0 (Ow w w6 w' g16 (.slice Ap (ps.length + 1) cp) vb) ∧ Aside0 (Kd.S k123 123 w' w.heap.size (fun k => w6.heap.size ≤ k) vb bs))
            case atStart => exact ⟨_, _, ord, 0, rfl, rfl, HH, ⟨Nat.le_refl _⟩, O, HB⟩
            case round =>
             clear HH O HB
             obtain ⟨bs, vb, ord, m, rfl, rfl, HA, HK5, O, HB⟩ := hrel
             cases gk with
             | zero => exact absurd HA.out (by simp [spec_l06Add.l3])
             | succ k5 =>
              have H := HA.out
              clear HA
              simp only [spec_l06Add.l3] at H
              obtain ⟨d1, H⟩ := ifs_ H
              obtain ⟨d2, H⟩ := ifs_ H
              have qd1 := eq_true d1
              have qd2 := eq_true d2
              have HBw := O.out.keepS HBe6.out (fun k hk => Nat.ne_of_lt hk)
              obtain ⟨ab, A4, c4, e4, x4, l4, i4⟩ := at_L7 (Kd.S_reads' HBw).2.2 j d1 d2
              cases e4
              by_cases c193 : m < ((rd_L7 x12 j).length : Int)
              ·rw [if_pos c193] at H
               have c193b := decide_eq_true c193
               obtain ⟨c194, H⟩ := ifs_ H
               obtain ⟨c195, H⟩ := ifs_ H
               have HH := Aside0.mk H
               have HLa := Aside0.mk c195
               have q194 := eq_true c194
               have q193 := eq_true c193
               obtain ⟨al, el, sl⟩ := Kd.at_string i4 m c194 c193
               cases el
               clear H c195 HBw l4 i4
               go_upto_region 40 with (fail)
               have OD := Aside0.mk O.out.drew
               have SD := Aside0.mk (Kd.S_drew HB.out)
               obtain ⟨z0, z1, z2, z3⟩ := bk2_ OD.out.h
               have x4' := pw_cell_below (below_drew1 (Below.refl wr.heap.size wr)) x4
               have sl' := pw_cell_below (below_drew1 (Below.refl wr.heap.size wr)) sl
               clear O HB x4 sl
               refine start_ (n := 16) (S := fun w' => w'.cell? ⟨g16, 0, none⟩ = some (.slice Ap (ps.length + 1) cp) ∧ w'.cell? ⟨g16, 1, none⟩ = some vb ∧ w'.cell? (ab.add j.toNat) = some (.slice (some al) (rd_L7 x12 j).length c4) ∧ w'.cell? (al.add m.toNat) = some (.string (rdOf ByteArray.empty (rd_L7 x12 j) m))) (ds := [13, 15]) _ (by kernel_rfl) rfl rfl ⟨z0, z1, x4', sl'⟩ (fun hHeld => ?_)
               refine with_tabW spec_l06Add.tab40 spec_l06Add.bits40 (fun HT_ HW_ => ?_)
               generalize wr.drew = wD at OD SD z0 z1 z2 z3 x4' sl' hHeld ⊢
               refine pu_ 0 173 (bn_ 16 1) ?_; refine pu_ 2 175 (bn_ 16 5) ?_; refine pu_ 3 176 (bn_ 16 13) ?_; refine pu_ 4 177 (bn_ 16 29) ?_; refine pu_ 6 179 (bn_ 16 93) ?_; refine pu_ 9 182 (bn_ 16 605) ?_; refine pu_ 10 183 (bn_ 16 1629) ?_; refine tk4_ 1 174 (bn_ 16 1631) ?_; refine tk4_ 5 178 (bn_ 16 1663) ?_; refine pu_ 7 180 (bn_ 16 1791) ?_; refine tk4_ 8 181 (bn_ 16 2047) ?_; refine pu_ 11 184 (bn_ 16 4095) ?_
               refine on_ 12 (some 185) (bn_ 16 8191) (fun K hK => ?_)
               refine value_ (w1 := ?_) (v := ?_) (by rfl) rfl ?_ ?_
               rotate_left 2
               ·go_simp; constructor
                ·rfl
                ·rfl
               refine hK.out _ _ ⟨pw_cell_below (below_alloc (Below.refl _ _) _) z0, pw_cell_below (below_alloc (Below.refl _ _) _) z1, pw_cell_below (below_alloc (Below.refl _ _) _) x4', pw_cell_below (below_alloc (Below.refl _ _) _) sl'⟩ (fun hHeld => ?_)
               clear hK K z0 z1 z2 z3 x4' sl'
               refine nk_ 185 ?_
               refine last_ (i := 13) (N := some 186) #[true, true, true, true, true, true, true, true, true, true, true, true, true, true, false, false] rfl rfl (one_of HT_.out (by kernel_rfl)) (by decide) (fun K hK => ?_)
               refine Kd.S_append_step (W := wD) k123 (w0 := w) w.heap.size (by rfl) (.tmp 174) (.tmp 185) 30 123 (.agg #[(.string ⟨#[]⟩), (.int .i64 0), (.int .i64 0), (.slice none 0 0)]) 56 rfl Try.underlying30 info123 rfl (by decide) (by omega) vb bs (⟨rdOf ByteArray.empty (rd_L7 x12 j) m, (l0_0.length : Int), ord, ([] : List Int)⟩ : S123) [.string (rdOf ByteArray.empty (rd_L7 x12 j) m), .int .i64 (l0_0.length : Int), .int .i64 ord, .slice none 0 0] (fun k => w6.heap.size ≤ k) (fun _ => False) rfl rfl (k123_mkM _ _ _ (⟨rdOf ByteArray.empty (rd_L7 x12 j) m, (l0_0.length : Int), ord, ([] : List Int)⟩ : S123) (Kd.R_nil _ _ _ _ _)) (fun k hk => hk.elim) (fun k hk => Nat.le_trans OD.out.size hk) (Kd.S_mono SD.out (fun k hk => ⟨hk, fun e => e⟩)) OD.out.b (below_size OD.out.b) ?aL ?_
               case aL => have := HLa.out; omega
               intro v3 w9 ho hB hg hat
               have O3 := Aside0.mk (OD.out.grown hg (fun k hk => (Kd.S_R SD.out).1 k hk))
               have S3 := Aside0.mk ho
               obtain ⟨A9, c9, e9⟩ := Kd.S_slice ho
               rw [List.length_append, List.length_cons, List.length_nil, Nat.zero_add] at e9
               subst e9
               clear ho hB hg hat OD SD
               refine hK.out _ _ ?_
               clear hK K
               refine nk_ 186 ?_
               refine pu_ 14 187 (bn_ 16 32767) ?_
               refine last_ (i := 15) (N := none) #[true, true, true, true, true, true, true, true, true, true, true, true, true, true, true, true] rfl rfl (one_of HT_.out (by kernel_rfl)) (by decide) (fun K hK => ?_)
               have hz0 := (bk2_ O3.out.h).2.1
               have hz1 := (bk2_ O3.out.h).2.2.2
               refine skip_ (w1 := ?_) (by rfl) rfl ?_ ?_
               rotate_left
               ·go_simp; rfl
               refine hK.out _ _ ?_
               clear hK K
               refine dn_ ?_
               have O4 := Aside0.mk (O3.out.put1 (.slice A9 (bs.length + 1) c9))
               have S4 := Aside0.mk (O3.out.far S3.out 1 (.slice A9 (bs.length + 1) c9))
               clear O3 S3 hz0 hz1
               go_wp2
               go_roundg k5
               case measure => have := HK1.out; have := HK2.out; have := HK3.out; have := HJ.out; have := HK5.out; omega
               case rel => exact ⟨_, _, wrap64 (ord + 1), wrap64 (m + 1), rfl, rfl, HH, ⟨by have := HK5.out; omega⟩, O4, S4⟩
              ·rw [if_neg c193] at H
               have c193b := decide_eq_false c193
               have HH := Aside0.mk H
               clear H HBw l4 i4
               go_wp2
               go_roundg k5
               case measure => have := HK1.out; have := HK2.out; have := HK3.out; have := HJ.out; have := HK5.out; omega
               case rel => exact ⟨_, _, ord, wrap64 (j + 1), rfl, rfl, HH, ⟨by have := HK3.out; have := HJ.out; have := HK5.out; omega⟩, O, HB⟩
         ·rw [if_neg c99] at H
          have c99b := decide_eq_false c99
          obtain ⟨Ab, cb, eb⟩ := Kd.S_slice HB.out
          subst eb
          obtain ⟨z0, z1, z2, z3⟩ := bk2_ O.out.h
          obtain ⟨u0, u1, u2, u3⟩ := bk2_ F7.out.h6
          by_cases c202 : (bs.length : Int) > 300
          ·rw [if_pos c202] at H
           have c202b : decide ((bs.length : Int) > 300) = true := decide_eq_true c202
           have c202c : decide (300 < bs.length) = true := decide_eq_true (by omega)
           simp only [Option.some.injEq, Prod.mk.injEq] at H
           obtain ⟨rfl, rfl, rfl, rfl⟩ := H
           go_wp2
           refine bodyPost_ret (results_ctt rfl _ _ gb6 32 #[.slice none 0 0, .slice none 0 0] (0, 0) _ rfl (F7.out.out _ _).1 Try.underlying32 rfl (by kernel_rfl)) rfl ?_
           exact ⟨_, _, rfl, Kd.S_nil _ _ _ _ _, Kd.S_nil _ _ _ _ _, (F7.out.out _ _).2⟩
          ·rw [if_neg c202] at H
           have c202b : decide ((bs.length : Int) > 300) = false := decide_eq_false c202
           have c202c : decide (300 < bs.length) = false := decide_eq_false (by omega)
           simp only [Option.some.injEq, Prod.mk.injEq] at H
           obtain ⟨rfl, rfl, rfl, rfl⟩ := H
           go_wp2
           refine bodyPost_ret (results_ctt rfl _ _ gb6 32 #[.slice Ap (ps.length + 1) cp, .slice Ab bs.length cb] (0, 0) _ rfl (F7.out.out _ _).1 Try.underlying32 rfl (by kernel_rfl)) rfl ?_
           refine ⟨_, _, rfl, Kd.S_mono (Kd.S_far (p := ⟨gb6, 1, none⟩) (Kd.S_far (p := ⟨gb6, 0, none⟩) (O.out.keepS HP6.out (fun k hk => Nat.ne_of_gt hk)) (fun k hk => ?_) _) (fun k hk => ?_) _) (fun _ _ => trivial), Kd.S_mono (Kd.S_far (p := ⟨gb6, 1, none⟩) (Kd.S_far (p := ⟨gb6, 0, none⟩) HB.out (fun k hk => ?_) _) (fun k hk => ?_) _) (fun _ _ => trivial), (F7.out.out _ _).2⟩
           all_goals
            have h1 := NE.out.2
            have h2 := O.out.lt
            intro e
            simp only at e
            omega
end Go.Proofs.Ytmodgiingohphaa.PFnTop
