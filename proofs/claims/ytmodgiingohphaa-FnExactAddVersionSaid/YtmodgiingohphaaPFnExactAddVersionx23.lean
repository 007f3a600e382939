-- Made by a program (the kit's print with additions of this session: wip/tools/patch_print.py, ext.py).
-- (turned)
import Derived.Test.YtmodgiingohphaaPFnExactAddVersionx20
import Derived.Test.YtmodgiingohphaaPFnExactAddVersionx22
namespace Go.Proofs.Ytmodgiingohphaa.PFnExactAddVersion
open Go.RowKit Go.Proofs.YtmodgiingohphaaW.PrintWords Go.Proofs.YtmodgiingohphaaW.PrintLast Go.Proofs.YtmodgiingohphaaW.PrintMore
attribute [local go_sem] max2_int min2_int max_two min_two max_three min_three max_four min_four   -- for this text's walks alone
set_option linter.unusedVariables false
set_option linter.unusedSimpArgs false

/-! ### laws_FnExactAddVersion: function 6 -/
/-- A row marked from a on. -/
def kMarks : Int → List Int → List Int
 | _, [] => []
 | a, _ :: l => a :: kMarks (a + 1) l
theorem kMarks_length (a : Int) (l : List Int) : (kMarks a l).length = l.length := by
 induction l generalizing a with
 | nil => rfl
 | cons x l ih => simp [kMarks, ih]
/-- Marked up to i. -/
def marksTo (a : Int) (l : List Int) (i : Nat) : List Int := kMarks a (l.take i) ++ l.drop i
theorem marksTo_length (a : Int) (l : List Int) (i : Nat) : (marksTo a l i).length = l.length := by
 simp [marksTo, kMarks_length]; omega
theorem marksTo_set (a : Int) (l : List Int) (i : Nat) (hi : i < l.length) : (marksTo a l i).set i (a + i) = marksTo a l (i + 1) := by
 induction l generalizing a i with
 | nil => simp at hi
 | cons x l ih =>
  cases i with
  | zero => simp [marksTo, kMarks]
  | succ i =>
   have := ih (a + 1) i (by simpa using hi)
   simp only [marksTo, List.take_succ_cons, kMarks, List.drop_succ_cons, List.cons_append, List.set_cons_succ] at this ⊢
   rw [show a + ((i + 1 : Nat) : Int) = a + 1 + (i : Int) by omega, this]
theorem marksTo_all (a : Int) (l : List Int) : marksTo a l l.length = kMarks a l := by simp [marksTo]
set_option maxHeartbeats 8000000 in
set_option maxRecDepth 100000 in
theorem markRow (base : Nat) (ok : Nat → Prop) (v : Value) (l : List Int) (a1 : Int) (h0 : 0 ≤ a1) (hb : a1 + l.length ≤ 4611686018427387904) (w : World) (hr : Kd.R (Kd.int .i64) 3 w base ok v l) :
  Calls Try.prog 28 #[v, .int .i64 a1] w fun e w' => e = .returned (.int .i64 (a1 + l.length)) ∧ Kd.R (Kd.int .i64) 3 w' base ok v (kMarks a1 l) ∧ w.grownBy w' v.ownBlock := by
 obtain ⟨A, c, ev⟩ := Kd.R_slice hr
 subst ev
 have HR := Aside0.mk hr
 clear hr
 go_enter Try.func28, Try.ntmps28
 go_wp2
 go_loopg [1, 5] l.length (fun kq v1 v5 w' => ∃ i : Nat, i + kq = l.length ∧ v1 = .int .i64 (a1 + i) ∧ v5 = .int .i64 i ∧ Aside0 (Kd.R (Kd.int .i64) 3 w' base ok (.slice A l.length c) (marksTo a1 l i)) ∧ Aside0 (w.grownBy w' (Value.slice A l.length c).ownBlock))
 case atStart => exact ⟨0, by omega, by simp, by simp, ⟨by simpa [marksTo, kMarks] using HR.out⟩, ⟨grown_of_below (Below.refl _ _) _⟩⟩
 case round =>
  obtain ⟨i, hi, rfl, rfl, HJ, HG⟩ := hrel
  cases gk with
  | zero =>
   have hlt : ¬ (i < l.length) := by omega
   obtain rfl : i = l.length := by omega
   go_wp2
   go_ret
   exact ⟨by first | rfl | (simp; done), by rw [← marksTo_all]; exact HJ.out, HG.out⟩
  | succ k1 =>
   have hlt : i < l.length := by omega
   have hl := marksTo_length a1 l i
   obtain ⟨g, c', eg, _, _, _⟩ := Kd.R_form HJ.out (by omega)
   rw [hl] at eg
   cases eg
   have HJ' := HJ.out
   obtain ⟨hc, hf⟩ := Kd.R_celln (0 : Int) HJ' (i : Int) (by omega) (by omega)
   obtain ⟨hp, hg⟩ := Kd.R_putg HJ' (i : Int) (a1 + i)
   rw [Int.toNat_natCast, marksTo_set a1 l i hlt] at hp
   rw [Int.toNat_natCast] at hc hf hg
   have HN := Aside0.mk hp
   have HN2 := Aside0.mk hg
   clear hp hg HJ'
   go_wp2
   go_roundg k1
   case measure => omega
   case rel => exact ⟨i + 1, by omega, by go_num, by go_num, HN, ⟨HG.out.trans HN2.out⟩⟩
def lensL : List (List Int) → Nat
 | [] => 0
 | r :: l => r.length + lensL l
def marksLL : Int → List (List Int) → List (List Int)
 | _, [] => []
 | a, r :: l => kMarks a r :: marksLL (a + r.length) l
def marksLLTo (a : Int) (l : List (List Int)) (i : Nat) : List (List Int) := marksLL a (l.take i) ++ l.drop i
theorem marksLL_length (a : Int) (l : List (List Int)) : (marksLL a l).length = l.length := by
 induction l generalizing a with
 | nil => rfl
 | cons x l ih => simp [marksLL, ih]
theorem marksLLTo_length (a : Int) (l : List (List Int)) (i : Nat) : (marksLLTo a l i).length = l.length := by
 simp [marksLLTo, marksLL_length]; omega
theorem marksLLTo_get (a : Int) (l : List (List Int)) (i : Nat) (hi : i < l.length) : (marksLLTo a l i).getD i [] = l.getD i [] := by
 have hm : (marksLL a (l.take i)).length = i := by rw [marksLL_length, List.length_take]; omega
 unfold marksLLTo
 rw [List.getD_eq_getElem?_getD, List.getElem?_append_right (by omega), hm, List.getElem?_drop, List.getD_eq_getElem?_getD]
 simp
theorem lensL_take (l : List (List Int)) (i : Nat) (hi : i < l.length) : lensL (l.take (i + 1)) = lensL (l.take i) + (l.getD i []).length := by
 induction l generalizing i with
 | nil => simp at hi
 | cons x l ih =>
  cases i with
  | zero => simp [lensL]
  | succ i => have := ih i (by simpa using hi); simp only [List.take_succ_cons, lensL, List.getD_cons_succ] at this ⊢; omega
theorem lensL_le (l : List (List Int)) (i : Nat) : lensL (l.take i) ≤ lensL l := by
 induction l generalizing i with
 | nil => simp
 | cons x l ih =>
  cases i with
  | zero => simp [lensL]
  | succ i => have := ih i; simp only [List.take_succ_cons, lensL]; omega
theorem marksLLTo_set (a : Int) (l : List (List Int)) (i : Nat) (hi : i < l.length) : (marksLLTo a l i).set i (kMarks (a + lensL (l.take i)) (l.getD i [])) = marksLLTo a l (i + 1) := by
 induction l generalizing a i with
 | nil => simp at hi
 | cons x l ih =>
  cases i with
  | zero => simp [marksLLTo, marksLL, lensL]
  | succ i =>
   have := ih (a + x.length) i (by simpa using hi)
   simp only [marksLLTo, List.take_succ_cons, marksLL, List.drop_succ_cons, List.cons_append, List.set_cons_succ, lensL, List.getD_cons_succ] at this ⊢
   rw [show a + ((x.length + lensL (l.take i) : Nat) : Int) = a + x.length + (lensL (l.take i) : Int) by omega, this]
set_option maxHeartbeats 8000000 in
set_option maxRecDepth 100000 in
theorem markRows (base : Nat) (ok : Nat → Prop) (v : Value) (l : List (List Int)) (a1 : Int) (h0 : 0 ≤ a1) (hb : a1 + lensL l ≤ 4611686018427387904) (w0 w : World) (hbase : base = w0.heap.size) (hB : Below w0.heap.size w0 w) (hr : Kd.S (Kd.slice 3 (Kd.int .i64)) 45 w base ok v l) :
  Calls Try.prog 53 #[v, .int .i64 a1] w fun e w' => e = .returned (.int .i64 (a1 + lensL l)) ∧ Kd.S (Kd.slice 3 (Kd.int .i64)) 45 w' base ok v (marksLL a1 l) ∧ Below w0.heap.size w0 w' ∧ Kept w w' ok := by
 obtain ⟨A, c, ev⟩ := Kd.S_slice hr
 subst ev
 subst hbase
 have HR := Aside0.mk hr
 have HB := Aside0.mk hB
 clear hr hB
 go_enter Try.func53, Try.ntmps53
 go_wp2
 go_loopg [1, 5] l.length (fun kq v1 v5 w' => ∃ i : Nat, i + kq = l.length ∧ v1 = .int .i64 (a1 + lensL (l.take i)) ∧ v5 = .int .i64 i ∧ Aside0 (Kd.S (Kd.slice 3 (Kd.int .i64)) 45 w' w0.heap.size ok (.slice A l.length c) (marksLLTo a1 l i)) ∧ Aside0 (Below w0.heap.size w0 w') ∧ Aside0 (Kept w w' ok))
 case atStart => exact ⟨0, by omega, by simp [lensL], by simp, ⟨by simpa [marksLLTo, marksLL] using HR.out⟩, HB, ⟨Kept.refl _ _⟩⟩
 case round =>
  obtain ⟨i, hi, rfl, rfl, HJ, HBJ, HKJ⟩ := hrel
  have hle := lensL_le l i
  cases gk with
  | zero =>
   have hlt : ¬ (i < l.length) := by omega
   obtain rfl : i = l.length := by omega
   have E0 := Aside0.mk (List.take_length (l := l))
   go_wp2
   go_ret
   exact ⟨by first | rfl | (rw [E0.out]; rfl) | (simp; done), by have := HJ.out; simpa [marksLLTo] using this, HBJ.out, HKJ.out⟩
  | succ k1 =>
   have hlt : i < l.length := by omega
   have hl := marksLLTo_length a1 l i
   have hmax := Kd.C_max (Kd.S_reads' HJ.out).2.2
   rw [hl] at hmax
   obtain ⟨g, c', eg, _, _, _⟩ := Kd.S_form HJ.out (by omega)
   rw [hl] at eg
   cases eg
   obtain ⟨oki, cc, hcl, hM, hcell, hoki, hH⟩ := Kd.S_lend HJ.out [] (i : Int) (by omega) (by omega)
   obtain ⟨vi, rfl, hRi⟩ := hM
   rw [Int.toNat_natCast, marksLLTo_get a1 l i hlt] at hRi
   have hc : wr.cell? ⟨g, i, none⟩ = some vi := by have := hcell 0 vi rfl; simpa [Kd.slice] using this
   have hls := lensL_take l i hlt
   have hset := marksLLTo_set a1 l i hlt
   generalize l.getD i [] = row at hRi hls hset
   have hle2 := lensL_le l (i + 1)
   have HST := Aside0.mk hls
   have HSE := Aside0.mk hset
   clear hset
   have HCA := Aside0.mk (markRow w0.heap.size oki vi row (a1 + lensL (l.take i)) (by omega) (by omega) wr hRi)
   have HRI := Aside0.mk hRi
   have HHH := Aside0.mk hH
   have HOK := Aside0.mk hoki
   clear hcell hRi hH hoki hls hcl
   go_wp2_with (go_at_call 28; refine HCA.out.mono ?_; rintro e w' ⟨rfl, hr1, hg1⟩; have hk1 := HRI.out.1; have hS1 := Kd.H_back (x' := kMarks (a1 + lensL (l.take i)) row) (Kd.H_grown HHH.out hg1 (fun k hk => hk1 k hk)) ⟨vi, rfl, hr1⟩ (fun _ h => h); rw [Int.toNat_natCast, HSE.out] at hS1; have HN := Aside0.mk hS1; have HNB := Aside0.mk (pw_below_grown HBJ.out _ (below_size HBJ.out) hg1 (fun k hk => Kd.R_base HRI.out k hk)); have HNK := Aside0.mk (HKJ.out.then_ ⟨hg1.size, fun k hk hn => hg1.block k hk (fun e => hn ((HOK.out k (hk1 k e.symm)).1))⟩ (fun _ h2 => .inl h2)); clear hr1 hg1 hS1 hk1)
   go_roundg k1
   case measure => omega
   case rel => exact ⟨i + 1, by omega, by rw [HST.out]; go_num, by go_num, HN, HNB, HNK⟩
/-! rows of bodies marked, told with their new contents -/
def txtOf (x : Int) : ByteArray := (laws_markText.f 64 x).getD ByteArray.empty
theorem txt_ev : ∀ (f : Nat) (x : Int) (t : ByteArray), 0 ≤ x → x ≤ 4611686018427387904 → x < 2 ^ f → t.size + f ≤ 1000 → ∃ r, laws_markText.l0 (f + 1) x t = some r
 | 0, x, t, h0, h3, h1, h2 => by
  have h1' : x < 1 := h1
  exact ⟨_, by rw [laws_markText.l0, if_neg (by omega), if_pos (by omega)]⟩
 | f + 1, x, t, h0, h3, h1, h2 => by
  by_cases c : x > 0
  ·have hz : (strOfNums [(wrap64 (48 + (Int.tmod x 10))) % 256]).size = 1 := by rw [strOfNums_size]; rfl
   have e : wrap64 (Int.tdiv x 10) = x / 10 := by
    rw [Int.tdiv_eq_ediv_of_nonneg h0]
    unfold wrap64
    omega
   have hp : x / 10 < 2 ^ f := by
    rw [Int.pow_succ] at h1
    generalize (2 : Int) ^ f = q at h1 ⊢
    omega
   obtain ⟨r, hr⟩ := txt_ev f (x / 10) (strOfNums [(wrap64 (48 + (Int.tmod x 10))) % 256] ++ t) (by omega) (by omega) hp (by rw [ByteArray.size_append, hz]; omega)
   refine ⟨r, ?_⟩
   rw [laws_markText.l0, if_pos c, Option.bind_some, if_pos (by rw [hz]; omega), e]
   exact hr
  ·exact ⟨_, by rw [laws_markText.l0, if_neg c, if_pos (by omega)]⟩
theorem txt_some (x : Int) (h0 : 0 ≤ x) (h3 : x ≤ 4611686018427387904) : laws_markText.f 64 x = some (txtOf x) := by
 have : ∃ r, laws_markText.f 64 x = some r := by
  unfold laws_markText.f
  by_cases c : x ≤ 0
  ·exact ⟨_, by rw [if_pos c]⟩
  ·rw [if_neg c]
   exact txt_ev 63 x _ h0 h3 (by have : (2 : Int) ^ 63 = 9223372036854775808 := (by decide); omega) (by decide)
 obtain ⟨r, hr⟩ := this
 rw [txtOf, hr, Option.getD_some]
def markB (a : Int) (b : S123) : S123 := ⟨txtOf a, a + 1, a + 1 + 1, kMarks (a + 1 + 1 + 1) b.f3⟩
def lenB : List S123 → Nat
 | [] => 0
 | b :: l => (b.f3.length + 3) + lenB l
def marksBB : Int → List S123 → List S123
 | _, [] => []
 | a, b :: l => markB a b :: marksBB (a + (b.f3.length + 3 : Nat)) l
def marksBBTo (a : Int) (l : List S123) (i : Nat) : List S123 := marksBB a (l.take i) ++ l.drop i
theorem marksBB_length (a : Int) (l : List S123) : (marksBB a l).length = l.length := by
 induction l generalizing a with
 | nil => rfl
 | cons x l ih => simp [marksBB, ih]
theorem marksBBTo_length (a : Int) (l : List S123) (i : Nat) : (marksBBTo a l i).length = l.length := by
 simp [marksBBTo, marksBB_length]; omega
theorem marksBBTo_get (a : Int) (l : List S123) (i : Nat) (z : S123) (hi : i < l.length) : (marksBBTo a l i).getD i z = l.getD i z := by
 have hm : (marksBB a (l.take i)).length = i := by rw [marksBB_length, List.length_take]; omega
 unfold marksBBTo
 rw [List.getD_eq_getElem?_getD, List.getElem?_append_right (by omega), hm, List.getElem?_drop, List.getD_eq_getElem?_getD]
 simp
theorem lenB_take (l : List S123) (i : Nat) (z : S123) (hi : i < l.length) : lenB (l.take (i + 1)) = lenB (l.take i) + ((l.getD i z).f3.length + 3) := by
 induction l generalizing i with
 | nil => simp at hi
 | cons x l ih =>
  cases i with
  | zero => simp [lenB]
  | succ i => have := ih i (by simpa using hi); simp only [List.take_succ_cons, lenB, List.getD_cons_succ] at this ⊢; omega
theorem lenB_le (l : List S123) (i : Nat) : lenB (l.take i) ≤ lenB l := by
 induction l generalizing i with
 | nil => simp
 | cons x l ih =>
  cases i with
  | zero => simp [lenB]
  | succ i => have := ih i; simp only [List.take_succ_cons, lenB]; omega
theorem marksBBTo_set (a : Int) (l : List S123) (i : Nat) (z : S123) (hi : i < l.length) : (marksBBTo a l i).set i (markB (a + lenB (l.take i)) (l.getD i z)) = marksBBTo a l (i + 1) := by
 induction l generalizing a i with
 | nil => simp at hi
 | cons x l ih =>
  cases i with
  | zero => simp [marksBBTo, marksBB, lenB]
  | succ i =>
   have := ih (a + (x.f3.length + 3 : Nat)) i (by simpa using hi)
   simp only [marksBBTo, List.take_succ_cons, marksBB, List.drop_succ_cons, List.cons_append, List.set_cons_succ, lenB, List.getD_cons_succ] at this ⊢
   rw [show a + (((x.f3.length + 3) + lenB (l.take i) : Nat) : Int) = a + (x.f3.length + 3 : Nat) + (lenB (l.take i) : Int) by omega, this]
theorem getD_set_self {α : Type} (l : List α) (i : Nat) (x z : α) (h : i < l.length) : (l.set i x).getD i z = x := by
 rw [List.getD_eq_getElem?_getD, List.getElem?_set_self h]; rfl
/-- Element i of a row of bodies: its cells, what its cells may be set to, its row of dels. -/
theorem bodyFour {W : World} {base g n cap : Nat} {ok : Nat → Prop} {l : List S123} (h : Kd.S k123 123 W base ok (.slice (some ⟨g, 0, none⟩) n cap) l) (i : Nat) (hi : i < n) (b : S123) (hb : l.getD i z123 = b) :
  ∃ v3, W.cell? ⟨g, i * 4, none⟩ = some (.string b.f0) ∧ W.cell? ⟨g, i * 4 + 1, none⟩ = some (.int .i64 b.f1) ∧ W.cell? ⟨g, i * 4 + 2, none⟩ = some (.int .i64 b.f2) ∧ W.cell? ⟨g, i * 4 + 3, none⟩ = some v3 ∧
   W.frozen? ⟨g, i * 4, none⟩ = false ∧ W.frozen? ⟨g, i * 4 + 1, none⟩ = false ∧ W.frozen? ⟨g, i * 4 + 2, none⟩ = false ∧
   (∀ t : ByteArray, Kd.S k123 123 (W.setCell ⟨g, i * 4, none⟩ (.string t)) base ok (.slice (some ⟨g, 0, none⟩) n cap) (l.set i ⟨t, b.f1, b.f2, b.f3⟩) ∧ W.grownBy (W.setCell ⟨g, i * 4, none⟩ (.string t)) (some g)) ∧
   (∀ x : Int, Kd.S k123 123 (W.setCell ⟨g, i * 4 + 1, none⟩ (.int .i64 x)) base ok (.slice (some ⟨g, 0, none⟩) n cap) (l.set i ⟨b.f0, x, b.f2, b.f3⟩) ∧ W.grownBy (W.setCell ⟨g, i * 4 + 1, none⟩ (.int .i64 x)) (some g)) ∧
   (∀ x : Int, Kd.S k123 123 (W.setCell ⟨g, i * 4 + 2, none⟩ (.int .i64 x)) base ok (.slice (some ⟨g, 0, none⟩) n cap) (l.set i ⟨b.f0, b.f1, x, b.f3⟩) ∧ W.grownBy (W.setCell ⟨g, i * 4 + 2, none⟩ (.int .i64 x)) (some g)) ∧
   ∃ oki, Kd.R (Kd.int .i64) 3 W base oki v3 b.f3 ∧ (∀ k, oki k → ok k) ∧ ∀ (W' : World) (d' : List Int), Kd.R (Kd.int .i64) 3 W' base oki v3 d' → W.grownBy W' v3.ownBlock → Kd.S k123 123 W' base ok (.slice (some ⟨g, 0, none⟩) n cap) (l.set i ⟨b.f0, b.f1, b.f2, d'⟩) := by
 obtain ⟨oki, c, hcl, hM, hcc, hfr, hoki, hH⟩ := Kd.S_elem (Kd.S_mono h (fun k hk => (⟨hk, id⟩ : ok k ∧ ¬ False))) z123 (i : Int) (by omega) (by omega)
 rw [Int.toNat_natCast] at hM hcc hfr
 rw [hb] at hM
 obtain ⟨v3, rfl, h3⟩ := k123_openM hM
 have hH' := hH
 refine ⟨v3, hcc 0 _ rfl, hcc 1 _ rfl, hcc 2 _ rfl, hcc 3 _ rfl, hfr 0, hfr 1, hfr 2, fun t => ?_, fun x => ?_, fun x => ?_, oki, h3, fun k hk => (hoki k hk).1.1, fun W' d' hR hg => ?_⟩
 ·have := Kd.S_seg (okg := fun _ => False) (okp := oki) hH (by omega) (by omega) (seg := [.string t]) (j := 0) (show 1 ≤ 4 by decide) (x' := (⟨t, b.f1, b.f2, b.f3⟩ : S123)) (k123_mkM _ _ _ (⟨t, b.f1, b.f2, b.f3⟩ : S123) h3) (fun k hk => .inl hk) (fun k hk => hk.elim)
  rw [Int.toNat_natCast] at this
  exact this
 ·have := Kd.S_seg (okg := fun _ => False) (okp := oki) hH (by omega) (by omega) (seg := [.int .i64 x]) (j := 1) (show 2 ≤ 4 by decide) (x' := (⟨b.f0, x, b.f2, b.f3⟩ : S123)) (k123_mkM _ _ _ (⟨b.f0, x, b.f2, b.f3⟩ : S123) h3) (fun k hk => .inl hk) (fun k hk => hk.elim)
  rw [Int.toNat_natCast] at this
  exact this
 ·have := Kd.S_seg (okg := fun _ => False) (okp := oki) hH (by omega) (by omega) (seg := [.int .i64 x]) (j := 2) (show 3 ≤ 4 by decide) (x' := (⟨b.f0, b.f1, x, b.f3⟩ : S123)) (k123_mkM _ _ _ (⟨b.f0, b.f1, x, b.f3⟩ : S123) h3) (fun k hk => .inl hk) (fun k hk => hk.elim)
  rw [Int.toNat_natCast] at this
  exact this
 ·have := Kd.S_mono (Kd.H_back (x' := (⟨b.f0, b.f1, b.f2, d'⟩ : S123)) (Kd.H_grown hH hg (fun k hk => h3.1 k hk)) (k123_mkM _ _ _ (⟨b.f0, b.f1, b.f2, d'⟩ : S123) hR) (fun _ h => h)) (fun k hk => hk.1)
  rw [Int.toNat_natCast] at this
  exact this
set_option maxHeartbeats 8000000 in
set_option maxRecDepth 100000 in
theorem markBodies (base : Nat) (ok : Nat → Prop) (v : Value) (l : List S123) (a1 : Int) (h0 : 0 ≤ a1) (hb : a1 + lenB l ≤ 4611686018427387904) (w0 w : World) (hbase : base = w0.heap.size) (hB : Below w0.heap.size w0 w) (hr : Kd.S k123 123 w base ok v l) :
  Calls Try.prog 54 #[v, .int .i64 a1] w fun e w' => e = .returned (.int .i64 (a1 + lenB l)) ∧ Kd.S k123 123 w' base ok v (marksBB a1 l) ∧ Below w0.heap.size w0 w' ∧ Kept w w' ok := by
 obtain ⟨A, c, ev⟩ := Kd.S_slice hr
 subst ev
 subst hbase
 have HR := Aside0.mk hr
 have HB := Aside0.mk hB
 clear hr hB
 have hu123 := Try.underlying123
 go_enter Try.func54, Try.ntmps54
 go_wp2
 go_loopg [1, 5] l.length (fun kq v1 v5 w' => ∃ i : Nat, i + kq = l.length ∧ v1 = .int .i64 (a1 + lenB (l.take i)) ∧ v5 = .int .i64 i ∧ Aside0 (Kd.S k123 123 w' w0.heap.size ok (.slice A l.length c) (marksBBTo a1 l i)) ∧ Aside0 (Below w0.heap.size w0 w') ∧ Aside0 (Kept w w' ok))
 case atStart => exact ⟨0, by omega, by simp [lenB], by simp, ⟨by simpa [marksBBTo, marksBB] using HR.out⟩, HB, ⟨Kept.refl _ _⟩⟩
 case round =>
  obtain ⟨i, hi, rfl, rfl, HJ, HBJ, HKJ⟩ := hrel
  have hle := lenB_le l i
  cases gk with
  | zero =>
   have hlt : ¬ (i < l.length) := by omega
   obtain rfl : i = l.length := by omega
   have E0 := Aside0.mk (List.take_length (l := l))
   go_wp2
   go_ret
   exact ⟨by first | rfl | (rw [E0.out]; rfl) | (simp; done), by have := HJ.out; simpa [marksBBTo] using this, HBJ.out, HKJ.out⟩
  | succ k1 =>
   have hlt : i < l.length := by omega
   have hl := marksBBTo_length a1 l i
   have hls := lenB_take l i z123 hlt
   have hset := marksBBTo_set a1 l i z123 hlt
   have hget := marksBBTo_get a1 l i z123 hlt
   have hle2 := lenB_le l (i + 1)
   generalize l.getD i z123 = b at hls hset hget
   generalize marksBBTo a1 l i = L at HJ hl hset hget
   have hmax := Kd.C_max (Kd.S_reads' HJ.out).2.2
   rw [hl] at hmax
   obtain ⟨g, c', eg, gb, _, _⟩ := Kd.S_form HJ.out (by omega)
   rw [hl] at eg
   cases eg
   have hG : ok g := (Kd.S_R HJ.out).1 g rfl
   obtain ⟨x, hx⟩ : ∃ x : Int, x = a1 + lenB (l.take i) := ⟨_, rfl⟩
   rw [← hx] at hset ⊢
   have hx0 : 0 ≤ x := by omega
   have hx1 : x + 3 + (b.f3.length : Int) ≤ 4611686018427387904 := by omega
   have hnx : x + 1 + 1 + 1 + (b.f3.length : Int) = a1 + lenB (l.take (i + 1)) := by omega
   have HT := Aside0.mk (txt_some x hx0 (by omega))
   have HNX := Aside0.mk hnx
   have HSE := Aside0.mk hset
   have HGE := Aside0.mk hget
   have HG := Aside0.mk hG
   have HGB := Aside0.mk gb
   have hiL : i < L.length := by omega
   have HIL := Aside0.mk hiL
   clear hle hls hset hget hle2 hx hnx hG gb hl
   obtain ⟨v3, hc0, hc1, hc2, hc3, hf0, hf1, hf2, s0, s1, s2, _⟩ := bodyFour HJ.out i hlt b HGE.out
   clear s0 s1 s2
   go_wp2_with (first
    | (go_at_call 55; (try simp only [i64_w]); (with_reducible refine (laws_markText.calls 64 x (txtOf x) _ HT.out).mono ?_); rintro e w8 ⟨rfl, hb8⟩; have HJ8 := Aside0.mk (Kd.S_below HJ.out hb8); have HB8 := Aside0.mk (below_step HBJ.out hb8); have HK8 := Aside0.mk (HKJ.out.below hb8); clear hb8 hc0 hc1 hc2 hc3 hf0 hf1 hf2; obtain ⟨v3, hc0, hc1, hc2, hc3, hf0, hf1, hf2, s0, s1, s2, _⟩ := bodyFour HJ8.out i hlt b HGE.out; have S0 := Aside0.mk (s0 (txtOf x)); clear s0 s1 s2)
    | ((with_reducible refine gate_store (t := 9) (p := 17) rfl ?_); refine store_event (t := 9) (p := 17) (v := ?vo17) (w1 := (w8.setCell ⟨g, i * 4, none⟩ (.string (txtOf x)))) ?hg ?ho ?hn ?hr ?_; (case ho => rfl); (case hg => rfl); (case hn => rfl); (case hr => first | (go_simp; done) | (go_simp; rfl)); intro w9 hw_; rw [← hw_] at S0; have HB9 := Aside0.mk (by rw [hw_]; exact below_set HB8.out HGB.out : Below w0.heap.size w0 w9); have HK9 := Aside0.mk (by rw [hw_]; exact HK8.out.setCell (.inl HG.out) _ : Kept w w9 ok); clear hw_ hc0 hc1 hc2 hc3 hf0 hf1 hf2; obtain ⟨v3, hc0, hc1, hc2, hc3, hf0, hf1, hf2, s0, s1, s2, _⟩ := bodyFour S0.out.1 i hlt _ (getD_set_self _ _ _ _ HIL.out); have S1 := Aside0.mk (s1 (x + 1)); clear s0 s1 s2)
    | ((with_reducible refine gate_store (t := 3) (p := 24) rfl ?_); refine store_event (t := 3) (p := 24) (v := ?vo24) (w1 := (w9.setCell ⟨g, i * 4 + 1, none⟩ (.int .i64 (x + 1)))) ?hg ?ho ?hn ?hr ?_; (case ho => rfl); (case hg => rfl); (case hn => rfl); (case hr => first | (go_simp; done) | (go_simp; rfl)); intro w10 hw_; rw [← hw_] at S1; have HB10 := Aside0.mk (by rw [hw_]; exact below_set HB9.out HGB.out : Below w0.heap.size w0 w10); have HK10 := Aside0.mk (by rw [hw_]; exact HK9.out.setCell (.inl HG.out) _ : Kept w w10 ok); have S1b := Aside0.mk (by have := S1.out.1; rw [List.set_set] at this; exact this); clear hw_ hc0 hc1 hc2 hc3 hf0 hf1 hf2 S1; obtain ⟨v3, hc0, hc1, hc2, hc3, hf0, hf1, hf2, s0, s1, s2, _⟩ := bodyFour S1b.out i hlt _ (getD_set_self _ _ _ _ HIL.out); have S2 := Aside0.mk (s2 (x + 1 + 1)); clear s0 s1 s2)
    | ((with_reducible refine gate_store (t := 3) (p := 31) rfl ?_); refine store_event (t := 3) (p := 31) (v := ?vo31) (w1 := (w10.setCell ⟨g, i * 4 + 2, none⟩ (.int .i64 (x + 1 + 1)))) ?hg ?ho ?hn ?hr ?_; (case ho => rfl); (case hg => rfl); (case hn => rfl); (case hr => first | (go_simp; done) | (go_simp; rfl)); intro w11 hw_; rw [← hw_] at S2; have HB11 := Aside0.mk (by rw [hw_]; exact below_set HB10.out HGB.out : Below w0.heap.size w0 w11); have HK11 := Aside0.mk (by rw [hw_]; exact HK10.out.setCell (.inl HG.out) _ : Kept w w11 ok); have S2b := Aside0.mk (by have := S2.out.1; rw [List.set_set] at this; exact this); clear hw_ hc0 hc1 hc2 hc3 hf0 hf1 hf2 S2; obtain ⟨v3, hc0, hc1, hc2, hc3, hf0, hf1, hf2, s0, s1, s2, oki, hR3, hoki, hback⟩ := bodyFour S2b.out i hlt _ (getD_set_self _ _ _ _ HIL.out); have HR3 := Aside0.mk hR3; have HOK := Aside0.mk hoki; have HBK := Aside0.mk hback; have HCA := Aside0.mk (markRow w0.heap.size oki v3 b.f3 (x + 1 + 1 + 1) (by omega) (by omega) w11 hR3); clear s0 s1 s2 hR3 hoki hback)
    | (go_at_call 28; refine HCA.out.mono ?_; rintro e w12 ⟨rfl, hr1, hg1⟩; have hS1 := HBK.out w12 _ hr1 hg1; rw [List.set_set] at hS1; have HN := Aside0.mk (show Kd.S k123 123 w12 w0.heap.size ok _ (L.set i (markB x b)) from hS1); rw [HSE.out] at HN; have HNB := Aside0.mk (pw_below_grown HB11.out _ (below_size HB11.out) hg1 (fun k hk => Kd.R_base HR3.out k hk)); have HNK := Aside0.mk (HK11.out.then_ ⟨hg1.size, fun k hk hn => hg1.block k hk (fun e => hn (HOK.out k (HR3.out.1 k e.symm)))⟩ (fun _ h2 => .inl h2)); clear hr1 hg1 hS1))
   go_roundg k1
   case measure => omega
   case rel => exact ⟨i + 1, by omega, by rw [HNX.out], by go_num, HN, HNB, HNK⟩
set_option maxHeartbeats 8000000 in
set_option maxRecDepth 100000 in
/-- A weave marked: its two rows lie apart, each comes back marked. -/
theorem markWeaveK (ok0 ok1 : Nat → Prop) (hap : ∀ k, ok0 k → ¬ ok1 k) (u0 u1 : Value) (p : List (List Int)) (b : List S123) (hb : 1 + (lensL p : Int) + lenB b ≤ 4611686018427387904) (w0 w : World) (hB : Below w0.heap.size w0 w) (h0 : Kd.S (Kd.slice 3 (Kd.int .i64)) 45 w w0.heap.size ok0 u0 p) (h1 : Kd.S k123 123 w w0.heap.size ok1 u1 b) :
  Calls Try.prog 16 #[.agg #[u0, u1], .int .i64 1] w fun e w' => e = .returned (.int .i64 (1 + lensL p + lenB b)) ∧ Kd.S (Kd.slice 3 (Kd.int .i64)) 45 w' w0.heap.size ok0 u0 (marksLL 1 p) ∧ Kd.S k123 123 w' w0.heap.size ok1 u1 (marksBB (1 + lensL p) b) ∧ Below w0.heap.size w0 w' ∧ Kept w w' (fun k => ok0 k ∨ ok1 k) := by
 have HB := Aside0.mk hB
 have H0 := Aside0.mk h0
 have H1 := Aside0.mk h1
 have HAP := Aside0.mk hap
 have hb1 : 1 + (lensL p : Int) ≤ 4611686018427387904 := by omega
 clear hB h0 h1 hap
 have hu32 := Try.underlying32
 go_enter Try.func16, Try.ntmps16
 go_wp2_with (first
  | ((with_reducible refine gate_dst (N := 2) rfl ?_); refine box_event ?hg (N := 2) ?hd (cs := #[u0, u1]) (t := 32) ?hr ?_; (case hd => rfl); (case hg => rfl); (case hr => first | (go_simp; done) | (go_simp; rfl)); intro gb hg w2 hbox hb2; have HX := Aside0.mk hbox; have HG := Aside0.mk (Nat.le_of_eq hg.symm); have HB2 := Aside0.mk (below_step HB.out hb2); have H02 := Aside0.mk (Kd.S_below (Kd.S_bound H0.out) hb2); have H12 := Aside0.mk (Kd.S_below (Kd.S_bound H1.out) hb2); have HK2 := Aside0.mk (Kept.of_below hb2 (fun k => ok0 k ∨ ok1 k)); have hc0 : w2.cell? ⟨gb, 0, none⟩ = some u0 := (blk_cell hbox 0).trans rfl; have HCA := Aside0.mk (markRows w0.heap.size _ u0 p 1 (by omega) hb1 w0 w2 rfl HB2.out H02.out); clear hbox hb2 hg)
  | (go_at_call 53; refine HCA.out.mono ?_; rintro e w3 ⟨rfl, hs3, hb3, hk3⟩; have H03 := Aside0.mk hs3; have HB3 := Aside0.mk hb3; have H13 := Aside0.mk (Kd.S_step H12.out (fun k hk hl => hk3.2 k hl (fun h2 => HAP.out k h2.1 hk.1))); have HK3 := Aside0.mk (HK2.out.then_ hk3 (fun k h2 => .inl (.inl h2.1))); have HX3 := Aside0.mk (blk_kept HX.out hk3 (fun h2 => by have := h2.2.2.1; have := HG.out; omega)); clear hc0; have hc1 : w3.cell? ⟨gb, 1, none⟩ = some u1 := (blk_cell HX3.out 1).trans rfl; have HCB := Aside0.mk (markBodies w0.heap.size _ u1 b (1 + lensL p) (by omega) hb w0 w3 rfl HB3.out H13.out); clear hs3 hb3 hk3)
  | (go_at_call 54; refine HCB.out.mono ?_; rintro e w4 ⟨rfl, hs4, hb4, hk4⟩; have H14 := Aside0.mk hs4; have HB4 := Aside0.mk hb4; have H04 := Aside0.mk (Kd.S_step H03.out (fun k hk hl => hk4.2 k hl (fun h2 => HAP.out k hk.1 h2.1))); have HK4 := Aside0.mk (HK3.out.then_ hk4 (fun k h2 => .inl (.inr h2.1))); clear hs4 hb4 hk4))
 go_ret
 exact ⟨by first | rfl | (simp; done), Kd.S_mono H04.out (fun _ hk => hk.1), Kd.S_mono H14.out (fun _ hk => hk.1), HB4.out, HK4.out⟩
/-! ### The law, walked by hand -/
def laws_FnExactAddVersion.good (g w : List (List Int) × List S123 × Int × Int) (e e0 e1 e2 : Bool) (k2 : Int) : Prop := e = true ∧ g.2.2 = w.2.2 ∧ e0 = true ∧ e1 = true ∧ e2 = true ∧ 0 ≤ k2 ∧ 1 + (lensL g.1 : Int) + lenB g.2.1 ≤ 4611686018427387904
instance (g w : List (List Int) × List S123 × Int × Int) (e e0 e1 e2 : Bool) (k2 : Int) : Decidable (laws_FnExactAddVersion.good g w e e0 e1 e2 k2) := by unfold laws_FnExactAddVersion.good; infer_instance
def laws_FnExactAddVersion.f (k : Nat) (l0 : List (List Int)) (l1 : List S120) (l2 : List Int) (l3 : List ByteArray) : Option Bool :=
 if (l2.length : Int) > 1048576 then some true else
 (laws_szWeave.f k l0 l1 1048576).bind fun a => if a < 0 then some true else
 (laws_szStringS.f k l3 a).bind fun b => if b < 0 then some true else
 (laws_toWeave.f k l0 l1).bind fun x0 => (laws_toIntS.f k l2).bind fun x1 => (laws_toStringS.f k l3).bind fun x2 =>
 (spec_AddVersion.f k x0.1 x0.2 x1 x2).bind fun w => (impl_AddVersion.f k x0.1 x0.2 x1 x2).bind fun g =>
 (laws_eqWeave.f k g.1 g.2.1 w.1 w.2.1).bind fun e => (laws_eqWeave.f k x0.1 x0.2 x0.1 x0.2).bind fun e0 =>
 (laws_eqIntS.f k x1 x1).bind fun e1 => (laws_eqStringS.f k x2 x2).bind fun e2 =>
 (laws_markWeave.f x0.1 x0.2 1).bind fun k0 => (laws_markIntS.f k x1 k0).bind fun k1 => (laws_markStringS.f k x2 k1.1).bind fun k2 =>
 if laws_FnExactAddVersion.good g w e e0 e1 e2 k2.1 then
  (laws_heldWeave.f k (marksLL 1 g.1) (marksBB (1 + lensL g.1) g.2.1) 1).bind fun q => if q = 1 + lensL g.1 + lenB g.2.1 then some true else none
 else none
theorem laws_FnExactAddVersion.db {w w' : World} (h : Drawn0 w w') : Below w.heap.size w w' := by
 obtain ⟨n, rfl⟩ := h.out
 apply pw_below_drewN
 exact Below.refl _ _
/-- A weave behind the block g, its rows' blocks from n on and ahead of g, P's or not. -/
structure laws_FnExactAddVersion.Fw (w W : World) (m g : Nat) (Q0 Q1 : Nat → Prop) (u0 u1 : Value) (p : List (List Int)) (bs : List S123) : Prop where
 b : Below w.heap.size w W
 n : w.heap.size ≤ m
 ng : m ≤ g
 lt : g < W.heap.size
 h : W.heap[g]? = some (.cells #[u0, u1] 32 (0, 0))
 s0 : Kd.S (Kd.slice 3 (Kd.int .i64)) 45 W w.heap.size (fun k => (m ≤ k ∧ k < g) ∧ Q0 k) u0 p
 s1 : Kd.S k123 123 W w.heap.size (fun k => (m ≤ k ∧ k < g) ∧ Q1 k) u1 bs
section
variable {w W W1 : World} {n g : Nat} {Q0 Q1 : Nat → Prop} {u0 u1 : Value} {p : List (List Int)} {b : List S123} {S : Nat → Prop}
theorem laws_FnExactAddVersion.Fw.below (F : laws_FnExactAddVersion.Fw w W n g Q0 Q1 u0 u1 p b) (hb : Below W.heap.size W W1) : laws_FnExactAddVersion.Fw w W1 n g Q0 Q1 u0 u1 p b :=
 ⟨below_step F.b hb, F.n, F.ng, Nat.lt_of_lt_of_le F.lt hb.size, (hb.block g F.lt).trans F.h, Kd.S_below F.s0 hb, Kd.S_below F.s1 hb⟩
theorem laws_FnExactAddVersion.Fw.kept (F : laws_FnExactAddVersion.Fw w W n g Q0 Q1 u0 u1 p b) (hb : Below w.heap.size w W1) (hk : Kept W W1 S) (hS : ∀ k, S k → k < n ∨ g < k) : laws_FnExactAddVersion.Fw w W1 n g Q0 Q1 u0 u1 p b :=
 have := F.ng
 ⟨hb, F.n, F.ng, Nat.lt_of_lt_of_le F.lt hk.1, (hk.2 g F.lt (fun h => by have := hS _ h; omega)).trans F.h, Kd.S_step F.s0 (fun k h1 hl => hk.2 k hl (fun h => by have := hS _ h; omega)), Kd.S_step F.s1 (fun k h1 hl => hk.2 k hl (fun h => by have := hS _ h; omega))⟩
theorem laws_FnExactAddVersion.Fw.cells (F : laws_FnExactAddVersion.Fw w W n g Q0 Q1 u0 u1 p b) : W.cell? ⟨g, 0, none⟩ = some u0 ∧ W.cell? ⟨g, 1, none⟩ = some u1 := ⟨(blk_cell F.h 0).trans rfl, (blk_cell F.h 1).trans rfl⟩
theorem laws_FnExactAddVersion.Fw.marked {p' : List (List Int)} {b' : List S123} (F : laws_FnExactAddVersion.Fw w W n g Q0 Q1 u0 u1 p b) (hb : Below w.heap.size w W1) (hk : Kept W W1 (fun k => ((n ≤ k ∧ k < g) ∧ Q0 k) ∨ ((n ≤ k ∧ k < g) ∧ Q1 k))) (h0 : Kd.S (Kd.slice 3 (Kd.int .i64)) 45 W1 w.heap.size (fun k => (n ≤ k ∧ k < g) ∧ Q0 k) u0 p') (h1 : Kd.S k123 123 W1 w.heap.size (fun k => (n ≤ k ∧ k < g) ∧ Q1 k) u1 b') : laws_FnExactAddVersion.Fw w W1 n g Q0 Q1 u0 u1 p' b' :=
 ⟨hb, F.n, F.ng, Nat.lt_of_lt_of_le F.lt hk.1, (hk.2 g F.lt (fun h => by omega)).trans F.h, h0, h1⟩
theorem laws_FnExactAddVersion.Fw.make {W0 : World} (hb : Below w.heap.size w W0) (hb2 : Below W0.heap.size W0 W) (h0 : Kd.S (Kd.slice 3 (Kd.int .i64)) 45 W W0.heap.size Q0 u0 p) (h1 : Kd.S k123 123 W W0.heap.size Q1 u1 b) : laws_FnExactAddVersion.Fw w (W.alloc (.cells #[u0, u1] 32)) W0.heap.size W.heap.size Q0 Q1 u0 u1 p b :=
 ⟨below_step (below_step hb hb2) (below_alloc (Below.refl _ _) _), below_size hb, below_size hb2, by rw [World.size_alloc]; omega, heap_alloc_new W _, Kd.S_alloc (Kd.S_mono (Kd.S_lower (Kd.S_bound h0) (below_size hb)) (fun k hk => ⟨⟨hk.2.1, hk.2.2.1⟩, hk.1⟩)) _, Kd.S_alloc (Kd.S_mono (Kd.S_lower (Kd.S_bound h1) (below_size hb)) (fun k hk => ⟨⟨hk.2.1, hk.2.2.1⟩, hk.1⟩)) _⟩
theorem laws_FnExactAddVersion.row {T : Type} {d : Kd T} {e : Nat} {v : Value} {xs : List T} {W0 : World} (hb : Below w.heap.size w W0) (h : Kd.R d e W W0.heap.size (fun _ => True) v xs) : Kd.R d e W w.heap.size (fun k => W0.heap.size ≤ k ∧ k < W.heap.size) v xs :=
 Kd.R_mono (Kd.R_lower (Kd.R_bound h) (below_size hb)) (fun k hk => ⟨hk.2.1, hk.2.2.1⟩)
end
set_option maxHeartbeats 8000000 in
set_option maxRecDepth 100000 in
theorem laws_FnExactAddVersion.calls (k : Nat) (A0 : Option Addr) (c0 : Nat) (l0 : List (List Int)) (A1 : Option Addr) (c1 : Nat) (l1 : List S120) (A2 : Option Addr) (c2 : Nat) (l2 : List Int) (A3 : Option Addr) (c3 : Nat) (l3 : List ByteArray) (r : Bool) (w : World) (hr0 : Kd.C (Kd.slice 3 (Kd.int .i64)) w A0 l0.length l0) (hc0 : l0.length ≤ c0) (hr1 : Kd.C k120 w A1 l1.length l1) (hc1 : l1.length ≤ c1) (hr2 : Kd.C (Kd.int .i64) w A2 l2.length l2) (hc2 : l2.length ≤ c2) (hr3 : Kd.C Kd.string w A3 l3.length l3) (hc3 : l3.length ≤ c3) (h : laws_FnExactAddVersion.f k l0 l1 l2 l3 = some r) :
  Calls Try.prog 6 #[.agg #[.slice A0 l0.length c0, .slice A1 l1.length c1], .slice A2 l2.length c2, .slice A3 l3.length c3] w fun e w' => e = .returned (.bool r) ∧ Below w.heap.size w w' := by
 unfold laws_FnExactAddVersion.f at h
 have hu32 := Try.underlying32
 have hu25 := Try.underlying25
 have hbx : Below w.heap.size w (w.alloc (.cells #[.slice A0 l0.length c0, .slice A1 l1.length c1] 25)) := below_alloc (Below.refl _ _) _
 have HBX := Aside0.mk hbx
 have HR0 := Aside0.mk (Kd.C_below hr0 hbx)
 have HC0 := Aside0.mk hc0
 have HR1 := Aside0.mk (Kd.C_below hr1 hbx)
 have HC1 := Aside0.mk hc1
 have HR2 := Aside0.mk (Kd.C_below hr2 hbx)
 have HC2 := Aside0.mk hc2
 have HR3 := Aside0.mk (Kd.C_below hr3 hbx)
 have HC3 := Aside0.mk hc3
 have HAB := Aside0.mk (heap_alloc_new w (.cells #[.slice A0 l0.length c0, .slice A1 l1.length c1] 25))
 clear hr0 hc0 hr1 hc1 hr2 hc2 hr3 hc3 hbx
 have start : ∀ Q : World → Nat → Prop, (∀ w2 gA, (Below w.heap.size w w2) → Q w2 gA) → Q (w.alloc (.cells #[.slice A0 l0.length c0, .slice A1 l1.length c1] 25)) w.heap.size := fun Q hq => hq _ _ HBX.out
 clear start
 by_cases cp : (l2.length : Int) > 1048576
 ·rw [if_pos cp] at h
  obtain rfl := Option.some.inj h
  have cpb : decide ((l2.length : Int) > 1048576) = true := decide_eq_true cp
  go_enter Try.func6, Try.ntmps6
  go_upto_region 1 with (fail)
  generalize w.alloc (.cells #[.slice A0 l0.length c0, .slice A1 l1.length c1] 25) = w2 at HBX HR0 HR1 HR2 HR3 HAB ⊢
  generalize w.heap.size = gA at HAB ⊢
  have q0 : w2.cell? ⟨gA, 0, none⟩ = some (.slice A0 l0.length c0) := (blk_cell HAB.out 0).trans rfl
  have q1 : w2.cell? ⟨gA, 1, none⟩ = some (.slice A1 l1.length c1) := (blk_cell HAB.out 1).trans rfl
  go_wp2
  go_ret
  exact ⟨rfl, HBX.out⟩
 rw [if_neg cp] at h
 have cpb : decide ((l2.length : Int) > 1048576) = false := decide_eq_false cp
 clear cp
 replace h := Option.bind_eq_some_iff.mp h; obtain ⟨a, ha, h⟩ := h
 have HA := Aside0.mk ha
 clear ha
 by_cases ca : a < 0
 ·rw [if_pos ca] at h
  obtain rfl := Option.some.inj h
  have cab : decide (a < 0) = true := decide_eq_true ca
  go_enter Try.func6, Try.ntmps6
  go_upto_region 1 with (fail)
  generalize w.alloc (.cells #[.slice A0 l0.length c0, .slice A1 l1.length c1] 25) = w2 at HBX HR0 HR1 HR2 HR3 HAB ⊢
  generalize w.heap.size = gA at HAB ⊢
  have q0 : w2.cell? ⟨gA, 0, none⟩ = some (.slice A0 l0.length c0) := (blk_cell HAB.out 0).trans rfl
  have q1 : w2.cell? ⟨gA, 1, none⟩ = some (.slice A1 l1.length c1) := (blk_cell HAB.out 1).trans rfl
  go_wp2_with (first | (go_at_call 8; (try simp only [i64_w]); (with_reducible refine (laws_szWeave.calls k _ _ l0 _ _ l1 1048576 a _ ?side1 ?side2 ?side3 ?side4 HA.out).mono ?_); (case side1 => exact HR0.out); (case side2 => exact HC0.out); (case side3 => exact HR1.out); (case side4 => exact HC1.out); rintro e w5 ⟨rfl, hb⟩; have HB5 := Aside0.mk hb; clear hb))
  go_ret
  exact ⟨rfl, below_step HBX.out HB5.out⟩
 rw [if_neg ca] at h
 have cab : decide (a < 0) = false := decide_eq_false ca
 clear ca
 replace h := Option.bind_eq_some_iff.mp h; obtain ⟨b, hb, h⟩ := h
 have HZ := Aside0.mk hb
 clear hb
 by_cases cb : b < 0
 ·rw [if_pos cb] at h
  obtain rfl := Option.some.inj h
  have cbb : decide (b < 0) = true := decide_eq_true cb
  go_enter Try.func6, Try.ntmps6
  go_upto_region 1 with (fail)
  generalize w.alloc (.cells #[.slice A0 l0.length c0, .slice A1 l1.length c1] 25) = w2 at HBX HR0 HR1 HR2 HR3 HAB ⊢
  generalize w.heap.size = gA at HAB ⊢
  have q0 : w2.cell? ⟨gA, 0, none⟩ = some (.slice A0 l0.length c0) := (blk_cell HAB.out 0).trans rfl
  have q1 : w2.cell? ⟨gA, 1, none⟩ = some (.slice A1 l1.length c1) := (blk_cell HAB.out 1).trans rfl
  go_wp2_with (first | (go_at_call 8; (try simp only [i64_w]); (with_reducible refine (laws_szWeave.calls k _ _ l0 _ _ l1 1048576 a _ ?side1 ?side2 ?side3 ?side4 HA.out).mono ?_); (case side1 => exact HR0.out); (case side2 => exact HC0.out); (case side3 => exact HR1.out); (case side4 => exact HC1.out); rintro e w5 ⟨rfl, hb⟩; have HB5 := Aside0.mk hb; clear hb) | (go_at_call 21; (try simp only [i64_w]); (with_reducible refine (laws_szStringS.calls k _ _ l3 a b _ ?side1 ?side2 HZ.out).mono ?_); (case side1 => exact Kd.C_below HR3.out HB5.out); (case side2 => exact HC3.out); rintro e w6 ⟨rfl, hd⟩; have HB6 := Aside0.mk (below_step HB5.out (laws_FnExactAddVersion.db hd)); clear hd HB5))
  go_ret
  exact ⟨rfl, below_step HBX.out HB6.out⟩
 rw [if_neg cb] at h
 have cbb : decide (b < 0) = false := decide_eq_false cb
 clear cb
 replace h := Option.bind_eq_some_iff.mp h; obtain ⟨⟨xp, xb⟩, hx0, h⟩ := h
 replace h := Option.bind_eq_some_iff.mp h; obtain ⟨x1, hx1, h⟩ := h
 replace h := Option.bind_eq_some_iff.mp h; obtain ⟨x2, hx2, h⟩ := h
 replace h := Option.bind_eq_some_iff.mp h; obtain ⟨⟨wp, wb, wo⟩, hw, h⟩ := h
 replace h := Option.bind_eq_some_iff.mp h; obtain ⟨⟨gp, gb, go⟩, hg, h⟩ := h
 replace h := Option.bind_eq_some_iff.mp h; obtain ⟨e, he, h⟩ := h
 replace h := Option.bind_eq_some_iff.mp h; obtain ⟨e0, he0, h⟩ := h
 replace h := Option.bind_eq_some_iff.mp h; obtain ⟨e1, he1, h⟩ := h
 replace h := Option.bind_eq_some_iff.mp h; obtain ⟨e2, he2, h⟩ := h
 replace h := Option.bind_eq_some_iff.mp h; obtain ⟨k0, hk0, h⟩ := h
 replace h := Option.bind_eq_some_iff.mp h; obtain ⟨⟨k1, y1⟩, hk1, h⟩ := h
 replace h := Option.bind_eq_some_iff.mp h; obtain ⟨⟨k2, y2⟩, hk2, h⟩ := h
 by_cases g : laws_FnExactAddVersion.good (gp, gb, go) (wp, wb, wo) e e0 e1 e2 (k2, y2).1
 case neg => rw [if_neg g] at h; exact absurd h (by simp)
 rw [if_pos g] at h
 replace h := Option.bind_eq_some_iff.mp h; obtain ⟨q, hq, h⟩ := h
 obtain ⟨rfl, g2, rfl, rfl, rfl, g5, g6⟩ := g
 dsimp only at g2 g5 g6 he he0 hw hg hq h hk0 hk1 hk2
 subst g2
 obtain ⟨go1, go2⟩ := go
 by_cases cq : q = 1 + lensL gp + lenB gb
 case neg => rw [if_neg cq] at h; exact absurd h (by simp)
 rw [if_pos cq] at h
 obtain rfl := Option.some.inj h
 subst cq
 have HX0 := Aside0.mk hx0
 have HX1 := Aside0.mk hx1
 have HX2 := Aside0.mk hx2
 have HW := Aside0.mk hw
 have HG := Aside0.mk hg
 have HE := Aside0.mk he
 have HE0 := Aside0.mk he0
 have HE1 := Aside0.mk he1
 have HE2 := Aside0.mk he2
 have HK0 := Aside0.mk hk0
 have HK1 := Aside0.mk hk1
 have HK2 := Aside0.mk hk2
 have HQ := Aside0.mk hq
 have HM := Aside0.mk g6
 clear h hx0 hx1 hx2 hw hg he he0 he1 he2 hk0 hk1 hk2 hq g6
 go_enter Try.func6, Try.ntmps6
 go_upto_region 1 with (fail)
 generalize w.alloc (.cells #[.slice A0 l0.length c0, .slice A1 l1.length c1] 25) = w2 at HBX HR0 HR1 HR2 HR3 HAB ⊢
 generalize w.heap.size = gA at HAB ⊢
 have q0 : w2.cell? ⟨gA, 0, none⟩ = some (.slice A0 l0.length c0) := (blk_cell HAB.out 0).trans rfl
 have q1 : w2.cell? ⟨gA, 1, none⟩ = some (.slice A1 l1.length c1) := (blk_cell HAB.out 1).trans rfl
 go_upto_region 11 with (first
  | (go_at_call 8; (try simp only [i64_w]); (with_reducible refine (laws_szWeave.calls k _ _ l0 _ _ l1 1048576 a _ ?side1 ?side2 ?side3 ?side4 HA.out).mono ?_); (case side1 => exact HR0.out); (case side2 => exact HC0.out); (case side3 => exact HR1.out); (case side4 => exact HC1.out); rintro e w5 ⟨rfl, hb⟩; have HB5 := Aside0.mk hb; clear hb)
  | (go_at_call 21; (try simp only [i64_w]); (with_reducible refine (laws_szStringS.calls k _ _ l3 a b _ ?side1 ?side2 HZ.out).mono ?_); (case side1 => exact Kd.C_below HR3.out HB5.out); (case side2 => exact HC3.out); rintro e w6 ⟨rfl, hd⟩; have HB6 := Aside0.mk (below_step HB5.out (laws_FnExactAddVersion.db hd)); clear hd HB5; clear q0 q1; have q0 : w6.cell? ⟨gA, 0, none⟩ = some (.slice A0 l0.length c0) := (blk_cell (blk_below HAB.out HB6.out) 0).trans rfl; have q1 : w6.cell? ⟨gA, 1, none⟩ = some (.slice A1 l1.length c1) := (blk_cell (blk_below HAB.out HB6.out) 1).trans rfl)
  | (go_at_call 10; (try simp only [i64_w]); (with_reducible refine (laws_toWeave.calls k _ _ l0 _ _ l1 xp xb _ ?side1 ?side2 ?side3 ?side4 HX0.out).mono ?_); (case side1 => exact Kd.C_below HR0.out HB6.out); (case side2 => exact HC0.out); (case side3 => exact Kd.C_below HR1.out HB6.out); (case side4 => exact HC1.out); rintro e w7 ⟨va, vb, rfl, ho0, ho1, hb⟩; obtain ⟨Aa, ca, rfl⟩ := Kd.S_slice ho0; obtain ⟨Ab, cb, rfl⟩ := Kd.S_slice ho1; have HS0 := Aside0.mk ho0; have HS1 := Aside0.mk ho1; have HB7 := Aside0.mk (below_step HB6.out hb); clear ho0 ho1 hb HB6 q0 q1)
  | (go_at_call 23; (try simp only [i64_w]); (with_reducible refine (laws_toIntS.calls k _ _ l2 x1 _ ?side1 ?side2 HX1.out).mono ?_); (case side1 => exact Kd.C_below HR2.out HB7.out); (case side2 => exact HC2.out); rintro e w8 ⟨vi, rfl, ho, hb⟩; obtain ⟨Ai, ci, rfl⟩ := Kd.R_slice ho; have HS2 := Aside0.mk (Kd.S_below HS0.out hb); have HS3 := Aside0.mk (Kd.S_below HS1.out hb); have HI := Aside0.mk ho; have HB8 := Aside0.mk (below_step HB7.out hb); clear ho hb HB7 HS0 HS1)
  | (go_at_call 24; (try simp only [i64_w]); (with_reducible refine (laws_toStringS.calls k _ _ l3 x2 _ ?side1 ?side2 HX2.out).mono ?_); (case side1 => exact Kd.C_below HR3.out HB8.out); (case side2 => exact HC3.out); rintro e w9 ⟨vs, rfl, ho, hb⟩; obtain ⟨As, cs, rfl⟩ := Kd.R_slice ho; have HS4 := Aside0.mk (Kd.S_below HS2.out hb); have HS5 := Aside0.mk (Kd.S_below HS3.out hb); have HI2 := Aside0.mk (Kd.R_below HI.out hb); have HS := Aside0.mk ho; have HB9 := Aside0.mk (below_step HB8.out hb); clear ho hb HB8 HS2 HS3 HI)
  | (go_at_call 22; (try simp only [i64_w]); (with_reducible refine (spec_AddVersion.calls k _ _ xp _ _ xb _ _ x1 _ _ x2 wp wb go1 go2 _ ?side1 ?side2 ?side3 ?side4 ?side5 ?side6 ?side7 ?side8 HW.out).mono ?_); (case side1 => exact (Kd.S_reads' HS4.out).2.2); (case side2 => exact (Kd.S_reads' HS4.out).2.1); (case side3 => exact (Kd.S_reads' HS5.out).2.2); (case side4 => exact (Kd.S_reads' HS5.out).2.1); (case side5 => exact (Kd.R_reads' HI2.out).2.2); (case side6 => exact (Kd.R_reads' HI2.out).2.1); (case side7 => exact (Kd.R_reads' HS.out).2.2); (case side8 => exact (Kd.R_reads' HS.out).2.1); rintro e w10 ⟨u0, u1, rfl, ho0, ho1, hb⟩; obtain ⟨Au, cu, rfl⟩ := Kd.S_slice ho0; obtain ⟨Av, cv, rfl⟩ := Kd.S_slice ho1; have FU := Aside0.mk (laws_FnExactAddVersion.Fw.make HB9.out hb ho0 ho1); clear ho0 ho1 hb HS4 HS5 HI2 HS; have y0 : (w10.alloc (.cells #[.slice none 0 0, .slice none 0 0] 32)).cell? ⟨w10.heap.size, 0, none⟩ = some (.slice none 0 0) := (blk_cell (heap_alloc_new w10 _) 0).trans rfl; have y1 : (w10.alloc (.cells #[.slice none 0 0, .slice none 0 0] 32)).cell? ⟨w10.heap.size, 1, none⟩ = some (.slice none 0 0) := (blk_cell (heap_alloc_new w10 _) 1).trans rfl; have f0 := blk_frozen (heap_alloc_new w10 (.cells #[.slice none 0 0, .slice none 0 0] 32)) 0; have f1 := blk_frozen (heap_alloc_new w10 (.cells #[.slice none 0 0, .slice none 0 0] 32)) 1))
 generalize w10.alloc (.cells #[.slice Au wp.length cu, .slice Av wb.length cv] 32) = w11 at FU ⊢
 generalize w10.heap.size = g8 at FU ⊢
 generalize w9.heap.size = n1 at FU
 clear y0 y1 f0 f1 HB9
 have q0 : w11.cell? ⟨gA, 0, none⟩ = some (.slice A0 l0.length c0) := (blk_cell (blk_below HAB.out FU.out.b) 0).trans rfl
 have q1 : w11.cell? ⟨gA, 1, none⟩ = some (.slice A1 l1.length c1) := (blk_cell (blk_below HAB.out FU.out.b) 1).trans rfl
 have h82 : g8 < w11.heap.size := FU.out.lt
 go_upto_region 12 with (first
  | (go_at_call 10; (try simp only [i64_w]); (with_reducible refine (laws_toWeave.calls k _ _ l0 _ _ l1 xp xb _ ?side1 ?side2 ?side3 ?side4 HX0.out).mono ?_); (case side1 => exact Kd.C_below HR0.out FU.out.b); (case side2 => exact HC0.out); (case side3 => exact Kd.C_below HR1.out FU.out.b); (case side4 => exact HC1.out); rintro e w12 ⟨va, vb, rfl, ho0, ho1, hb⟩; obtain ⟨Ax0, cx0, rfl⟩ := Kd.S_slice ho0; obtain ⟨Ax1, cx1, rfl⟩ := Kd.S_slice ho1; have FX := Aside0.mk (laws_FnExactAddVersion.Fw.make FU.out.b hb ho0 ho1); have FU1 := Aside0.mk (FU.out.below (below_step hb (below_alloc (Below.refl w12.heap.size w12) (.cells #[.slice Ax0 xp.length cx0, .slice Ax1 xb.length cx1] 32)))); clear ho0 ho1 hb FU q0 q1; have y0 : (w12.alloc (.cells #[.slice none 0 0, .slice none 0 0] 32)).cell? ⟨w12.heap.size, 0, none⟩ = some (.slice none 0 0) := (blk_cell (heap_alloc_new w12 _) 0).trans rfl; have y1 : (w12.alloc (.cells #[.slice none 0 0, .slice none 0 0] 32)).cell? ⟨w12.heap.size, 1, none⟩ = some (.slice none 0 0) := (blk_cell (heap_alloc_new w12 _) 1).trans rfl; have f0 := blk_frozen (heap_alloc_new w12 (.cells #[.slice none 0 0, .slice none 0 0] 32)) 0; have f1 := blk_frozen (heap_alloc_new w12 (.cells #[.slice none 0 0, .slice none 0 0] 32)) 1))
 generalize w12.alloc (.cells #[.slice Ax0 xp.length cx0, .slice Ax1 xb.length cx1] 32) = w13 at FX FU1 ⊢
 generalize w12.heap.size = g11 at FX ⊢
 generalize w11.heap.size = n2 at FX h82
 clear y0 y1 f0 f1
 have h113 : g11 < w13.heap.size := FX.out.lt
 go_upto_region 14 with (first
  | (go_at_call 23; (try simp only [i64_w]); (with_reducible refine (laws_toIntS.calls k _ _ l2 x1 _ ?side1 ?side2 HX1.out).mono ?_); (case side1 => exact Kd.C_below HR2.out FU1.out.b); (case side2 => exact HC2.out); rintro e w14 ⟨vi, rfl, ho, hb⟩; obtain ⟨Ai, ci, rfl⟩ := Kd.R_slice ho; have HI := Aside0.mk (laws_FnExactAddVersion.row FU1.out.b ho); have FU2 := Aside0.mk (FU1.out.below hb); have FX1 := Aside0.mk (FX.out.below hb); have h134 := Below.size hb; clear ho hb FU1 FX)
  | (go_at_call 24; (try simp only [i64_w]); (with_reducible refine (laws_toStringS.calls k _ _ l3 x2 _ ?side1 ?side2 HX2.out).mono ?_); (case side1 => exact Kd.C_below HR3.out FU2.out.b); (case side2 => exact HC3.out); rintro e w15 ⟨vs, rfl, ho, hb⟩; obtain ⟨As, cs, rfl⟩ := Kd.R_slice ho; have HS := Aside0.mk (laws_FnExactAddVersion.row FU2.out.b ho); have HI1 := Aside0.mk (Kd.R_below HI.out hb); have FU3 := Aside0.mk (FU2.out.below hb); have FX2 := Aside0.mk (FX1.out.below hb); have h145 := Below.size hb; clear ho hb FU2 FX1 HI))
 obtain ⟨z0, z1⟩ := FX2.out.cells
 go_upto_region 15 with (first
  | (go_at_call 25; (try simp only [i64_w]); (with_reducible refine (impl_AddVersion.calls_ap k _ _ xp _ _ xb _ _ x1 _ _ x2 gp gb go1 go2 _ ?side1 ?side2 ?side3 ?side4 ?side5 ?side6 ?side7 ?side8 HG.out).mono ?_); (case side1 => exact (Kd.S_reads' FX2.out.s0).2.2); (case side2 => exact (Kd.S_reads' FX2.out.s0).2.1); (case side3 => exact (Kd.S_reads' FX2.out.s1).2.2); (case side4 => exact (Kd.S_reads' FX2.out.s1).2.1); (case side5 => exact (Kd.R_reads' HI1.out).2.2); (case side6 => exact (Kd.R_reads' HI1.out).2.1); (case side7 => exact (Kd.R_reads' HS.out).2.2); (case side8 => exact (Kd.R_reads' HS.out).2.1); rintro e w16 ⟨P_, v0, v1, rfl, ho0, ho1, hb⟩; obtain ⟨Ap, cp, rfl⟩ := Kd.S_slice ho0; obtain ⟨Ab, cb', rfl⟩ := Kd.S_slice ho1; have FV := Aside0.mk (laws_FnExactAddVersion.Fw.make FU3.out.b hb ho0 ho1); have hbA := below_step hb (below_alloc (Below.refl w16.heap.size w16) (.cells #[.slice Ap gp.length cp, .slice Ab gb.length cb'] 32)); have FU4 := Aside0.mk (FU3.out.below hbA); have FX3 := Aside0.mk (FX2.out.below hbA); have HI2 := Aside0.mk (Kd.R_below HI1.out hbA); have HS2 := Aside0.mk (Kd.R_below HS.out hbA); clear ho0 ho1 hb hbA FU3 FX2 HI1 HS z0 z1; have y0 : (w16.alloc (.cells #[.slice none 0 0, .slice none 0 0] 32)).cell? ⟨w16.heap.size, 0, none⟩ = some (.slice none 0 0) := (blk_cell (heap_alloc_new w16 _) 0).trans rfl; have y1 : (w16.alloc (.cells #[.slice none 0 0, .slice none 0 0] 32)).cell? ⟨w16.heap.size, 1, none⟩ = some (.slice none 0 0) := (blk_cell (heap_alloc_new w16 _) 1).trans rfl; have f0 := blk_frozen (heap_alloc_new w16 (.cells #[.slice none 0 0, .slice none 0 0] 32)) 0; have f1 := blk_frozen (heap_alloc_new w16 (.cells #[.slice none 0 0, .slice none 0 0] 32)) 1))
 generalize w16.alloc (.cells #[.slice Ap gp.length cp, .slice Ab gb.length cb'] 32) = w17 at FV FU4 FX3 HI2 HS2 ⊢
 generalize w16.heap.size = g14 at FV ⊢
 generalize w15.heap.size = n5 at FV HS2 h145
 generalize w14.heap.size = n4 at HI2 HS2 h134 h145
 generalize w13.heap.size = n3 at HI2 h113 h134
 clear y0 y1 f0 f1
 have eg1 : (go1 != go1) = false := by simp
 have eg2 : (go2 != go2) = false := by simp
 obtain ⟨z0, z1⟩ := FV.out.cells
 obtain ⟨y0, y1⟩ := FU4.out.cells
 go_upto_region 17 with (first
  | (go_at_call 12; (try simp only [i64_w]); (with_reducible refine (laws_eqWeave.calls k _ _ gp _ _ gb _ _ wp _ _ wb true _ ?side1 ?side2 ?side3 ?side4 ?side5 ?side6 ?side7 ?side8 HE.out).mono ?_); (case side1 => exact (Kd.S_reads' FV.out.s0).2.2); (case side2 => exact (Kd.S_reads' FV.out.s0).2.1); (case side3 => exact (Kd.S_reads' FV.out.s1).2.2); (case side4 => exact (Kd.S_reads' FV.out.s1).2.1); (case side5 => exact (Kd.S_reads' FU4.out.s0).2.2); (case side6 => exact (Kd.S_reads' FU4.out.s0).2.1); (case side7 => exact (Kd.S_reads' FU4.out.s1).2.2); (case side8 => exact (Kd.S_reads' FU4.out.s1).2.1); rintro e w18 ⟨rfl, hb⟩; have FU5 := Aside0.mk (FU4.out.below hb); have FX4 := Aside0.mk (FX3.out.below hb); have HI3 := Aside0.mk (Kd.R_below HI2.out hb); have HS3 := Aside0.mk (Kd.R_below HS2.out hb); have FV1 := Aside0.mk (FV.out.below hb); clear hb FU4 FX3 HI2 HS2 FV z0 z1 y0 y1))
 have hbD := below_drew1 (Below.refl w18.heap.size w18)
 have FU6 := Aside0.mk (FU5.out.below hbD)
 have FX5 := Aside0.mk (FX4.out.below hbD)
 have HI4 := Aside0.mk (Kd.R_below HI3.out hbD)
 have HS4 := Aside0.mk (Kd.R_below HS3.out hbD)
 have FV2 := Aside0.mk (FV1.out.below hbD)
 clear FU5 FX4 HI3 HS3 FV1 hbD
 have KF : ∀ W, laws_FnExactAddVersion.Fw w2 W n2 g11 (fun _ => True) (fun _ => True) (.slice Ax0 xp.length cx0) (.slice Ax1 xb.length cx1) xp xb → W.cell? ⟨g11, 0, none⟩ = some (.slice Ax0 xp.length cx0) ∧ W.cell? ⟨g11, 1, none⟩ = some (.slice Ax1 xb.length cx1) ∧ W.cell? ⟨gA, 0, none⟩ = some (.slice A0 l0.length c0) ∧ W.cell? ⟨gA, 1, none⟩ = some (.slice A1 l1.length c1) := fun W F => ⟨F.cells.1, F.cells.2, (blk_cell (blk_below HAB.out F.b) 0).trans rfl, (blk_cell (blk_below HAB.out F.b) 1).trans rfl⟩
 have HKF := Aside0.mk KF
 clear KF
 have K8 := Aside0.mk (HKF.out _ FX5.out)
 refine wp_region_noPanic ?_
 refine wp_region_held_drew (S := (fun W' => W'.cell? ⟨g11, 0, none⟩ = some (.slice Ax0 xp.length cx0) ∧ W'.cell? ⟨g11, 1, none⟩ = some (.slice Ax1 xb.length cx1) ∧ W'.cell? ⟨gA, 0, none⟩ = some (.slice A0 l0.length c0) ∧ W'.cell? ⟨gA, 1, none⟩ = some (.slice A1 l1.length c1))) (by kernel_rfl) (by (try dsimp only); (first | exact K8.out | exact KA.out | exact KB.out)) (fun hHeld => ?_)
 (refine wpAnyH_take (i := 0) (oi := _) (v := ?_) rfl (by kernel_rfl) (by kernel_rfl) (by kernel_rfl) (fun _ _ _ h => h) (Or.inl ⟨by rfl, ?_⟩) (by assumption) ?_; rotate_left; (· (intro w hSw; (try dsimp only at hSw); go_simp; try with_reducible rfl)); (try simp only [Act.put, List.setIfInBounds_toArray, List.set_cons_zero, List.set_cons_succ]))
 (refine wpAnyH_take (i := 1) (oi := _) (v := ?_) rfl (by kernel_rfl) (by kernel_rfl) (by kernel_rfl) (fun _ _ _ h => h) (Or.inl ⟨by rfl, ?_⟩) (by assumption) ?_; rotate_left; (· (intro w hSw; (try dsimp only at hSw); go_simp; try with_reducible rfl)); (try simp only [Act.put, List.setIfInBounds_toArray, List.set_cons_zero, List.set_cons_succ]))
 all_goals (refine wpAnyH_ready (rs := [2]) (by decide +kernel) (by simp) ?_; refine AllReadyH.cons (o := _) rfl (fun K hK => ?_) AllReadyH.nil)
 all_goals (go_simp; (go_at_call 10; (try simp only [i64_w]); (with_reducible refine (laws_toWeave.calls k _ _ l0 _ _ l1 xp xb _ ?side1 ?side2 ?side3 ?side4 HX0.out).mono ?_); (case side1 => exact Kd.C_below HR0.out FU6.out.b); (case side2 => exact HC0.out); (case side3 => exact Kd.C_below HR1.out FU6.out.b); (case side4 => exact HC1.out); rintro e wA ⟨va, vb, rfl, ho0, ho1, hb⟩; obtain ⟨Aa, ca, rfl⟩ := Kd.S_slice ho0; obtain ⟨Ab2, cb2, rfl⟩ := Kd.S_slice ho1; have HT0 := Aside0.mk (ho0); have HT1 := Aside0.mk (ho1); have FU7 := Aside0.mk (FU6.out.below hb); have FX6 := Aside0.mk (FX5.out.below hb); have HI5 := Aside0.mk (Kd.R_below HI4.out hb); have HS5 := Aside0.mk (Kd.R_below HS4.out hb); have FV3 := Aside0.mk (FV2.out.below hb); have KA := Aside0.mk (HKF.out _ FX6.out); clear ho0 ho1 hb); refine hK.out _ _ (by (try dsimp only); (first | exact K8.out | exact KA.out | exact KB.out)) (fun hHeld => ?_); clear hK K; (try simp only [Act.put, List.setIfInBounds_toArray, List.set_cons_zero, List.set_cons_succ]))
 all_goals (refine wpAnyH_ready (rs := [3]) (by decide +kernel) (by simp) ?_; refine AllReadyH.cons (o := _) rfl (fun K hK => ?_) AllReadyH.nil)
 all_goals (go_simp; (go_at_call 12; (try simp only [i64_w]); (with_reducible refine (laws_eqWeave.calls k _ _ xp _ _ xb _ _ xp _ _ xb true _ ?side1 ?side2 ?side3 ?side4 ?side5 ?side6 ?side7 ?side8 HE0.out).mono ?_); (case side1 => exact (Kd.S_reads' FX6.out.s0).2.2); (case side2 => exact (Kd.S_reads' FX6.out.s0).2.1); (case side3 => exact (Kd.S_reads' FX6.out.s1).2.2); (case side4 => exact (Kd.S_reads' FX6.out.s1).2.1); (case side5 => exact (Kd.S_reads' HT0.out).2.2); (case side6 => exact (Kd.S_reads' HT0.out).2.1); (case side7 => exact (Kd.S_reads' HT1.out).2.2); (case side8 => exact (Kd.S_reads' HT1.out).2.1); rintro e wB ⟨rfl, hb⟩; have FU8 := Aside0.mk (FU7.out.below hb); have FX7 := Aside0.mk (FX6.out.below hb); have HI6 := Aside0.mk (Kd.R_below HI5.out hb); have HS6 := Aside0.mk (Kd.R_below HS5.out hb); have FV4 := Aside0.mk (FV3.out.below hb); have KB := Aside0.mk (HKF.out _ FX7.out); clear hb); refine hK.out _ _ (by (try dsimp only); (first | exact K8.out | exact KA.out | exact KB.out)) (fun hHeld => ?_); clear hK K; (try simp only [Act.put, List.setIfInBounds_toArray, List.set_cons_zero, List.set_cons_succ]))
 all_goals (refine wpAnyH_ready (rs := [4]) (by decide +kernel) (by simp) ?_; refine AllReadyH.cons (o := _) rfl (fun K hK => ?_) AllReadyH.nil)
 all_goals (go_simp; refine hK.out _ _ (by (try dsimp only); (first | exact K8.out | exact KA.out | exact KB.out)) (fun hHeld => ?_); clear hK K; (try simp only [Act.put, List.setIfInBounds_toArray, List.set_cons_zero, List.set_cons_succ]))
 all_goals (refine wpAnyH_done (by kernel_rfl) ?_ _)
 all_goals (refine NoPanic.normal ?_)
 clear K8 KA KB FU6 FU7 FX5 FX6 HI4 HI5 HS4 HS5 FV2 FV3 HT0 HT1 HKF
 go_upto_region 21 with (first
  | (go_at_call 23; (try simp only [i64_w]); (with_reducible refine (laws_toIntS.calls k _ _ l2 x1 _ ?side1 ?side2 HX1.out).mono ?_); (case side1 => exact Kd.C_below HR2.out FU8.out.b); (case side2 => exact HC2.out); rintro e w20 ⟨vi, rfl, ho, hb⟩; obtain ⟨Aj, cj, rfl⟩ := Kd.R_slice ho; have HZ0 := Aside0.mk (ho); have FU9 := Aside0.mk (FU8.out.below hb); have FX8 := Aside0.mk (FX7.out.below hb); have HI7 := Aside0.mk (Kd.R_below HI6.out hb); have HS7 := Aside0.mk (Kd.R_below HS6.out hb); have FV5 := Aside0.mk (FV4.out.below hb); clear ho hb FU8 FX7 HI6 HS6 FV4)
  | (go_at_call 26; (try simp only [i64_w]); (with_reducible refine (laws_eqIntS.calls k _ _ x1 _ _ x1 true _ ?side1 ?side2 ?side3 ?side4 HE1.out).mono ?_); (case side1 => exact (Kd.R_reads' HI7.out).2.2); (case side2 => exact (Kd.R_reads' HI7.out).2.1); (case side3 => exact (Kd.R_reads' HZ0.out).2.2); (case side4 => exact (Kd.R_reads' HZ0.out).2.1); rintro e w21 ⟨rfl, hd⟩; have hb := laws_FnExactAddVersion.db hd; have FU10 := Aside0.mk (FU9.out.below hb); have FX9 := Aside0.mk (FX8.out.below hb); have HI8 := Aside0.mk (Kd.R_below HI7.out hb); have HS8 := Aside0.mk (Kd.R_below HS7.out hb); have FV6 := Aside0.mk (FV5.out.below hb); clear hd hb FU9 FX8 HI7 HS7 FV5 HZ0))
 go_upto_region 23 with (first
  | (go_at_call 24; (try simp only [i64_w]); (with_reducible refine (laws_toStringS.calls k _ _ l3 x2 _ ?side1 ?side2 HX2.out).mono ?_); (case side1 => exact Kd.C_below HR3.out FU10.out.b); (case side2 => exact HC3.out); rintro e w22 ⟨vi, rfl, ho, hb⟩; obtain ⟨Aj2, cj2, rfl⟩ := Kd.R_slice ho; have HZ0 := Aside0.mk (ho); have FU11 := Aside0.mk (FU10.out.below hb); have FX10 := Aside0.mk (FX9.out.below hb); have HI9 := Aside0.mk (Kd.R_below HI8.out hb); have HS9 := Aside0.mk (Kd.R_below HS8.out hb); have FV7 := Aside0.mk (FV6.out.below hb); clear ho hb FU10 FX9 HI8 HS8 FV6)
  | (go_at_call 27; (try simp only [i64_w]); (with_reducible refine (laws_eqStringS.calls k _ _ x2 _ _ x2 true _ ?side1 ?side2 ?side3 ?side4 HE2.out).mono ?_); (case side1 => exact (Kd.R_reads' HS9.out).2.2); (case side2 => exact (Kd.R_reads' HS9.out).2.1); (case side3 => exact (Kd.R_reads' HZ0.out).2.2); (case side4 => exact (Kd.R_reads' HZ0.out).2.1); rintro e w23 ⟨rfl, hd⟩; have hb := laws_FnExactAddVersion.db hd; have FU12 := Aside0.mk (FU11.out.below hb); have FX11 := Aside0.mk (FX10.out.below hb); have HI10 := Aside0.mk (Kd.R_below HI9.out hb); have HS10 := Aside0.mk (Kd.R_below HS9.out hb); have FV8 := Aside0.mk (FV7.out.below hb); clear hd hb FU11 FX10 HI9 HS9 FV7 HZ0))
 have hn := And.intro h82 (And.intro FX11.out.ng (And.intro h113 (And.intro h134 h145)))
 have HN := Aside0.mk hn
 clear hn h82 h113 h134 h145
 obtain ⟨z0, z1⟩ := FX11.out.cells
 go_upto_region 26 with (first
  | (go_at_call 16; (try simp only [i64_w]); (with_reducible refine (laws_markWeave.calls (fun k_ => (n2 ≤ k_ ∧ k_ < g11) ∧ True) _ xp (fun k_ => (n2 ≤ k_ ∧ k_ < g11) ∧ True) _ xb 1 k0 w2 _ ?side1 ?side2 ?side3 HK0.out).mono ?_); (case side1 => exact FX11.out.b); (case side2 => exact FX11.out.s0); (case side3 => exact FX11.out.s1); rintro e w24 ⟨rfl, hb, hk⟩; have hN := HN.out; have FU13 := Aside0.mk (FU12.out.kept hb hk (fun k h => by omega)); have FV9 := Aside0.mk (FV8.out.kept hb hk (fun k h => by omega)); have HI11 := Aside0.mk (Kd.R_step HI10.out (fun k h1 hl => hk.2 k hl (fun h => by omega))); have HS11 := Aside0.mk (Kd.R_step HS10.out (fun k h1 hl => hk.2 k hl (fun h => by omega))); clear hN hb hk FU12 FV8 HI10 HS10 FX11 z0 z1)
  | (go_at_call 28; (try simp only [i64_w]); (with_reducible refine (laws_markIntS.calls k (fun k_ => n3 ≤ k_ ∧ k_ < n4) _ x1 k0 k1 y1 w2 _ ?side1 ?side2 HK1.out).mono ?_); (case side1 => exact FU13.out.b); (case side2 => exact HI11.out); rintro e w25 ⟨rfl, _, hb, hk⟩; have hN := HN.out; have FU14 := Aside0.mk (FU13.out.kept hb hk (fun k h => by omega)); have FV10 := Aside0.mk (FV9.out.kept hb hk (fun k h => by omega)); have HS12 := Aside0.mk (Kd.R_step HS11.out (fun k h1 hl => hk.2 k hl (fun h => by omega))); clear hN hb hk FU13 FV9 HI11 HS11))
 go_upto_region 27 with (first
  | (go_at_call 29; (try simp only [i64_w]); (with_reducible refine (laws_markStringS.calls k (fun k_ => n4 ≤ k_ ∧ k_ < n5) _ x2 k1 k2 y2 w2 _ ?side1 ?side2 HK2.out).mono ?_); (case side1 => exact FU14.out.b); (case side2 => exact HS12.out); rintro e w26 ⟨rfl, _, hb, hk⟩; have hN := HN.out; have FU15 := Aside0.mk (FU14.out.kept hb hk (fun k h => by omega)); have FV11 := Aside0.mk (FV10.out.kept hb hk (fun k h => by omega)); clear hN hb hk FU14 FV10 HS12))
 obtain ⟨z0, z1⟩ := FV11.out.cells
 obtain ⟨y0, y1⟩ := FU15.out.cells
 have ek : decide (k2 < 0) = false := by simpa using g5
 go_upto_region 29 with (first
  | (go_at_call 12; (try simp only [i64_w]); (with_reducible refine (laws_eqWeave.calls k _ _ gp _ _ gb _ _ wp _ _ wb true _ ?side1 ?side2 ?side3 ?side4 ?side5 ?side6 ?side7 ?side8 HE.out).mono ?_); (case side1 => exact (Kd.S_reads' FV11.out.s0).2.2); (case side2 => exact (Kd.S_reads' FV11.out.s0).2.1); (case side3 => exact (Kd.S_reads' FV11.out.s1).2.2); (case side4 => exact (Kd.S_reads' FV11.out.s1).2.1); (case side5 => exact (Kd.S_reads' FU15.out.s0).2.2); (case side6 => exact (Kd.S_reads' FU15.out.s0).2.1); (case side7 => exact (Kd.S_reads' FU15.out.s1).2.2); (case side8 => exact (Kd.S_reads' FU15.out.s1).2.1); rintro e w27 ⟨rfl, hb⟩; have FU16 := Aside0.mk (FU15.out.below hb); have FV12 := Aside0.mk (FV11.out.below hb); clear hb FU15 FV11))
 clear z0 z1 y0 y1 ek
 obtain ⟨q, hqe⟩ : ∃ q : Int, q = 1 + lensL gp + lenB gb := ⟨_, rfl⟩
 have HCM := Aside0.mk (markWeaveK (fun k => (n5 ≤ k ∧ k < g14) ∧ ¬ P_ k) (fun k => (n5 ≤ k ∧ k < g14) ∧ P_ k) (fun k h h2 => h.2 h2.2) _ _ gp gb HM.out w2 w27 FV12.out.b FV12.out.s0 FV12.out.s1)
 rw [← hqe] at HCM HQ
 have EL := Aside0.mk (marksLL_length 1 gp)
 have EB := Aside0.mk (marksBB_length (1 + lensL gp) gb)
 have qn0 : decide (q < 0) = false := by
  have : ¬ q < 0 := by omega
  simpa using this
 have qn1 : (q != q) = false := by simp
 clear hqe
 obtain ⟨z0, z1⟩ := FV12.out.cells
 go_upto_region 32 with (first
  | (go_at_call 16; refine HCM.out.mono ?_; rintro e w28 ⟨rfl, h0_, h1_, hb, hk⟩; have hN := HN.out; have FV13 := Aside0.mk (FV12.out.marked hb hk h0_ h1_); have FU17 := Aside0.mk (FU16.out.kept hb hk (fun k h => by omega)); clear hN hb hk h0_ h1_ FV12 FU16))
 clear z0 z1
 obtain ⟨z0, z1⟩ := FV13.out.cells
 go_upto_region 37 with (first
  | (go_at_call 30; have hc_ := laws_heldWeave.calls k Ap cp (marksLL 1 gp) Ab cb' (marksBB (1 + lensL gp) gb) 1 q _ (Kd.S_reads' FV13.out.s0).2.2 (by have h_ := Kd.S_reads' FV13.out.s0; omega) (Kd.S_reads' FV13.out.s1).2.2 (by have h_ := Kd.S_reads' FV13.out.s1; omega) HQ.out; rw [EL.out, EB.out] at hc_; refine hc_.mono ?_; rintro e w29 ⟨rfl, hb⟩; have FU18 := Aside0.mk (FU17.out.below hb); have FV14 := Aside0.mk (FV13.out.below hb); clear hb hc_ FU17 FV13))
 clear z0 z1
 have q0 : w29.cell? ⟨gA, 0, none⟩ = some (.slice A0 l0.length c0) := (blk_cell (blk_below HAB.out FU18.out.b) 0).trans rfl
 have q1 : w29.cell? ⟨gA, 1, none⟩ = some (.slice A1 l1.length c1) := (blk_cell (blk_below HAB.out FU18.out.b) 1).trans rfl
 go_upto_region 38 with (first
  | (go_at_call 10; (try simp only [i64_w]); (with_reducible refine (laws_toWeave.calls k _ _ l0 _ _ l1 xp xb _ ?side1 ?side2 ?side3 ?side4 HX0.out).mono ?_); (case side1 => exact Kd.C_below HR0.out FU18.out.b); (case side2 => exact HC0.out); (case side3 => exact Kd.C_below HR1.out FU18.out.b); (case side4 => exact HC1.out); rintro e w30 ⟨va, vb, rfl, ho0, ho1, hb⟩; obtain ⟨Aa, ca, rfl⟩ := Kd.S_slice ho0; obtain ⟨Ab2, cb2, rfl⟩ := Kd.S_slice ho1; have HT0 := Aside0.mk (ho0); have HT1 := Aside0.mk (ho1); have FU19 := Aside0.mk (FU18.out.below hb); have FV15 := Aside0.mk (FV14.out.below hb); clear ho0 ho1 hb FU18 FV14 q0 q1)
  | (go_at_call 23; (try simp only [i64_w]); (with_reducible refine (laws_toIntS.calls k _ _ l2 x1 _ ?side1 ?side2 HX1.out).mono ?_); (case side1 => exact Kd.C_below HR2.out FU19.out.b); (case side2 => exact HC2.out); rintro e w31 ⟨vi, rfl, ho, hb⟩; obtain ⟨Aj3, cj3, rfl⟩ := Kd.R_slice ho; have HT2 := Aside0.mk (ho); have HT3 := Aside0.mk (Kd.S_below HT0.out hb); have HT4 := Aside0.mk (Kd.S_below HT1.out hb); have FU20 := Aside0.mk (FU19.out.below hb); have FV16 := Aside0.mk (FV15.out.below hb); clear ho hb FU19 FV15 HT0 HT1)
  | (go_at_call 24; (try simp only [i64_w]); (with_reducible refine (laws_toStringS.calls k _ _ l3 x2 _ ?side1 ?side2 HX2.out).mono ?_); (case side1 => exact Kd.C_below HR3.out FU20.out.b); (case side2 => exact HC3.out); rintro e w32 ⟨vi, rfl, ho, hb⟩; obtain ⟨Aj4, cj4, rfl⟩ := Kd.R_slice ho; have HT5 := Aside0.mk (ho); have HT6 := Aside0.mk (Kd.S_below HT3.out hb); have HT7 := Aside0.mk (Kd.S_below HT4.out hb); have HT8 := Aside0.mk (Kd.R_below HT2.out hb); have FU21 := Aside0.mk (FU20.out.below hb); have FV17 := Aside0.mk (FV16.out.below hb); clear ho hb FU20 FV16 HT2 HT3 HT4)
  | (go_at_call 25; (try simp only [i64_w]); (with_reducible refine (impl_AddVersion.calls_ap k _ _ xp _ _ xb _ _ x1 _ _ x2 gp gb go1 go2 _ ?side1 ?side2 ?side3 ?side4 ?side5 ?side6 ?side7 ?side8 HG.out).mono ?_); (case side1 => exact (Kd.S_reads' HT6.out).2.2); (case side2 => exact (Kd.S_reads' HT6.out).2.1); (case side3 => exact (Kd.S_reads' HT7.out).2.2); (case side4 => exact (Kd.S_reads' HT7.out).2.1); (case side5 => exact (Kd.R_reads' HT8.out).2.2); (case side6 => exact (Kd.R_reads' HT8.out).2.1); (case side7 => exact (Kd.R_reads' HT5.out).2.2); (case side8 => exact (Kd.R_reads' HT5.out).2.1); rintro e w33 ⟨P2_, v0, v1, rfl, ho0, ho1, hb⟩; obtain ⟨Aq, cq, rfl⟩ := Kd.S_slice ho0; obtain ⟨Ar, cr, rfl⟩ := Kd.S_slice ho1; have FH := Aside0.mk (laws_FnExactAddVersion.Fw.make FU21.out.b hb ho0 ho1); have hbA := below_step hb (below_alloc (Below.refl w33.heap.size w33) (.cells #[.slice Aq gp.length cq, .slice Ar gb.length cr] 32)); have FU22 := Aside0.mk (FU21.out.below hbA); have FV18 := Aside0.mk (FV17.out.below hbA); clear ho0 ho1 hb hbA FU21 FV17 HT5 HT6 HT7 HT8; have y0 : (w33.alloc (.cells #[.slice none 0 0, .slice none 0 0] 32)).cell? ⟨w33.heap.size, 0, none⟩ = some (.slice none 0 0) := (blk_cell (heap_alloc_new w33 _) 0).trans rfl; have y1 : (w33.alloc (.cells #[.slice none 0 0, .slice none 0 0] 32)).cell? ⟨w33.heap.size, 1, none⟩ = some (.slice none 0 0) := (blk_cell (heap_alloc_new w33 _) 1).trans rfl; have f0 := blk_frozen (heap_alloc_new w33 (.cells #[.slice none 0 0, .slice none 0 0] 32)) 0; have f1 := blk_frozen (heap_alloc_new w33 (.cells #[.slice none 0 0, .slice none 0 0] 32)) 1))
 generalize w33.alloc (.cells #[.slice Aq gp.length cq, .slice Ar gb.length cr] 32) = w34 at FH FU22 FV18 ⊢
 generalize w33.heap.size = g20 at FH ⊢
 generalize w32.heap.size = n6 at FH
 clear y0 y1 f0 f1
 obtain ⟨z0, z1⟩ := FH.out.cells
 obtain ⟨y0, y1⟩ := FU22.out.cells
 go_upto_region 40 with (first
  | (go_at_call 12; (try simp only [i64_w]); (with_reducible refine (laws_eqWeave.calls k _ _ gp _ _ gb _ _ wp _ _ wb true _ ?side1 ?side2 ?side3 ?side4 ?side5 ?side6 ?side7 ?side8 HE.out).mono ?_); (case side1 => exact (Kd.S_reads' FH.out.s0).2.2); (case side2 => exact (Kd.S_reads' FH.out.s0).2.1); (case side3 => exact (Kd.S_reads' FH.out.s1).2.2); (case side4 => exact (Kd.S_reads' FH.out.s1).2.1); (case side5 => exact (Kd.S_reads' FU22.out.s0).2.2); (case side6 => exact (Kd.S_reads' FU22.out.s0).2.1); (case side7 => exact (Kd.S_reads' FU22.out.s1).2.2); (case side8 => exact (Kd.S_reads' FU22.out.s1).2.1); rintro e w35 ⟨rfl, hb⟩; have FU23 := Aside0.mk (FU22.out.below hb); have FV19 := Aside0.mk (FV18.out.below hb); clear hb FU22 FV18 FH))
 clear z0 z1 y0 y1
 obtain ⟨z0, z1⟩ := FV19.out.cells
 go_wp2_with (first
  | (go_at_call 30; have hc_ := laws_heldWeave.calls k Ap cp (marksLL 1 gp) Ab cb' (marksBB (1 + lensL gp) gb) 1 q _ (Kd.S_reads' FV19.out.s0).2.2 (by have h_ := Kd.S_reads' FV19.out.s0; omega) (Kd.S_reads' FV19.out.s1).2.2 (by have h_ := Kd.S_reads' FV19.out.s1; omega) HQ.out; rw [EL.out, EB.out] at hc_; refine hc_.mono ?_; rintro e w36 ⟨rfl, hb⟩; have FU24 := Aside0.mk (FU23.out.below hb); clear hb hc_ FU23 FV19))
 go_ret
 exact ⟨by first | rfl | (simp; done), below_step HBX.out FU24.out.b⟩
/-- What is left of laws_FnExactAddVersion. -/
def laws_FnExactAddVersion.Pure : Prop := ∀ (l0_0 : List (List Int)) (l0_1 : List (S120)), ∀ (l1 : List Int), ∀ (l2 : List ByteArray), (l0_0.length * 24 ≤ 140737488351232 ∧ ∀ x0 ∈ l0_0, x0.length * 8 ≤ 140737488351232 ∧ ∀ x1 ∈ x0, (Lit.int .i64 x1).wf = true) → (l0_1.length * 56 ≤ 140737488351232 ∧ ∀ x0 ∈ l0_1, (x0.f0.size ≤ 140737488351232) ∧ ((Lit.int .i64 x0.f1).wf = true) ∧ ((Lit.int .i64 x0.f2).wf = true) ∧ (x0.f3.length * 8 ≤ 140737488351232 ∧ ∀ x1 ∈ x0.f3, (Lit.int .i64 x1).wf = true)) → (l1.length * 8 ≤ 140737488351232 ∧ ∀ x0 ∈ l1, (Lit.int .i64 x0).wf = true) → (l2.length * 16 ≤ 140737488351232 ∧ ∀ x0 ∈ l2, x0.size ≤ 140737488351232) → ∃ k, laws_FnExactAddVersion.f k l0_0 l0_1 l1 l2 = some true

end Go.Proofs.Ytmodgiingohphaa.PFnExactAddVersion
