-- Made by a program (the kit's print with additions of this session: wip/tools/patch_print.py, ext.py).
-- (turned)
import Derived.Test.YtmodgiingohphaaGreatPFnExactFromRecordsx0
import Derived.Test.YtmodgiingohphaaGreatPFnExactFromRecordsx2
import Derived.Test.YtmodgiingohphaaGreatPFnExactFromRecordsx8
import Derived.Test.YtmodgiingohphaaGreatPFnExactFromRecordsx15
import Derived.Test.YtmodgiingohphaaGreatPFnExactFromRecordsx16
import Derived.Test.YtmodgiingohphaaGreatPFnExactFromRecordsx17
import Derived.Test.YtmodgiingohphaaGreatPFnExactFromRecordsx18
import Derived.Test.YtmodgiingohphaaGreatPFnExactFromRecordsx20
namespace Go.Proofs.YtmodgiingohphaaGreat.PFnExactFromRecords
open Go.RowKit Go.Proofs.YtmodgiingohphaaGreatW.PrintWords Go.Proofs.YtmodgiingohphaaGreatW.PrintLast Go.Proofs.YtmodgiingohphaaGreatW.PrintMore
attribute [local go_sem] max2_int min2_int max_two min_two max_three min_three max_four min_four   -- for this text's walks alone
set_option linter.unusedVariables false
set_option linter.unusedSimpArgs false

/-! ### laws_FnExactFromRecords: function 3 -/
/-- A row marked from a on. -/
def kMarks : Int → List Int → List Int
  | _, [] => []
  | a, _ :: l => a :: kMarks (a + 1) l
theorem kMarks_length (a : Int) (l : List Int) : (kMarks a l).length = l.length := by
  induction l generalizing a with
  | nil => rfl
  | cons x l ih => simp [kMarks, ih]
/-- Marked up to i. -/
def marksTo (a : Int) (l : List Int) (i : Nat) : List Int := kMarks a (l.take i) ++ l.drop i
theorem marksTo_length (a : Int) (l : List Int) (i : Nat) : (marksTo a l i).length = l.length := by
  simp [marksTo, kMarks_length]; omega
theorem marksTo_set (a : Int) (l : List Int) (i : Nat) (hi : i < l.length) : (marksTo a l i).set i (a + i) = marksTo a l (i + 1) := by
  induction l generalizing a i with
  | nil => simp at hi
  | cons x l ih =>
    cases i with
    | zero => simp [marksTo, kMarks]
    | succ i =>
     have := ih (a + 1) i (by simpa using hi); simp only [marksTo, List.take_succ_cons, kMarks, List.drop_succ_cons, List.cons_append, List.set_cons_succ] at this ⊢; rw [show a + ((i + 1 : Nat) : Int) = a + 1 + (i : Int) by omega, this]
theorem marksTo_all (a : Int) (l : List Int) : marksTo a l l.length = kMarks a l := by simp [marksTo]
set_option maxHeartbeats 8000000 in
set_option maxRecDepth 100000 in
theorem markRow (base : Nat) (ok : Nat → Prop) (v : Value) (l : List Int) (a1 : Int) (h0 : 0 ≤ a1) (hb : a1 + l.length ≤ 4611686018427387904) (w : World) (hr : Kd.R (Kd.int .i64) 3 w base ok v l) :
    Calls Tryz.prog 43 #[v, .int .i64 a1] w fun e w' => e = .returned (.int .i64 (a1 + l.length)) ∧ Kd.R (Kd.int .i64) 3 w' base ok v (kMarks a1 l) ∧ w.grownBy w' v.ownBlock := by
  obtain ⟨A, c, ev⟩ := Kd.R_slice hr; subst ev; have HR := Aside0.mk hr; clear hr; go_enter Tryz.func43, Tryz.ntmps43; go_wp2; go_loopg [1, 5] l.length (fun kq v1 v5 w' => ∃ i : Nat, i + kq = l.length ∧ v1 = .int .i64 (a1 + i) ∧ v5 = .int .i64 i ∧ Aside0 (Kd.R (Kd.int .i64) 3 w' base ok (.slice A l.length c) (marksTo a1 l i)) ∧ Aside0 (w.grownBy w' (Value.slice A l.length c).ownBlock))
  case atStart => exact ⟨0, by omega, by simp, by simp, ⟨by simpa [marksTo, kMarks] using HR.out⟩, ⟨grown_of_below (Below.refl _ _) _⟩⟩
  case round =>
    obtain ⟨i, hi, rfl, rfl, HJ, HG⟩ := hrel
    cases gk with
    | zero =>
     have hlt : ¬ (i < l.length) := (by omega); obtain rfl : i = l.length := (by omega); go_wp2; go_ret; exact ⟨by first | rfl | (simp; done), by rw [← marksTo_all]; exact HJ.out, HG.out⟩
    | succ k1 =>
     have hlt : i < l.length := (by omega); have hl := marksTo_length a1 l i; obtain ⟨g, c', eg, _, _, _⟩ := Kd.R_form HJ.out (by omega); rw [hl] at eg; cases eg; have HJ' := HJ.out; obtain ⟨hc, hf⟩ := Kd.R_celln (0 : Int) HJ' (i : Int) (by omega) (by omega); obtain ⟨hp, hg⟩ := Kd.R_putg HJ' (i : Int) (a1 + i); rw [Int.toNat_natCast, marksTo_set a1 l i hlt] at hp; rw [Int.toNat_natCast] at hc hf hg; have HN := Aside0.mk hp; have HN2 := Aside0.mk hg; clear hp hg HJ'; go_wp2; go_roundg k1
     case measure => omega
     case rel => exact ⟨i + 1, by omega, by go_num, by go_num, HN, ⟨HG.out.trans HN2.out⟩⟩
def lensL : List (List Int) → Nat
  | [] => 0
  | r :: l => r.length + lensL l
def marksLL : Int → List (List Int) → List (List Int)
  | _, [] => []
  | a, r :: l => kMarks a r :: marksLL (a + r.length) l
def marksLLTo (a : Int) (l : List (List Int)) (i : Nat) : List (List Int) := marksLL a (l.take i) ++ l.drop i
theorem marksLL_length (a : Int) (l : List (List Int)) : (marksLL a l).length = l.length := by
  induction l generalizing a with
  | nil => rfl
  | cons x l ih => simp [marksLL, ih]
theorem marksLLTo_length (a : Int) (l : List (List Int)) (i : Nat) : (marksLLTo a l i).length = l.length := by
  simp [marksLLTo, marksLL_length]; omega
theorem marksLLTo_get (a : Int) (l : List (List Int)) (i : Nat) (hi : i < l.length) : (marksLLTo a l i).getD i [] = l.getD i [] := by
  have hm : (marksLL a (l.take i)).length = i := (by rw [marksLL_length, List.length_take]; omega); unfold marksLLTo; rw [List.getD_eq_getElem?_getD, List.getElem?_append_right (by omega), hm, List.getElem?_drop, List.getD_eq_getElem?_getD]; simp
theorem lensL_take (l : List (List Int)) (i : Nat) (hi : i < l.length) : lensL (l.take (i + 1)) = lensL (l.take i) + (l.getD i []).length := by
  induction l generalizing i with
  | nil => simp at hi
  | cons x l ih =>
    cases i with
    | zero => simp [lensL]
    | succ i => have := ih i (by simpa using hi); simp only [List.take_succ_cons, lensL, List.getD_cons_succ] at this ⊢; omega
theorem lensL_le (l : List (List Int)) (i : Nat) : lensL (l.take i) ≤ lensL l := by
  induction l generalizing i with
  | nil => simp
  | cons x l ih =>
    cases i with
    | zero => simp [lensL]
    | succ i => have := ih i; simp only [List.take_succ_cons, lensL]; omega
theorem marksLLTo_set (a : Int) (l : List (List Int)) (i : Nat) (hi : i < l.length) : (marksLLTo a l i).set i (kMarks (a + lensL (l.take i)) (l.getD i [])) = marksLLTo a l (i + 1) := by
  induction l generalizing a i with
  | nil => simp at hi
  | cons x l ih =>
    cases i with
    | zero => simp [marksLLTo, marksLL, lensL]
    | succ i =>
     have := ih (a + x.length) i (by simpa using hi); simp only [marksLLTo, List.take_succ_cons, marksLL, List.drop_succ_cons, List.cons_append, List.set_cons_succ, lensL, List.getD_cons_succ] at this ⊢; rw [show a + ((x.length + lensL (l.take i) : Nat) : Int) = a + x.length + (lensL (l.take i) : Int) by omega, this]
set_option maxHeartbeats 8000000 in
set_option maxRecDepth 100000 in
theorem markRows (base : Nat) (ok : Nat → Prop) (v : Value) (l : List (List Int)) (a1 : Int) (h0 : 0 ≤ a1) (hb : a1 + lensL l ≤ 4611686018427387904) (w0 w : World) (hbase : base = w0.heap.size) (hB : Below w0.heap.size w0 w) (hr : Kd.S (Kd.slice 3 (Kd.int .i64)) 50 w base ok v l) :
    Calls Tryz.prog 14 #[v, .int .i64 a1] w fun e w' => e = .returned (.int .i64 (a1 + lensL l)) ∧ Kd.S (Kd.slice 3 (Kd.int .i64)) 50 w' base ok v (marksLL a1 l) ∧ Below w0.heap.size w0 w' ∧ Kept w w' ok := by
  obtain ⟨A, c, ev⟩ := Kd.S_slice hr; subst ev; subst hbase; have HR := Aside0.mk hr; have HB := Aside0.mk hB; clear hr hB; go_enter Tryz.func14, Tryz.ntmps14; go_wp2; go_loopg [1, 5] l.length (fun kq v1 v5 w' => ∃ i : Nat, i + kq = l.length ∧ v1 = .int .i64 (a1 + lensL (l.take i)) ∧ v5 = .int .i64 i ∧ Aside0 (Kd.S (Kd.slice 3 (Kd.int .i64)) 50 w' w0.heap.size ok (.slice A l.length c) (marksLLTo a1 l i)) ∧ Aside0 (Below w0.heap.size w0 w') ∧ Aside0 (Kept w w' ok))
  case atStart => exact ⟨0, by omega, by simp [lensL], by simp, ⟨by simpa [marksLLTo, marksLL] using HR.out⟩, HB, ⟨Kept.refl _ _⟩⟩
  case round =>
    obtain ⟨i, hi, rfl, rfl, HJ, HBJ, HKJ⟩ := hrel; have hle := lensL_le l i
    cases gk with
    | zero =>
     have hlt : ¬ (i < l.length) := (by omega); obtain rfl : i = l.length := (by omega); have E0 := Aside0.mk (List.take_length (l := l)); go_wp2; go_ret; exact ⟨by first | rfl | (rw [E0.out]; rfl) | (simp; done), by have := HJ.out; simpa [marksLLTo] using this, HBJ.out, HKJ.out⟩
    | succ k1 =>
     have hlt : i < l.length := (by omega); have hl := marksLLTo_length a1 l i; have hmax := Kd.C_max (Kd.S_reads' HJ.out).2.2; rw [hl] at hmax; obtain ⟨g, c', eg, _, _, _⟩ := Kd.S_form HJ.out (by omega); rw [hl] at eg; cases eg; obtain ⟨oki, cc, hcl, hM, hcell, hoki, hH⟩ := Kd.S_lend HJ.out [] (i : Int) (by omega) (by omega); obtain ⟨vi, rfl, hRi⟩ := hM; rw [Int.toNat_natCast, marksLLTo_get a1 l i hlt] at hRi; have hc : wr.cell? ⟨g, i, none⟩ = some vi := (by have := hcell 0 vi rfl; simpa [Kd.slice] using this); have hls := lensL_take l i hlt; have hset := marksLLTo_set a1 l i hlt; generalize l.getD i [] = row at hRi hls hset; have hle2 := lensL_le l (i + 1); have HST := Aside0.mk hls; have HSE := Aside0.mk hset; clear hset; have HCA := Aside0.mk (markRow w0.heap.size oki vi row (a1 + lensL (l.take i)) (by omega) (by omega) wr hRi); have HRI := Aside0.mk hRi; have HHH := Aside0.mk hH; have HOK := Aside0.mk hoki; clear hcell hRi hH hoki hls hcl; go_wp2_with (go_at_call 43; refine HCA.out.mono ?_; rintro e w' ⟨rfl, hr1, hg1⟩; have hk1 := HRI.out.1; have hS1 := Kd.H_back (x' := kMarks (a1 + lensL (l.take i)) row) (Kd.H_grown HHH.out hg1 (fun k hk => hk1 k hk)) ⟨vi, rfl, hr1⟩ (fun _ h => h); rw [Int.toNat_natCast, HSE.out] at hS1; have HN := Aside0.mk hS1; have HNB := Aside0.mk (pw_below_grown HBJ.out _ (below_size HBJ.out) hg1 (fun k hk => Kd.R_base HRI.out k hk)); have HNK := Aside0.mk (HKJ.out.then_ ⟨hg1.size, fun k hk hn => hg1.block k hk (fun e => hn ((HOK.out k (hk1 k e.symm)).1))⟩ (fun _ h2 => .inl h2)); clear hr1 hg1 hS1 hk1); go_roundg k1
     case measure => omega
     case rel => exact ⟨i + 1, by omega, by rw [HST.out]; go_num, by go_num, HN, HNB, HNK⟩
/-! rows of bodies marked, told with their new contents -/
def txtOf (x : Int) : ByteArray := (laws_markText.f 64 x).getD ByteArray.empty
theorem txt_ev : ∀ (f : Nat) (x : Int) (t : ByteArray), 0 ≤ x → x ≤ 4611686018427387904 → x < 2 ^ f → t.size + f ≤ 1000 → ∃ r, laws_markText.l0 (f + 1) x t = some r
  | 0, x, t, h0, h3, h1, h2 => by
    have h1' : x < 1 := h1; exact ⟨_, by rw [laws_markText.l0, if_neg (by omega), if_pos (by omega)]⟩
  | f + 1, x, t, h0, h3, h1, h2 => by
    by_cases c : x > 0
    case neg => exact ⟨_, by rw [laws_markText.l0, if_neg c, if_pos (by omega)]⟩
    have hz : (strOfNums [(wrap64 (48 + (Int.tmod x 10))) % 256]).size = 1 := by rw [strOfNums_size]; rfl
    have e : wrap64 (Int.tdiv x 10) = x / 10 := by
     rw [Int.tdiv_eq_ediv_of_nonneg h0]; unfold wrap64; omega
    have hp : x / 10 < 2 ^ f := by
     rw [Int.pow_succ] at h1; generalize (2 : Int) ^ f = q at h1 ⊢; omega
    obtain ⟨r, hr⟩ := txt_ev f (x / 10) (strOfNums [(wrap64 (48 + (Int.tmod x 10))) % 256] ++ t) (by omega) (by omega) hp (by rw [ByteArray.size_append, hz]; omega); refine ⟨r, ?_⟩; rw [laws_markText.l0, if_pos c, Option.bind_some, if_pos (by rw [hz]; omega), e]; exact hr
theorem txt_some (x : Int) (h0 : 0 ≤ x) (h3 : x ≤ 4611686018427387904) : laws_markText.f 64 x = some (txtOf x) := by
  have : ∃ r, laws_markText.f 64 x = some r := by
    unfold laws_markText.f; by_cases c : x ≤ 0
    ·exact ⟨_, by rw [if_pos c]⟩
    ·rw [if_neg c]; exact txt_ev 63 x _ h0 h3 (by have : (2 : Int) ^ 63 = 9223372036854775808 := (by decide); omega) (by decide)
  obtain ⟨r, hr⟩ := this; rw [txtOf, hr, Option.getD_some]
def markB (a : Int) (b : S55) : S55 := ⟨txtOf a, a + 1, a + 1 + 1, kMarks (a + 1 + 1 + 1) b.f3⟩
def lenB : List S55 → Nat
  | [] => 0
  | b :: l => (b.f3.length + 3) + lenB l
def marksBB : Int → List S55 → List S55
  | _, [] => []
  | a, b :: l => markB a b :: marksBB (a + (b.f3.length + 3 : Nat)) l
def marksBBTo (a : Int) (l : List S55) (i : Nat) : List S55 := marksBB a (l.take i) ++ l.drop i
theorem marksBB_length (a : Int) (l : List S55) : (marksBB a l).length = l.length := by
  induction l generalizing a with
  | nil => rfl
  | cons x l ih => simp [marksBB, ih]
theorem marksBBTo_length (a : Int) (l : List S55) (i : Nat) : (marksBBTo a l i).length = l.length := by
  simp [marksBBTo, marksBB_length]; omega
theorem marksBBTo_get (a : Int) (l : List S55) (i : Nat) (z : S55) (hi : i < l.length) : (marksBBTo a l i).getD i z = l.getD i z := by
  have hm : (marksBB a (l.take i)).length = i := (by rw [marksBB_length, List.length_take]; omega); unfold marksBBTo; rw [List.getD_eq_getElem?_getD, List.getElem?_append_right (by omega), hm, List.getElem?_drop, List.getD_eq_getElem?_getD]; simp
theorem lenB_take (l : List S55) (i : Nat) (z : S55) (hi : i < l.length) : lenB (l.take (i + 1)) = lenB (l.take i) + ((l.getD i z).f3.length + 3) := by
  induction l generalizing i with
  | nil => simp at hi
  | cons x l ih =>
    cases i with
    | zero => simp [lenB]
    | succ i => have := ih i (by simpa using hi); simp only [List.take_succ_cons, lenB, List.getD_cons_succ] at this ⊢; omega
theorem lenB_le (l : List S55) (i : Nat) : lenB (l.take i) ≤ lenB l := by
  induction l generalizing i with
  | nil => simp
  | cons x l ih =>
    cases i with
    | zero => simp [lenB]
    | succ i => have := ih i; simp only [List.take_succ_cons, lenB]; omega
theorem marksBBTo_set (a : Int) (l : List S55) (i : Nat) (z : S55) (hi : i < l.length) : (marksBBTo a l i).set i (markB (a + lenB (l.take i)) (l.getD i z)) = marksBBTo a l (i + 1) := by
  induction l generalizing a i with
  | nil => simp at hi
  | cons x l ih =>
    cases i with
    | zero => simp [marksBBTo, marksBB, lenB]
    | succ i =>
     have := ih (a + (x.f3.length + 3 : Nat)) i (by simpa using hi); simp only [marksBBTo, List.take_succ_cons, marksBB, List.drop_succ_cons, List.cons_append, List.set_cons_succ, lenB, List.getD_cons_succ] at this ⊢; rw [show a + (((x.f3.length + 3) + lenB (l.take i) : Nat) : Int) = a + (x.f3.length + 3 : Nat) + (lenB (l.take i) : Int) by omega, this]
theorem getD_set_self {α : Type} (l : List α) (i : Nat) (x z : α) (h : i < l.length) : (l.set i x).getD i z = x := by
  rw [List.getD_eq_getElem?_getD, List.getElem?_set_self h]; rfl
/-- Element i of a row of bodies: its cells, what its cells may be set to, its row of dels. -/
theorem bodyFour {W : World} {base g n cap : Nat} {ok : Nat → Prop} {l : List S55} (h : Kd.S k55 55 W base ok (.slice (some ⟨g, 0, none⟩) n cap) l) (i : Nat) (hi : i < n) (b : S55) (hb : l.getD i z55 = b) :
    ∃ v3, W.cell? ⟨g, i * 4, none⟩ = some (.string b.f0) ∧ W.cell? ⟨g, i * 4 + 1, none⟩ = some (.int .i64 b.f1) ∧ W.cell? ⟨g, i * 4 + 2, none⟩ = some (.int .i64 b.f2) ∧ W.cell? ⟨g, i * 4 + 3, none⟩ = some v3 ∧
     W.frozen? ⟨g, i * 4, none⟩ = false ∧ W.frozen? ⟨g, i * 4 + 1, none⟩ = false ∧ W.frozen? ⟨g, i * 4 + 2, none⟩ = false ∧
     (∀ t : ByteArray, Kd.S k55 55 (W.setCell ⟨g, i * 4, none⟩ (.string t)) base ok (.slice (some ⟨g, 0, none⟩) n cap) (l.set i ⟨t, b.f1, b.f2, b.f3⟩) ∧ W.grownBy (W.setCell ⟨g, i * 4, none⟩ (.string t)) (some g)) ∧
     (∀ x : Int, Kd.S k55 55 (W.setCell ⟨g, i * 4 + 1, none⟩ (.int .i64 x)) base ok (.slice (some ⟨g, 0, none⟩) n cap) (l.set i ⟨b.f0, x, b.f2, b.f3⟩) ∧ W.grownBy (W.setCell ⟨g, i * 4 + 1, none⟩ (.int .i64 x)) (some g)) ∧
     (∀ x : Int, Kd.S k55 55 (W.setCell ⟨g, i * 4 + 2, none⟩ (.int .i64 x)) base ok (.slice (some ⟨g, 0, none⟩) n cap) (l.set i ⟨b.f0, b.f1, x, b.f3⟩) ∧ W.grownBy (W.setCell ⟨g, i * 4 + 2, none⟩ (.int .i64 x)) (some g)) ∧
     ∃ oki, Kd.R (Kd.int .i64) 3 W base oki v3 b.f3 ∧ (∀ k, oki k → ok k) ∧ ∀ (W' : World) (d' : List Int), Kd.R (Kd.int .i64) 3 W' base oki v3 d' → W.grownBy W' v3.ownBlock → Kd.S k55 55 W' base ok (.slice (some ⟨g, 0, none⟩) n cap) (l.set i ⟨b.f0, b.f1, b.f2, d'⟩) := by
  obtain ⟨oki, c, hcl, hM, hcc, hfr, hoki, hH⟩ := Kd.S_elem (Kd.S_mono h (fun k hk => (⟨hk, id⟩ : ok k ∧ ¬ False))) z55 (i : Int) (by omega) (by omega); rw [Int.toNat_natCast] at hM hcc hfr; rw [hb] at hM; obtain ⟨v3, rfl, h3⟩ := k55_openM hM; have hH' := hH; refine ⟨v3, hcc 0 _ rfl, hcc 1 _ rfl, hcc 2 _ rfl, hcc 3 _ rfl, hfr 0, hfr 1, hfr 2, fun t => ?_, fun x => ?_, fun x => ?_, oki, h3, fun k hk => (hoki k hk).1.1, fun W' d' hR hg => ?_⟩
  · have := Kd.S_seg (okg := fun _ => False) (okp := oki) hH (by omega) (by omega) (seg := [.string t]) (j := 0) (show 1 ≤ 4 by decide) (x' := (⟨t, b.f1, b.f2, b.f3⟩ : S55)) (k55_mkM _ _ _ (⟨t, b.f1, b.f2, b.f3⟩ : S55) h3) (fun k hk => .inl hk) (fun k hk => hk.elim); rw [Int.toNat_natCast] at this; exact this
  · have := Kd.S_seg (okg := fun _ => False) (okp := oki) hH (by omega) (by omega) (seg := [.int .i64 x]) (j := 1) (show 2 ≤ 4 by decide) (x' := (⟨b.f0, x, b.f2, b.f3⟩ : S55)) (k55_mkM _ _ _ (⟨b.f0, x, b.f2, b.f3⟩ : S55) h3) (fun k hk => .inl hk) (fun k hk => hk.elim); rw [Int.toNat_natCast] at this; exact this
  · have := Kd.S_seg (okg := fun _ => False) (okp := oki) hH (by omega) (by omega) (seg := [.int .i64 x]) (j := 2) (show 3 ≤ 4 by decide) (x' := (⟨b.f0, b.f1, x, b.f3⟩ : S55)) (k55_mkM _ _ _ (⟨b.f0, b.f1, x, b.f3⟩ : S55) h3) (fun k hk => .inl hk) (fun k hk => hk.elim); rw [Int.toNat_natCast] at this; exact this
  · have := Kd.S_mono (Kd.H_back (x' := (⟨b.f0, b.f1, b.f2, d'⟩ : S55)) (Kd.H_grown hH hg (fun k hk => h3.1 k hk)) (k55_mkM _ _ _ (⟨b.f0, b.f1, b.f2, d'⟩ : S55) hR) (fun _ h => h)) (fun k hk => hk.1); rw [Int.toNat_natCast] at this; exact this
set_option maxHeartbeats 8000000 in
set_option maxRecDepth 100000 in
theorem markBodies (base : Nat) (ok : Nat → Prop) (v : Value) (l : List S55) (a1 : Int) (h0 : 0 ≤ a1) (hb : a1 + lenB l ≤ 4611686018427387904) (w0 w : World) (hbase : base = w0.heap.size) (hB : Below w0.heap.size w0 w) (hr : Kd.S k55 55 w base ok v l) :
    Calls Tryz.prog 45 #[v, .int .i64 a1] w fun e w' => e = .returned (.int .i64 (a1 + lenB l)) ∧ Kd.S k55 55 w' base ok v (marksBB a1 l) ∧ Below w0.heap.size w0 w' ∧ Kept w w' ok := by
  obtain ⟨A, c, ev⟩ := Kd.S_slice hr; subst ev; subst hbase; have HR := Aside0.mk hr; have HB := Aside0.mk hB; clear hr hB; have hu55 := Tryz.underlying55; go_enter Tryz.func45, Tryz.ntmps45; go_wp2; go_loopg [1, 5] l.length (fun kq v1 v5 w' => ∃ i : Nat, i + kq = l.length ∧ v1 = .int .i64 (a1 + lenB (l.take i)) ∧ v5 = .int .i64 i ∧ Aside0 (Kd.S k55 55 w' w0.heap.size ok (.slice A l.length c) (marksBBTo a1 l i)) ∧ Aside0 (Below w0.heap.size w0 w') ∧ Aside0 (Kept w w' ok))
  case atStart => exact ⟨0, by omega, by simp [lenB], by simp, ⟨by simpa [marksBBTo, marksBB] using HR.out⟩, HB, ⟨Kept.refl _ _⟩⟩
  case round =>
    obtain ⟨i, hi, rfl, rfl, HJ, HBJ, HKJ⟩ := hrel; have hle := lenB_le l i
    cases gk with
    | zero =>
     have hlt : ¬ (i < l.length) := (by omega); obtain rfl : i = l.length := (by omega); have E0 := Aside0.mk (List.take_length (l := l)); go_wp2; go_ret; exact ⟨by first | rfl | (rw [E0.out]; rfl) | (simp; done), by have := HJ.out; simpa [marksBBTo] using this, HBJ.out, HKJ.out⟩
    | succ k1 =>
     have hlt : i < l.length := (by omega); have hl := marksBBTo_length a1 l i; have hls := lenB_take l i z55 hlt; have hset := marksBBTo_set a1 l i z55 hlt; have hget := marksBBTo_get a1 l i z55 hlt; have hle2 := lenB_le l (i + 1); generalize l.getD i z55 = b at hls hset hget; generalize marksBBTo a1 l i = L at HJ hl hset hget; have hmax := Kd.C_max (Kd.S_reads' HJ.out).2.2; rw [hl] at hmax; obtain ⟨g, c', eg, gb, _, _⟩ := Kd.S_form HJ.out (by omega); rw [hl] at eg; cases eg; have hG : ok g := (Kd.S_R HJ.out).1 g rfl; obtain ⟨x, hx⟩ : ∃ x : Int, x = a1 + lenB (l.take i) := ⟨_, rfl⟩; rw [← hx] at hset ⊢; have hx0 : 0 ≤ x := (by omega); have hx1 : x + 3 + (b.f3.length : Int) ≤ 4611686018427387904 := (by omega); have hnx : x + 1 + 1 + 1 + (b.f3.length : Int) = a1 + lenB (l.take (i + 1)) := (by omega); have HT := Aside0.mk (txt_some x hx0 (by omega)); have HNX := Aside0.mk hnx; have HSE := Aside0.mk hset; have HGE := Aside0.mk hget; have HG := Aside0.mk hG; have HGB := Aside0.mk gb; have hiL : i < L.length := (by omega); have HIL := Aside0.mk hiL; clear hle hls hset hget hle2 hx hnx hG gb hl; obtain ⟨v3, hc0, hc1, hc2, hc3, hf0, hf1, hf2, s0, s1, s2, _⟩ := bodyFour HJ.out i hlt b HGE.out; clear s0 s1 s2
     go_wp2_with (first
      | (go_at_call 44; (try simp only [i64_w]); (with_reducible refine (laws_markText.calls 64 x (txtOf x) _ HT.out).mono ?_); rintro e w8 ⟨rfl, hb8⟩; have HJ8 := Aside0.mk (Kd.S_below HJ.out hb8); have HB8 := Aside0.mk (below_step HBJ.out hb8); have HK8 := Aside0.mk (HKJ.out.below hb8); clear hb8 hc0 hc1 hc2 hc3 hf0 hf1 hf2; obtain ⟨v3, hc0, hc1, hc2, hc3, hf0, hf1, hf2, s0, s1, s2, _⟩ := bodyFour HJ8.out i hlt b HGE.out; have S0 := Aside0.mk (s0 (txtOf x)); clear s0 s1 s2)
      | ((with_reducible refine gate_store (t := 9) (p := 17) rfl ?_); refine store_event (t := 9) (p := 17) (v := ?vo17) (w1 := (w8.setCell ⟨g, i * 4, none⟩ (.string (txtOf x)))) ?hg ?ho ?hn ?hr ?_; (case ho => rfl); (case hg => rfl); (case hn => rfl); (case hr => first | (go_simp; done) | (go_simp; rfl)); intro w9 hw_; rw [← hw_] at S0; have HB9 := Aside0.mk (by rw [hw_]; exact below_set HB8.out HGB.out : Below w0.heap.size w0 w9); have HK9 := Aside0.mk (by rw [hw_]; exact HK8.out.setCell (.inl HG.out) _ : Kept w w9 ok); clear hw_ hc0 hc1 hc2 hc3 hf0 hf1 hf2; obtain ⟨v3, hc0, hc1, hc2, hc3, hf0, hf1, hf2, s0, s1, s2, _⟩ := bodyFour S0.out.1 i hlt _ (getD_set_self _ _ _ _ HIL.out); have S1 := Aside0.mk (s1 (x + 1)); clear s0 s1 s2)
      | ((with_reducible refine gate_store (t := 3) (p := 24) rfl ?_); refine store_event (t := 3) (p := 24) (v := ?vo24) (w1 := (w9.setCell ⟨g, i * 4 + 1, none⟩ (.int .i64 (x + 1)))) ?hg ?ho ?hn ?hr ?_; (case ho => rfl); (case hg => rfl); (case hn => rfl); (case hr => first | (go_simp; done) | (go_simp; rfl)); intro w10 hw_; rw [← hw_] at S1; have HB10 := Aside0.mk (by rw [hw_]; exact below_set HB9.out HGB.out : Below w0.heap.size w0 w10); have HK10 := Aside0.mk (by rw [hw_]; exact HK9.out.setCell (.inl HG.out) _ : Kept w w10 ok); have S1b := Aside0.mk (by have := S1.out.1; rw [List.set_set] at this; exact this); clear hw_ hc0 hc1 hc2 hc3 hf0 hf1 hf2 S1; obtain ⟨v3, hc0, hc1, hc2, hc3, hf0, hf1, hf2, s0, s1, s2, _⟩ := bodyFour S1b.out i hlt _ (getD_set_self _ _ _ _ HIL.out); have S2 := Aside0.mk (s2 (x + 1 + 1)); clear s0 s1 s2)
      | ((with_reducible refine gate_store (t := 3) (p := 31) rfl ?_); refine store_event (t := 3) (p := 31) (v := ?vo31) (w1 := (w10.setCell ⟨g, i * 4 + 2, none⟩ (.int .i64 (x + 1 + 1)))) ?hg ?ho ?hn ?hr ?_; (case ho => rfl); (case hg => rfl); (case hn => rfl); (case hr => first | (go_simp; done) | (go_simp; rfl)); intro w11 hw_; rw [← hw_] at S2; have HB11 := Aside0.mk (by rw [hw_]; exact below_set HB10.out HGB.out : Below w0.heap.size w0 w11); have HK11 := Aside0.mk (by rw [hw_]; exact HK10.out.setCell (.inl HG.out) _ : Kept w w11 ok); have S2b := Aside0.mk (by have := S2.out.1; rw [List.set_set] at this; exact this); clear hw_ hc0 hc1 hc2 hc3 hf0 hf1 hf2 S2; obtain ⟨v3, hc0, hc1, hc2, hc3, hf0, hf1, hf2, s0, s1, s2, oki, hR3, hoki, hback⟩ := bodyFour S2b.out i hlt _ (getD_set_self _ _ _ _ HIL.out); have HR3 := Aside0.mk hR3; have HOK := Aside0.mk hoki; have HBK := Aside0.mk hback; have HCA := Aside0.mk (markRow w0.heap.size oki v3 b.f3 (x + 1 + 1 + 1) (by omega) (by omega) w11 hR3); clear s0 s1 s2 hR3 hoki hback)
      | (go_at_call 43; refine HCA.out.mono ?_; rintro e w12 ⟨rfl, hr1, hg1⟩; have hS1 := HBK.out w12 _ hr1 hg1; rw [List.set_set] at hS1; have HN := Aside0.mk (show Kd.S k55 55 w12 w0.heap.size ok _ (L.set i (markB x b)) from hS1); rw [HSE.out] at HN; have HNB := Aside0.mk (pw_below_grown HB11.out _ (below_size HB11.out) hg1 (fun k hk => Kd.R_base HR3.out k hk)); have HNK := Aside0.mk (HK11.out.then_ ⟨hg1.size, fun k hk hn => hg1.block k hk (fun e => hn (HOK.out k (HR3.out.1 k e.symm)))⟩ (fun _ h2 => .inl h2)); clear hr1 hg1 hS1))
     go_roundg k1
     case measure => omega
     case rel => exact ⟨i + 1, by omega, by rw [HNX.out], by go_num, HN, HNB, HNK⟩
set_option maxHeartbeats 8000000 in
set_option maxRecDepth 100000 in
/-- A weave marked: its two rows lie apart, each comes back marked. -/
theorem markWeaveK (ok0 ok1 : Nat → Prop) (hap : ∀ k, ok0 k → ¬ ok1 k) (u0 u1 : Value) (p : List (List Int)) (b : List S55) (hb : 1 + (lensL p : Int) + lenB b ≤ 4611686018427387904) (w0 w : World) (hB : Below w0.heap.size w0 w) (h0 : Kd.S (Kd.slice 3 (Kd.int .i64)) 50 w w0.heap.size ok0 u0 p) (h1 : Kd.S k55 55 w w0.heap.size ok1 u1 b) :
    Calls Tryz.prog 16 #[.agg #[u0, u1], .int .i64 1] w fun e w' => e = .returned (.int .i64 (1 + lensL p + lenB b)) ∧ Kd.S (Kd.slice 3 (Kd.int .i64)) 50 w' w0.heap.size ok0 u0 (marksLL 1 p) ∧ Kd.S k55 55 w' w0.heap.size ok1 u1 (marksBB (1 + lensL p) b) ∧ Below w0.heap.size w0 w' ∧ Kept w w' (fun k => ok0 k ∨ ok1 k) := by
  have HB := Aside0.mk hB; have H0 := Aside0.mk h0; have H1 := Aside0.mk h1; have HAP := Aside0.mk hap; have hb1 : 1 + (lensL p : Int) ≤ 4611686018427387904 := (by omega); clear hB h0 h1 hap; have hu28 := Tryz.underlying28; go_enter Tryz.func16, Tryz.ntmps16
  go_wp2_with (first
    | ((with_reducible refine gate_dst (N := 2) rfl ?_); refine be_ 2 #[u0, u1] 28 ?_; intro gb hg w2 hbox hb2; have HX := Aside0.mk hbox; have HG := Aside0.mk (Nat.le_of_eq hg.symm); have HB2 := Aside0.mk (below_step HB.out hb2); have H02 := Aside0.mk (Kd.S_below (Kd.S_bound H0.out) hb2); have H12 := Aside0.mk (Kd.S_below (Kd.S_bound H1.out) hb2); have HK2 := Aside0.mk (Kept.of_below hb2 (fun k => ok0 k ∨ ok1 k)); have hc0 : w2.cell? ⟨gb, 0, none⟩ = some u0 := (blk_cell hbox 0).trans rfl; have HCA := Aside0.mk (markRows w0.heap.size _ u0 p 1 (by omega) hb1 w0 w2 rfl HB2.out H02.out); clear hbox hb2 hg)
    | (go_at_call 14; refine HCA.out.mono ?_; rintro e w3 ⟨rfl, hs3, hb3, hk3⟩; have H03 := Aside0.mk hs3; have HB3 := Aside0.mk hb3; have H13 := Aside0.mk (Kd.S_step H12.out (fun k hk hl => hk3.2 k hl (fun h2 => HAP.out k h2.1 hk.1))); have HK3 := Aside0.mk (HK2.out.then_ hk3 (fun k h2 => .inl (.inl h2.1))); have HX3 := Aside0.mk (blk_kept HX.out hk3 (fun h2 => by have := h2.2.2.1; have := HG.out; omega)); clear hc0; have hc1 : w3.cell? ⟨gb, 1, none⟩ = some u1 := bc_ HX3 1; have HCB := Aside0.mk (markBodies w0.heap.size _ u1 b (1 + lensL p) (by omega) hb w0 w3 rfl HB3.out H13.out); clear hs3 hb3 hk3)
    | (go_at_call 45; refine HCB.out.mono ?_; rintro e w4 ⟨rfl, hs4, hb4, hk4⟩; have H14 := Aside0.mk hs4; have HB4 := Aside0.mk hb4; have H04 := Aside0.mk (Kd.S_step H03.out (fun k hk hl => hk4.2 k hl (fun h2 => HAP.out k hk.1 h2.1))); have HK4 := Aside0.mk (HK3.out.then_ hk4 (fun k h2 => .inl (.inr h2.1))); clear hs4 hb4 hk4))
  go_ret; exact ⟨by first | rfl | (simp; done), Kd.S_mono H04.out (fun _ hk => hk.1), Kd.S_mono H14.out (fun _ hk => hk.1), HB4.out, HK4.out⟩
/-! ### The law, walked by hand -/
def laws_FnExactFromRecords.good (g w : List (List Int) × List S55 × Bool) (e e1 e2 : Bool) (k2 : Int) : Prop := e = true ∧ g.2.2 = w.2.2 ∧ e1 = true ∧ e2 = true ∧ 0 ≤ k2 ∧ 1 + (lensL g.1 : Int) + lenB g.2.1 ≤ 4611686018427387904
instance (g w : List (List Int) × List S55 × Bool) (e e1 e2 : Bool) (k2 : Int) : Decidable (laws_FnExactFromRecords.good g w e e1 e2 k2) := by unfold laws_FnExactFromRecords.good; infer_instance
def laws_FnExactFromRecords.f (k : Nat) (l0 : List (List Int)) (l1 : List S52) : Option Bool :=
  (laws_szIntSS.f k l0 1048576).bind fun a => if a < 0 then some true else
  (laws_szRecS.f k l1 a).bind fun b => if b < 0 then some true else
  (laws_toIntSS.f k l0).bind fun x0 => (laws_toRecS.f k l1).bind fun x1 =>
  (spec_FromRecords.f k x0 x1).bind fun w => (impl_FromRecords.f k x0 x1).bind fun g =>
  (laws_eqWeave.f k g.1 g.2.1 w.1 w.2.1).bind fun e =>
  (laws_eqIntSS.f k x0 x0).bind fun e1 => (laws_eqRecS.f k x1 x1).bind fun e2 =>
  (laws_markIntSS.f x0 1).bind fun k1 => (laws_markRecS.f k x1 k1).bind fun k2 =>
  if laws_FnExactFromRecords.good g w e e1 e2 k2.1 then
    (laws_heldWeave.f k (marksLL 1 g.1) (marksBB (1 + lensL g.1) g.2.1) 1).bind fun q => if q = 1 + lensL g.1 + lenB g.2.1 then some true else none
  else none
theorem laws_FnExactFromRecords.db {w w' : World} (h : Drawn0 w w') : Below w.heap.size w w' := by
  obtain ⟨n, rfl⟩ := h.out; apply pw_below_drewN; exact Below.refl _ _
/-- What the reference's answer is, and where it lies: ahead of g6, its block. -/
structure laws_FnExactFromRecords.Fu (w W : World) (n1 g6 : Nat) (u0 u1 : Value) (wp : List (List Int)) (wb : List S55) : Prop where
  b : Below w.heap.size w W
  n : w.heap.size ≤ n1
  n6 : n1 ≤ g6
  lt : g6 < W.heap.size
  h : W.heap[g6]? = some (.cells #[u0, u1] 28 (0, 0))
  s0 : Kd.S (Kd.slice 3 (Kd.int .i64)) 50 W w.heap.size (fun k => n1 ≤ k ∧ k < g6) u0 wp
  s1 : Kd.S k55 55 W w.heap.size (fun k => n1 ≤ k ∧ k < g6) u1 wb
/-- The program's answer: behind n2, ahead of its block g10; its two rows lie apart. -/
structure laws_FnExactFromRecords.Fv (w W : World) (n2 m g10 : Nat) (v0 v1 : Value) (gp : List (List Int)) (gb : List S55) : Prop where
  b : Below w.heap.size w W
  n : w.heap.size ≤ n2
  n10 : n2 ≤ g10
  lt : g10 < W.heap.size
  h : W.heap[g10]? = some (.cells #[v0, v1] 28 (0, 0))
  s0 : Kd.S (Kd.slice 3 (Kd.int .i64)) 50 W w.heap.size (fun k => (n2 ≤ k ∧ k < g10) ∧ k < m) v0 gp
  s1 : Kd.S k55 55 W w.heap.size (fun k => (n2 ≤ k ∧ k < g10) ∧ m ≤ k) v1 gb
section
variable {w W W1 : World} {n1 n2 m g6 g10 : Nat} {u0 u1 v0 v1 : Value} {wp gp : List (List Int)} {wb gb : List S55} {S : Nat → Prop}
theorem laws_FnExactFromRecords.Fu.below (F : laws_FnExactFromRecords.Fu w W n1 g6 u0 u1 wp wb) (hb : Below W.heap.size W W1) : laws_FnExactFromRecords.Fu w W1 n1 g6 u0 u1 wp wb :=
  ⟨below_step F.b hb, F.n, F.n6, Nat.lt_of_lt_of_le F.lt hb.size, (hb.block g6 F.lt).trans F.h, Kd.S_below F.s0 hb, Kd.S_below F.s1 hb⟩
theorem laws_FnExactFromRecords.Fu.kept (F : laws_FnExactFromRecords.Fu w W n1 g6 u0 u1 wp wb) (hb : Below w.heap.size w W1) (hk : Kept W W1 S) (hS : ∀ k, S k → g6 < k) : laws_FnExactFromRecords.Fu w W1 n1 g6 u0 u1 wp wb :=
  ⟨hb, F.n, F.n6, Nat.lt_of_lt_of_le F.lt hk.1, (hk.2 g6 F.lt (fun h => by have := hS _ h; omega)).trans F.h, Kd.S_step F.s0 (fun k h1 hl => hk.2 k hl (fun h => by have := hS _ h; omega)), Kd.S_step F.s1 (fun k h1 hl => hk.2 k hl (fun h => by have := hS _ h; omega))⟩
theorem laws_FnExactFromRecords.Fu.cells (F : laws_FnExactFromRecords.Fu w W n1 g6 u0 u1 wp wb) : W.cell? ⟨g6, 0, none⟩ = some u0 ∧ W.cell? ⟨g6, 1, none⟩ = some u1 := ⟨(blk_cell F.h 0).trans rfl, (blk_cell F.h 1).trans rfl⟩
theorem laws_FnExactFromRecords.Fv.below (F : laws_FnExactFromRecords.Fv w W n2 m g10 v0 v1 gp gb) (hb : Below W.heap.size W W1) : laws_FnExactFromRecords.Fv w W1 n2 m g10 v0 v1 gp gb :=
  ⟨below_step F.b hb, F.n, F.n10, Nat.lt_of_lt_of_le F.lt hb.size, (hb.block g10 F.lt).trans F.h, Kd.S_below F.s0 hb, Kd.S_below F.s1 hb⟩
theorem laws_FnExactFromRecords.Fv.kept (F : laws_FnExactFromRecords.Fv w W n2 m g10 v0 v1 gp gb) (hb : Below w.heap.size w W1) (hk : Kept W W1 S) (hS : ∀ k, S k → k < n2) : laws_FnExactFromRecords.Fv w W1 n2 m g10 v0 v1 gp gb :=
  ⟨hb, F.n, F.n10, Nat.lt_of_lt_of_le F.lt hk.1, (hk.2 g10 F.lt (fun h => by have := hS _ h; have := F.n10; omega)).trans F.h, Kd.S_step F.s0 (fun k h1 hl => hk.2 k hl (fun h => by have := hS _ h; omega)), Kd.S_step F.s1 (fun k h1 hl => hk.2 k hl (fun h => by have := hS _ h; omega))⟩
theorem laws_FnExactFromRecords.Fv.cells (F : laws_FnExactFromRecords.Fv w W n2 m g10 v0 v1 gp gb) : W.cell? ⟨g10, 0, none⟩ = some v0 ∧ W.cell? ⟨g10, 1, none⟩ = some v1 := ⟨(blk_cell F.h 0).trans rfl, (blk_cell F.h 1).trans rfl⟩
/-- The two rows marked. -/
theorem laws_FnExactFromRecords.Fv.marked {gp' : List (List Int)} {gb' : List S55} (F : laws_FnExactFromRecords.Fv w W n2 m g10 v0 v1 gp gb) (hb : Below w.heap.size w W1) (hk : Kept W W1 (fun k => ((n2 ≤ k ∧ k < g10) ∧ k < m) ∨ ((n2 ≤ k ∧ k < g10) ∧ m ≤ k))) (h0 : Kd.S (Kd.slice 3 (Kd.int .i64)) 50 W1 w.heap.size (fun k => (n2 ≤ k ∧ k < g10) ∧ k < m) v0 gp') (h1 : Kd.S k55 55 W1 w.heap.size (fun k => (n2 ≤ k ∧ k < g10) ∧ m ≤ k) v1 gb') : laws_FnExactFromRecords.Fv w W1 n2 m g10 v0 v1 gp' gb' :=
  ⟨hb, F.n, F.n10, Nat.lt_of_lt_of_le F.lt hk.1, (hk.2 g10 F.lt (fun h => by omega)).trans F.h, h0, h1⟩
theorem laws_FnExactFromRecords.Fu.make {W0 : World} (hb : Below w.heap.size w W0) (hb2 : Below W0.heap.size W0 W) (h0 : Kd.S (Kd.slice 3 (Kd.int .i64)) 50 W W0.heap.size (fun _ => True) u0 wp) (h1 : Kd.S k55 55 W W0.heap.size (fun _ => True) u1 wb) : laws_FnExactFromRecords.Fu w (W.alloc (.cells #[u0, u1] 28)) W0.heap.size W.heap.size u0 u1 wp wb :=
  ⟨below_step (below_step hb hb2) (below_alloc (Below.refl _ _) _), below_size hb, below_size hb2, by rw [World.size_alloc]; omega, heap_alloc_new W _, Kd.S_alloc (Kd.S_mono (Kd.S_lower (Kd.S_bound h0) (below_size hb)) (fun k hk => ⟨hk.2.1, hk.2.2.1⟩)) _, Kd.S_alloc (Kd.S_mono (Kd.S_lower (Kd.S_bound h1) (below_size hb)) (fun k hk => ⟨hk.2.1, hk.2.2.1⟩)) _⟩
theorem laws_FnExactFromRecords.Fv.make {W0 : World} (hb : Below w.heap.size w W0) (hb2 : Below W0.heap.size W0 W) (h0 : Kd.S (Kd.slice 3 (Kd.int .i64)) 50 W W0.heap.size (fun k => k < m) v0 gp) (h1 : Kd.S k55 55 W W0.heap.size (fun k => m ≤ k) v1 gb) : laws_FnExactFromRecords.Fv w (W.alloc (.cells #[v0, v1] 28)) W0.heap.size m W.heap.size v0 v1 gp gb :=
  ⟨below_step (below_step hb hb2) (below_alloc (Below.refl _ _) _), below_size hb, below_size hb2, by rw [World.size_alloc]; omega, heap_alloc_new W _, Kd.S_alloc (Kd.S_mono (Kd.S_lower (Kd.S_bound h0) (below_size hb)) (fun k hk => ⟨⟨hk.2.1, hk.2.2.1⟩, hk.1⟩)) _, Kd.S_alloc (Kd.S_mono (Kd.S_lower (Kd.S_bound h1) (below_size hb)) (fun k hk => ⟨⟨hk.2.1, hk.2.2.1⟩, hk.1⟩)) _⟩
end
set_option maxHeartbeats 8000000 in
set_option maxRecDepth 100000 in
theorem laws_FnExactFromRecords.calls (k : Nat) (A0 : Option Addr) (c0 : Nat) (l0 : List (List Int)) (A1 : Option Addr) (c1 : Nat) (l1 : List S52) (r : Bool) (w : World) (hr0 : Kd.C (Kd.slice 3 (Kd.int .i64)) w A0 l0.length l0) (hc0 : l0.length ≤ c0) (hr1 : Kd.C k52 w A1 l1.length l1) (hc1 : l1.length ≤ c1) (h : laws_FnExactFromRecords.f k l0 l1 = some r) :
    Calls Tryz.prog 3 #[.slice A0 l0.length c0, .slice A1 l1.length c1] w fun e w' => e = .returned (.bool r) ∧ Below w.heap.size w w' := by
  unfold laws_FnExactFromRecords.f at h; replace h := Option.bind_eq_some_iff.mp h; obtain ⟨a, ha, h⟩ := h; have HR0 := Aside0.mk hr0; have HC0 := Aside0.mk hc0; have HR1 := Aside0.mk hr1; have HC1 := Aside0.mk hc1; have HA := Aside0.mk ha; have hu28 := Tryz.underlying28; clear hr0 hc0 hr1 hc1 ha; by_cases ca : a < 0
  · rw [if_pos ca] at h; obtain rfl := Option.some.inj h; go_enter Tryz.func3, Tryz.ntmps3; go_wp2_with (first | (go_at_call 5; (try simp only [i64_w]); (with_reducible refine (laws_szIntSS.calls k _ _ l0 1048576 a _ ?side1 ?side2 HA.out).mono ?_); (case side1 => exact HR0.out); (case side2 => exact HC0.out); rintro e w5 ⟨rfl, hd⟩; have HB := Aside0.mk (laws_FnExactFromRecords.db hd); clear hd)); go_ret; exact ⟨rfl, HB.out⟩
  rw [if_neg ca] at h; replace h := Option.bind_eq_some_iff.mp h; obtain ⟨b, hb, h⟩ := h; have HBZ := Aside0.mk hb; clear hb; by_cases cb : b < 0
  · rw [if_pos cb] at h; obtain rfl := Option.some.inj h; go_enter Tryz.func3, Tryz.ntmps3; go_wp2_with (first | (go_at_call 5; (try simp only [i64_w]); (with_reducible refine (laws_szIntSS.calls k _ _ l0 1048576 a _ ?side1 ?side2 HA.out).mono ?_); (case side1 => exact HR0.out); (case side2 => exact HC0.out); rintro e w5 ⟨rfl, hd⟩; have HB := Aside0.mk (laws_FnExactFromRecords.db hd); clear hd) | (go_at_call 6; (try simp only [i64_w]); (with_reducible refine (laws_szRecS.calls k _ _ l1 a b _ ?side1 ?side2 HBZ.out).mono ?_); (case side1 => exact Kd.C_below HR1.out HB.out); (case side2 => exact HC1.out); rintro e w6 ⟨rfl, hb⟩; have HB6 := Aside0.mk (below_step HB.out hb); clear hb)); go_ret; exact ⟨rfl, HB6.out⟩
  rw [if_neg cb] at h; replace h := Option.bind_eq_some_iff.mp h; obtain ⟨x0, hx0, h⟩ := h; replace h := Option.bind_eq_some_iff.mp h; obtain ⟨x1, hx1, h⟩ := h; replace h := Option.bind_eq_some_iff.mp h; obtain ⟨⟨wp, wb, wo⟩, hw, h⟩ := h; replace h := Option.bind_eq_some_iff.mp h; obtain ⟨⟨gp, gb, go⟩, hg, h⟩ := h; replace h := Option.bind_eq_some_iff.mp h; obtain ⟨e, he, h⟩ := h; replace h := Option.bind_eq_some_iff.mp h; obtain ⟨e1, he1, h⟩ := h; replace h := Option.bind_eq_some_iff.mp h; obtain ⟨e2, he2, h⟩ := h; replace h := Option.bind_eq_some_iff.mp h; obtain ⟨k1, hk1, h⟩ := h; replace h := Option.bind_eq_some_iff.mp h; obtain ⟨⟨k2, x2⟩, hk2, h⟩ := h; by_cases g : laws_FnExactFromRecords.good (gp, gb, go) (wp, wb, wo) e e1 e2 (k2, x2).1
  case neg => rw [if_neg g] at h; exact absurd h (by simp)
  rw [if_pos g] at h; replace h := Option.bind_eq_some_iff.mp h; obtain ⟨q, hq, h⟩ := h; obtain ⟨rfl, g2, rfl, rfl, g5, g6⟩ := g; dsimp only at g2 g5 g6 he hq h hk2; subst g2; by_cases cq : q = 1 + lensL gp + lenB gb
  case neg => rw [if_neg cq] at h; exact absurd h (by simp)
  rw [if_pos cq] at h; obtain rfl := Option.some.inj h; subst cq; have HX0 := Aside0.mk hx0; have HX1 := Aside0.mk hx1; have HW := Aside0.mk hw; have HG := Aside0.mk hg; have HE := Aside0.mk he; have HE1 := Aside0.mk he1; have HE2 := Aside0.mk he2; have HK1 := Aside0.mk hk1; have HK2 := Aside0.mk hk2; have HQ := Aside0.mk hq; have HM := Aside0.mk g6; clear h hx0 hx1 hw hg he he1 he2 hk1 hk2 hq g6; go_enter Tryz.func3, Tryz.ntmps3
  go_upto_region 9 with (first
    | (go_at_call 5; (try simp only [i64_w]); (with_reducible refine (laws_szIntSS.calls k _ _ l0 1048576 a _ ?side1 ?side2 HA.out).mono ?_); (case side1 => exact HR0.out); (case side2 => exact HC0.out); rintro e w5 ⟨rfl, hd⟩; have HB5 := Aside0.mk (laws_FnExactFromRecords.db hd); clear hd)
    | (go_at_call 6; (try simp only [i64_w]); (with_reducible refine (laws_szRecS.calls k _ _ l1 a b _ ?side1 ?side2 HBZ.out).mono ?_); (case side1 => exact Kd.C_below HR1.out HB5.out); (case side2 => exact HC1.out); rintro e w6 ⟨rfl, hb⟩; have HB6 := Aside0.mk (below_step HB5.out hb); clear hb HB5)
    | (go_at_call 8; (try simp only [i64_w]); (with_reducible refine (laws_toIntSS.calls k _ _ l0 x0 _ ?side1 ?side2 HX0.out).mono ?_); (case side1 => exact Kd.C_below HR0.out HB6.out); (case side2 => exact HC0.out); rintro e w7 ⟨vx, rfl, ho, hb⟩; obtain ⟨Ax, cx, rfl⟩ := Kd.S_slice ho; have HB7 := Aside0.mk (below_step HB6.out hb); have HSX := Aside0.mk ho; clear ho hb)
    | (go_at_call 9; (try simp only [i64_w]); (with_reducible refine (laws_toRecS.calls k _ _ l1 x1 _ ?side1 ?side2 HX1.out).mono ?_); (case side1 => exact Kd.C_below HR1.out HB7.out); (case side2 => exact HC1.out); rintro e w8 ⟨vy, rfl, ho, hb⟩; obtain ⟨Ay, cy, rfl⟩ := Kd.R_slice ho; have HB8 := Aside0.mk (below_step HB7.out hb); have HSX8 := Aside0.mk (Kd.S_below HSX.out hb); have HSY := Aside0.mk ho; clear ho hb HSX)
    | (go_at_call 7; (try simp only [i64_w]); (with_reducible refine (spec_FromRecords.calls k _ _ x0 _ _ x1 wp wb _ _ ?side1 ?side2 ?side3 ?side4 HW.out).mono ?_); (case side1 => exact (Kd.S_reads' HSX8.out).2.2); (case side2 => exact (Kd.S_reads' HSX8.out).2.1); (case side3 => exact (Kd.R_reads' HSY.out).2.2); (case side4 => exact (Kd.R_reads' HSY.out).2.1); rintro e w9 ⟨u0, u1, rfl, ho0, ho1, hb⟩; obtain ⟨Au, cu, rfl⟩ := Kd.S_slice ho0; obtain ⟨Av, cv, rfl⟩ := Kd.S_slice ho1; have FU0 := Aside0.mk (laws_FnExactFromRecords.Fu.make HB8.out hb ho0 ho1); clear ho0 ho1 hb HSX8 HSY; have y0 : (w9.alloc (.cells #[.slice none 0 0, .slice none 0 0] 28)).cell? ⟨w9.heap.size, 0, none⟩ = some (.slice none 0 0) := (blk_cell (heap_alloc_new w9 _) 0).trans rfl; have y1 : (w9.alloc (.cells #[.slice none 0 0, .slice none 0 0] 28)).cell? ⟨w9.heap.size, 1, none⟩ = some (.slice none 0 0) := (blk_cell (heap_alloc_new w9 _) 1).trans rfl; have f0 := blk_frozen (heap_alloc_new w9 (.cells #[.slice none 0 0, .slice none 0 0] 28)) 0; have f1 := blk_frozen (heap_alloc_new w9 (.cells #[.slice none 0 0, .slice none 0 0] 28)) 1))
  generalize w9.alloc (.cells #[.slice Au wp.length cu, .slice Av wb.length cv] 28) = w10 at FU0 ⊢; generalize w9.heap.size = g6 at FU0 ⊢; generalize w8.heap.size = n1 at FU0; clear y0 y1 f0 f1
  go_upto_region 11 with (first
    | (go_at_call 8; (try simp only [i64_w]); (with_reducible refine (laws_toIntSS.calls k _ _ l0 x0 _ ?side1 ?side2 HX0.out).mono ?_); (case side1 => exact Kd.C_below HR0.out FU0.out.b); (case side2 => exact HC0.out); rintro e w11 ⟨vx2, rfl, ho, hb⟩; obtain ⟨Ax2, cx2, rfl⟩ := Kd.S_slice ho; have FU1 := Aside0.mk (FU0.out.below hb); have HSX := Aside0.mk (Kd.S_bound ho); clear ho hb)
    | (go_at_call 9; (try simp only [i64_w]); (with_reducible refine (laws_toRecS.calls k _ _ l1 x1 _ ?side1 ?side2 HX1.out).mono ?_); (case side1 => exact Kd.C_below HR1.out FU1.out.b); (case side2 => exact HC1.out); rintro e w12 ⟨vy2, rfl, ho, hb⟩; obtain ⟨Ay2, cy2, rfl⟩ := Kd.R_slice ho; have FU2 := Aside0.mk (FU1.out.below hb); have HSX2 := Aside0.mk (Kd.S_below HSX.out hb); have HSY := Aside0.mk (Kd.R_bound ho); have HL2 := Aside0.mk hb.size; clear ho hb HSX))
  have g610 := FU0.out.lt; have hb0 := below_size FU0.out.b; have hb1 := below_size FU1.out.b; have HX2 : Aside0 (Kd.S (Kd.slice 3 (Kd.int .i64)) 50 w12 w.heap.size (fun k => g6 < k ∧ k < w11.heap.size) (.slice Ax2 x0.length cx2) x0) := ⟨Kd.S_mono (Kd.S_lower HSX2.out hb0) (fun k hk => ⟨by have := hk.2.1; omega, hk.2.2.1⟩)⟩; have HY2 : Aside0 (Kd.R k48 48 w12 w.heap.size (fun k => w11.heap.size ≤ k ∧ k < w12.heap.size) (.slice Ay2 x1.length cy2) x1) := ⟨Kd.R_mono (Kd.R_lower HSY.out hb1) (fun k hk => ⟨hk.2.1, hk.2.2.1⟩)⟩; have hn11 : g6 < w11.heap.size := FU1.out.lt; have hn12 : w11.heap.size ≤ w12.heap.size := HL2.out; clear FU0 FU1 hb0 hb1 HSX2 HSY HL2 g610
  go_upto_region 12 with (first
    | (go_at_call 10; (try simp only [i64_w]); (with_reducible refine (impl_FromRecords.calls_ap k _ _ x0 _ _ x1 gp gb _ _ ?side1 ?side2 ?side3 ?side4 HG.out).mono ?_); (case side1 => exact (Kd.S_reads' HX2.out).2.2); (case side2 => exact (Kd.S_reads' HX2.out).2.1); (case side3 => exact (Kd.R_reads' HY2.out).2.2); (case side4 => exact (Kd.R_reads' HY2.out).2.1); rintro e w13 ⟨m, v0, v1, rfl, ho0, ho1, hb⟩; obtain ⟨Ap, cp, rfl⟩ := Kd.S_slice ho0; obtain ⟨Ab, cb', rfl⟩ := Kd.S_slice ho1; have FV0 := Aside0.mk (laws_FnExactFromRecords.Fv.make FU2.out.b hb ho0 ho1); have hbA := below_step hb (below_alloc (Below.refl w13.heap.size w13) (.cells #[.slice Ap gp.length cp, .slice Ab gb.length cb'] 28)); have FU3 := Aside0.mk (FU2.out.below hbA); have HX3 := Aside0.mk (Kd.S_below HX2.out hbA); have HY3 := Aside0.mk (Kd.R_below HY2.out hbA); clear ho0 ho1 hb hbA FU2 HX2 HY2; have y0 : (w13.alloc (.cells #[.slice none 0 0, .slice none 0 0] 28)).cell? ⟨w13.heap.size, 0, none⟩ = some (.slice none 0 0) := (blk_cell (heap_alloc_new w13 _) 0).trans rfl; have y1 : (w13.alloc (.cells #[.slice none 0 0, .slice none 0 0] 28)).cell? ⟨w13.heap.size, 1, none⟩ = some (.slice none 0 0) := (blk_cell (heap_alloc_new w13 _) 1).trans rfl; have f0 := blk_frozen (heap_alloc_new w13 (.cells #[.slice none 0 0, .slice none 0 0] 28)) 0; have f1 := blk_frozen (heap_alloc_new w13 (.cells #[.slice none 0 0, .slice none 0 0] 28)) 1))
  generalize w13.alloc (.cells #[.slice Ap gp.length cp, .slice Ab gb.length cb'] 28) = w14 at FV0 FU3 HX3 HY3 ⊢; generalize w13.heap.size = g10 at FV0 ⊢; generalize w12.heap.size = n2 at FV0 HY3 hn12; generalize w11.heap.size = n11 at HX3 HY3 hn11 hn12; clear y0 y1 f0 f1; have eg : (go != go) = false := (by cases go <;> rfl); obtain ⟨z0, z1⟩ := FV0.out.cells; obtain ⟨y0, y1⟩ := FU3.out.cells
  go_upto_region 14 with (first
    | (go_at_call 11; (try simp only [i64_w]); (with_reducible refine (laws_eqWeave.calls k _ _ gp _ _ gb _ _ wp _ _ wb true _ ?side1 ?side2 ?side3 ?side4 ?side5 ?side6 ?side7 ?side8 HE.out).mono ?_); (case side1 => exact (Kd.S_reads' FV0.out.s0).2.2); (case side2 => exact (Kd.S_reads' FV0.out.s0).2.1); (case side3 => exact (Kd.S_reads' FV0.out.s1).2.2); (case side4 => exact (Kd.S_reads' FV0.out.s1).2.1); (case side5 => exact (Kd.S_reads' FU3.out.s0).2.2); (case side6 => exact (Kd.S_reads' FU3.out.s0).2.1); (case side7 => exact (Kd.S_reads' FU3.out.s1).2.2); (case side8 => exact (Kd.S_reads' FU3.out.s1).2.1); rintro e w15 ⟨rfl, hb⟩; have FU4 := Aside0.mk (FU3.out.below hb); have FV1 := Aside0.mk (FV0.out.below hb); have HX4 := Aside0.mk (Kd.S_below HX3.out hb); have HY4 := Aside0.mk (Kd.R_below HY3.out hb); clear hb FU3 FV0 HX3 HY3))
  clear z0 z1 y0 y1
  go_upto_region 16 with (first
    | (go_at_call 8; (try simp only [i64_w]); (with_reducible refine (laws_toIntSS.calls k _ _ l0 x0 _ ?side1 ?side2 HX0.out).mono ?_); (case side1 => exact Kd.C_below HR0.out FU4.out.b); (case side2 => exact HC0.out); rintro e w16 ⟨vx3, rfl, ho, hb⟩; obtain ⟨Ax3, cx3, rfl⟩ := Kd.S_slice ho; have FU5 := Aside0.mk (FU4.out.below hb); have FV2 := Aside0.mk (FV1.out.below hb); have HX5 := Aside0.mk (Kd.S_below HX4.out hb); have HY5 := Aside0.mk (Kd.R_below HY4.out hb); have HZ := Aside0.mk ho; clear ho hb FU4 FV1 HX4 HY4)
    | (go_at_call 12; (try simp only [i64_w]); (with_reducible refine (laws_eqIntSS.calls k _ _ x0 _ _ x0 true _ ?side1 ?side2 ?side3 ?side4 HE1.out).mono ?_); (case side1 => exact (Kd.S_reads' HX5.out).2.2); (case side2 => exact (Kd.S_reads' HX5.out).2.1); (case side3 => exact (Kd.S_reads' HZ.out).2.2); (case side4 => exact (Kd.S_reads' HZ.out).2.1); rintro e w17 ⟨rfl, hd⟩; have hb := laws_FnExactFromRecords.db hd; have FU6 := Aside0.mk (FU5.out.below hb); have FV3 := Aside0.mk (FV2.out.below hb); have HX6 := Aside0.mk (Kd.S_below HX5.out hb); have HY6 := Aside0.mk (Kd.R_below HY5.out hb); clear hb hd FU5 FV2 HX5 HY5 HZ))
  go_upto_region 18 with (first
    | (go_at_call 9; (try simp only [i64_w]); (with_reducible refine (laws_toRecS.calls k _ _ l1 x1 _ ?side1 ?side2 HX1.out).mono ?_); (case side1 => exact Kd.C_below HR1.out FU6.out.b); (case side2 => exact HC1.out); rintro e w18 ⟨vy3, rfl, ho, hb⟩; obtain ⟨Ay3, cy3, rfl⟩ := Kd.R_slice ho; have FU7 := Aside0.mk (FU6.out.below hb); have FV4 := Aside0.mk (FV3.out.below hb); have HX7 := Aside0.mk (Kd.S_below HX6.out hb); have HY7 := Aside0.mk (Kd.R_below HY6.out hb); have HZ := Aside0.mk ho; clear ho hb FU6 FV3 HX6 HY6)
    | (go_at_call 13; (try simp only [i64_w]); (with_reducible refine (laws_eqRecS.calls k _ _ x1 _ _ x1 true _ ?side1 ?side2 ?side3 ?side4 HE2.out).mono ?_); (case side1 => exact (Kd.R_reads' HY7.out).2.2); (case side2 => exact (Kd.R_reads' HY7.out).2.1); (case side3 => exact (Kd.R_reads' HZ.out).2.2); (case side4 => exact (Kd.R_reads' HZ.out).2.1); rintro e w19 ⟨rfl, hb⟩; have FU8 := Aside0.mk (FU7.out.below hb); have FV5 := Aside0.mk (FV4.out.below hb); have HX8 := Aside0.mk (Kd.S_below HX7.out hb); have HY8 := Aside0.mk (Kd.R_below HY7.out hb); clear hb FU7 FV4 HX7 HY7 HZ))
  go_upto_region 20 with (first
    | (go_at_call 14; (try simp only [i64_w]); (with_reducible refine (laws_markIntSS.calls (fun k_ => g6 < k_ ∧ k_ < n11) _ x0 1 k1 w _ ?side1 ?side2 HK1.out).mono ?_); (case side1 => exact FU8.out.b); (case side2 => exact HX8.out); rintro e w20 ⟨rfl, hb, hk⟩; have FU9 := Aside0.mk (FU8.out.kept hb hk (fun k h => h.1)); have FV6 := Aside0.mk (FV5.out.kept hb hk (fun k h => by omega)); have HY9 := Aside0.mk (Kd.R_step HY8.out (fun k h1 hl => hk.2 k hl (fun h => by omega))); clear hb hk FU8 FV5 HX8 HY8))
  go_upto_region 21 with (first
    | (go_at_call 15; (try simp only [i64_w]); (with_reducible refine (laws_markRecS.calls k (fun k_ => n11 ≤ k_ ∧ k_ < n2) _ x1 k1 k2 x2 w _ ?side1 ?side2 HK2.out).mono ?_); (case side1 => exact FU9.out.b); (case side2 => exact HY9.out); rintro e w21 ⟨rfl, _, hb, hk⟩; have FU10 := Aside0.mk (FU9.out.kept hb hk (fun k h => by omega)); have FV7 := Aside0.mk (FV6.out.kept hb hk (fun k h => h.2)); clear hb hk FU9 FV6 HY9))
  obtain ⟨z0, z1⟩ := FV7.out.cells; obtain ⟨y0, y1⟩ := FU10.out.cells; have ek : decide (k2 < 0) = false := by simpa using g5
  go_upto_region 23 with (first
    | (go_at_call 11; (try simp only [i64_w]); (with_reducible refine (laws_eqWeave.calls k _ _ gp _ _ gb _ _ wp _ _ wb true _ ?side1 ?side2 ?side3 ?side4 ?side5 ?side6 ?side7 ?side8 HE.out).mono ?_); (case side1 => exact (Kd.S_reads' FV7.out.s0).2.2); (case side2 => exact (Kd.S_reads' FV7.out.s0).2.1); (case side3 => exact (Kd.S_reads' FV7.out.s1).2.2); (case side4 => exact (Kd.S_reads' FV7.out.s1).2.1); (case side5 => exact (Kd.S_reads' FU10.out.s0).2.2); (case side6 => exact (Kd.S_reads' FU10.out.s0).2.1); (case side7 => exact (Kd.S_reads' FU10.out.s1).2.2); (case side8 => exact (Kd.S_reads' FU10.out.s1).2.1); rintro e w22 ⟨rfl, hb⟩; have FU11 := Aside0.mk (FU10.out.below hb); have FV8 := Aside0.mk (FV7.out.below hb); clear hb FU10 FV7))
  clear z0 z1 y0 y1 ek; obtain ⟨q, hqe⟩ : ∃ q : Int, q = 1 + lensL gp + lenB gb := ⟨_, rfl⟩; have HCM := Aside0.mk (markWeaveK (fun k => (n2 ≤ k ∧ k < g10) ∧ k < m) (fun k => (n2 ≤ k ∧ k < g10) ∧ m ≤ k) (fun k h h2 => by omega) _ _ gp gb HM.out w w22 FV8.out.b FV8.out.s0 FV8.out.s1); rw [← hqe] at HCM HQ; have EL := Aside0.mk (marksLL_length 1 gp); have EB := Aside0.mk (marksBB_length (1 + lensL gp) gb)
  have q0 : decide (q < 0) = false := by
    have : ¬ q < 0 := (by omega); simpa using this
  have q1 : (q != q) = false := (by simp); clear hqe; obtain ⟨z0, z1⟩ := FV8.out.cells
  go_upto_region 26 with (first
    | (go_at_call 16; refine HCM.out.mono ?_; rintro e w23 ⟨rfl, h0_, h1_, hb, hk⟩; have FV9 := Aside0.mk (FV8.out.marked hb hk h0_ h1_); have FU12 := Aside0.mk (FU11.out.kept hb hk (fun k h => by omega)); clear hb hk h0_ h1_ FV8 FU11))
  clear z0 z1; obtain ⟨z0, z1⟩ := FV9.out.cells
  go_upto_region 31 with (first
    | (go_at_call 17; have hc_ := laws_heldWeave.calls k Ap cp (marksLL 1 gp) Ab cb' (marksBB (1 + lensL gp) gb) 1 q _ (Kd.S_reads' FV9.out.s0).2.2 (by have h_ := Kd.S_reads' FV9.out.s0; omega) (Kd.S_reads' FV9.out.s1).2.2 (by have h_ := Kd.S_reads' FV9.out.s1; omega) HQ.out; rw [EL.out, EB.out] at hc_; refine hc_.mono ?_; rintro e w24 ⟨rfl, hb⟩; have FU13 := Aside0.mk (FU12.out.below hb); have FV10 := Aside0.mk (FV9.out.below hb); clear hb hc_ FU12 FV9))
  clear z0 z1
  go_upto_region 32 with (first
    | (go_at_call 8; (try simp only [i64_w]); (with_reducible refine (laws_toIntSS.calls k _ _ l0 x0 _ ?side1 ?side2 HX0.out).mono ?_); (case side1 => exact Kd.C_below HR0.out FU13.out.b); (case side2 => exact HC0.out); rintro e w25 ⟨vx4, rfl, ho, hb⟩; obtain ⟨Ax4, cx4, rfl⟩ := Kd.S_slice ho; have FU14 := Aside0.mk (FU13.out.below hb); have FV11 := Aside0.mk (FV10.out.below hb); have HZ := Aside0.mk ho; clear ho hb FU13 FV10)
    | (go_at_call 9; (try simp only [i64_w]); (with_reducible refine (laws_toRecS.calls k _ _ l1 x1 _ ?side1 ?side2 HX1.out).mono ?_); (case side1 => exact Kd.C_below HR1.out FU14.out.b); (case side2 => exact HC1.out); rintro e w26 ⟨vy4, rfl, ho, hb⟩; obtain ⟨Ay4, cy4, rfl⟩ := Kd.R_slice ho; have FU15 := Aside0.mk (FU14.out.below hb); have FV12 := Aside0.mk (FV11.out.below hb); have HZ2 := Aside0.mk (Kd.S_below HZ.out hb); have HY := Aside0.mk ho; clear ho hb FU14 FV11 HZ)
    | (go_at_call 10; (try simp only [i64_w]); (with_reducible refine (impl_FromRecords.calls_ap k _ _ x0 _ _ x1 gp gb _ _ ?side1 ?side2 ?side3 ?side4 HG.out).mono ?_); (case side1 => exact (Kd.S_reads' HZ2.out).2.2); (case side2 => exact (Kd.S_reads' HZ2.out).2.1); (case side3 => exact (Kd.R_reads' HY.out).2.2); (case side4 => exact (Kd.R_reads' HY.out).2.1); rintro e w27 ⟨m2, v0, v1, rfl, ho0, ho1, hb⟩; obtain ⟨Aq, cq, rfl⟩ := Kd.S_slice ho0; obtain ⟨Ar, cr, rfl⟩ := Kd.S_slice ho1; have FH0 := Aside0.mk (laws_FnExactFromRecords.Fv.make FU15.out.b hb ho0 ho1); have hbA := below_step hb (below_alloc (Below.refl w27.heap.size w27) (.cells #[.slice Aq gp.length cq, .slice Ar gb.length cr] 28)); have FU16 := Aside0.mk (FU15.out.below hbA); have FV13 := Aside0.mk (FV12.out.below hbA); clear ho0 ho1 hb hbA FU15 FV12 HZ2 HY; have y0 : (w27.alloc (.cells #[.slice none 0 0, .slice none 0 0] 28)).cell? ⟨w27.heap.size, 0, none⟩ = some (.slice none 0 0) := (blk_cell (heap_alloc_new w27 _) 0).trans rfl; have y1 : (w27.alloc (.cells #[.slice none 0 0, .slice none 0 0] 28)).cell? ⟨w27.heap.size, 1, none⟩ = some (.slice none 0 0) := (blk_cell (heap_alloc_new w27 _) 1).trans rfl; have f0 := blk_frozen (heap_alloc_new w27 (.cells #[.slice none 0 0, .slice none 0 0] 28)) 0; have f1 := blk_frozen (heap_alloc_new w27 (.cells #[.slice none 0 0, .slice none 0 0] 28)) 1))
  generalize w27.alloc (.cells #[.slice Aq gp.length cq, .slice Ar gb.length cr] 28) = w28 at FH0 FU16 FV13 ⊢; generalize w27.heap.size = g15 at FH0 ⊢; clear y0 y1 f0 f1; obtain ⟨z0, z1⟩ := FH0.out.cells; obtain ⟨y0, y1⟩ := FU16.out.cells
  go_upto_region 34 with (first
    | (go_at_call 11; (try simp only [i64_w]); (with_reducible refine (laws_eqWeave.calls k _ _ gp _ _ gb _ _ wp _ _ wb true _ ?side1 ?side2 ?side3 ?side4 ?side5 ?side6 ?side7 ?side8 HE.out).mono ?_); (case side1 => exact (Kd.S_reads' FH0.out.s0).2.2); (case side2 => exact (Kd.S_reads' FH0.out.s0).2.1); (case side3 => exact (Kd.S_reads' FH0.out.s1).2.2); (case side4 => exact (Kd.S_reads' FH0.out.s1).2.1); (case side5 => exact (Kd.S_reads' FU16.out.s0).2.2); (case side6 => exact (Kd.S_reads' FU16.out.s0).2.1); (case side7 => exact (Kd.S_reads' FU16.out.s1).2.2); (case side8 => exact (Kd.S_reads' FU16.out.s1).2.1); rintro e w29 ⟨rfl, hb⟩; have FU17 := Aside0.mk (FU16.out.below hb); have FH1 := Aside0.mk (FH0.out.below hb); have FV14 := Aside0.mk (FV13.out.below hb); clear hb FU16 FH0 FV13))
  clear z0 z1 y0 y1; obtain ⟨z0, z1⟩ := FV14.out.cells
  go_wp2_with (first
    | (go_at_call 17; have hc_ := laws_heldWeave.calls k Ap cp (marksLL 1 gp) Ab cb' (marksBB (1 + lensL gp) gb) 1 q _ (Kd.S_reads' FV14.out.s0).2.2 (by have h_ := Kd.S_reads' FV14.out.s0; omega) (Kd.S_reads' FV14.out.s1).2.2 (by have h_ := Kd.S_reads' FV14.out.s1; omega) HQ.out; rw [EL.out, EB.out] at hc_; refine hc_.mono ?_; rintro e w30 ⟨rfl, hb⟩; have FU18 := Aside0.mk (FU17.out.below hb); clear hb hc_ FU17 FV14))
  go_ret; exact ⟨by first | rfl | (simp; done), FU18.out.b⟩
/-- What is left of laws_FnExactFromRecords. -/
def laws_FnExactFromRecords.Pure : Prop := ∀ (l0 : List (List Int)), ∀ (l1 : List (S52)), (l0.length * 24 ≤ 140737488351232 ∧ ∀ x0 ∈ l0, x0.length * 8 ≤ 140737488351232 ∧ ∀ x1 ∈ x0, (Lit.int .i64 x1).wf = true) → (l1.length * 32 ≤ 140737488351232 ∧ ∀ x0 ∈ l1, ((Lit.int .i64 x0.f0).wf = true) ∧ ((Lit.int .i64 x0.f1).wf = true) ∧ (x0.f2.size ≤ 140737488351232)) → ∃ k, laws_FnExactFromRecords.f k l0 l1 = some true

end Go.Proofs.YtmodgiingohphaaGreat.PFnExactFromRecords
-- (flat)
-- (thin)
