/- The program's PartsOf returns what the reference's returns, for every text; the answer shares nothing with what is told later. -/
import Derived.Test.YtfaebcoembcfoaaDoorPFnExactPartsOfx3
import Derived.Test.YtfaebcoembcfoaaDoorGen
namespace Go.Proofs.YtfaebcoembcfoaaDoor.Pure
open Go.RowKit Go.Proofs.YtfaebcoembcfoaaDoor.PFnExactPartsOf Go.Proofs.YtfaebcoembcfoaaDoorW.PrintWords Go.Proofs.YtfaebcoembcfoaaDoorW.PrintLast Go.Proofs.YtfaebcoembcfoaaDoorG

def glueL (a : List UInt8) : List (List UInt8) → List (List UInt8)
  | [] => [a]
  | p :: ps => (a ++ p) :: ps
def pcs (c : UInt8) : List UInt8 → List (List UInt8)
  | [] => [[]]
  | x :: l => if x = c then [] :: pcs c l else glueL [x] (pcs c l)
theorem pcs_ne (c : UInt8) (l : List UInt8) : pcs c l ≠ [] := by
  cases l with
  | nil => simp [pcs]
  | cons x l =>
    unfold pcs
    split
    · simp
    · cases pcs c l <;> simp [glueL]
theorem glueL_glueL (a b : List UInt8) (L : List (List UInt8)) : glueL a (glueL b L) = glueL (a ++ b) L := by
  cases L <;> simp [glueL]
theorem glueL_nil {L : List (List UInt8)} (h : L ≠ []) : glueL [] L = L := by
  cases L with
  | nil => exact absurd rfl h
  | cons p ps => rfl
theorem pcs_free (c : UInt8) (l : List UInt8) : ∀ a : List UInt8, c ∉ a → pcs c (a ++ l) = glueL a (pcs c l)
  | [], _ => (glueL_nil (pcs_ne c l)).symm
  | x :: a, h => by
    have hx : ¬ x = c := fun e => h (by simp [e])
    rw [List.cons_append, pcs, if_neg hx, pcs_free c l a (fun e => h (by simp [e])), glueL_glueL]
    rfl
theorem pcs_hit (c : UInt8) (a l : List UInt8) (h : c ∉ a) : pcs c (a ++ c :: l) = a :: pcs c l := by
  rw [pcs_free c _ a h, pcs, if_pos rfl]
  simp [glueL]
theorem pcs_miss (c : UInt8) (a : List UInt8) (h : c ∉ a) : pcs c a = [a] := by
  have := pcs_free c [] a h
  rw [List.append_nil] at this
  rw [this]
  simp [pcs, glueL]
theorem index_one_miss (c : UInt8) : ∀ a : List UInt8, c ∉ a → Lib.index a [c] = -1
  | [], _ => rfl
  | x :: a, h => by
    have hx : (c == x) = false := by
      rw [beq_eq_false_iff_ne]
      exact fun e => h (by simp [e])
    have ih := index_one_miss c a (fun e => h (by simp [e]))
    unfold Lib.index
    simp [List.isPrefixOf, hx, ih]
theorem index_one_hit (c : UInt8) (l : List UInt8) : ∀ a : List UInt8, c ∉ a → Lib.index (a ++ c :: l) [c] = a.length
  | [], _ => by
    unfold Lib.index
    simp [List.isPrefixOf]
  | x :: a, h => by
    have hx : (c == x) = false := by
      rw [beq_eq_false_iff_ne]
      exact fun e => h (by simp [e])
    have ih := index_one_hit c l a (fun e => h (by simp [e]))
    rw [List.cons_append]
    unfold Lib.index
    rw [ih]
    simp only [List.isPrefixOf, hx, Bool.false_and, List.length_cons]
    rw [if_neg (by simp)]
    have e : ((a.length : Int) == -1) = false := by rw [beq_eq_false_iff_ne]; omega
    simp [e]
theorem split_pcs (c : UInt8) : ∀ (n : Nat) (s : List UInt8), s.length ≤ n → Lib.splitK [c] 0 (Lib.count s [c]) s = pcs c s := by
  intro n
  induction n with
  | zero =>
    intro s h
    obtain rfl : s = [] := List.length_eq_zero_iff.1 (by omega)
    rw [Lib.count_miss (index_one_miss c [] (by simp))]
    rfl
  | succ n ih =>
    intro s h
    by_cases hc : c ∈ s
    · obtain ⟨a, b, rfl, ha⟩ := List.eq_append_cons_of_mem hc
      have hi := index_one_hit c b a ha
      have e1 : (a ++ c :: b).drop (a.length + [c].length) = b := by
        rw [List.drop_append]
        simp
      rw [Lib.count_hit (by simp) hi, e1, Nat.add_comm, Lib.splitK, hi, if_neg (by simp), Int.toNat_natCast, e1, pcs_hit c a b ha, ih b (by simp at h; omega)]
      simp
    · rw [Lib.count_miss (index_one_miss c s hc), pcs_miss c s hc]
      rfl
def strU (l : List UInt8) : ByteArray := ⟨l.toArray⟩
theorem strU_data (l : List UInt8) : (strU l).data.toList = l := by simp [strU]
theorem strU_map (L : List ByteArray) : (L.map (·.data.toList)).map strU = L := by
  rw [List.map_map]
  conv => rhs; rw [← List.map_id L]
  apply List.map_congr_left
  intro s _
  exact data_inj (strU_data _)
theorem strU_size (l : List UInt8) : (strU l).size = l.length := by
  rw [← data_length, strU_data]
def piecesB (c : UInt8) (s : ByteArray) : List ByteArray := (pcs c s.data.toList).map strU
theorem splitB_pieces (c : UInt8) (s : ByteArray) : Lib.splitB ⟨#[c]⟩ 0 (Lib.countB s ⟨#[c]⟩) s = piecesB c s := by
  have e := Lib.splitB_data ⟨#[c]⟩ 0 (Lib.countB s ⟨#[c]⟩) s
  rw [← strU_map (Lib.splitB _ _ _ _), e]
  unfold piecesB
  exact congrArg (List.map strU) (split_pcs c _ _ (Nat.le_refl _))
theorem strings_Split_eq (c : UInt8) (s : ByteArray) (h : s.size < 4294967281) : strings_Split.f s ⟨#[c]⟩ = some (piecesB c s) := by
  unfold strings_Split.f
  rw [if_pos ⟨h, rfl⟩, splitB_pieces]
theorem pcs_length (c : UInt8) : ∀ l : List UInt8, (pcs c l).length ≤ l.length + 1
  | [] => by simp [pcs]
  | x :: l => by
    have ih := pcs_length c l
    unfold pcs
    split
    · simp only [List.length_cons]; omega
    · generalize pcs c l = L at ih ⊢
      cases L with
      | nil => simp [glueL]
      | cons p ps => simp only [glueL, List.length_cons] at ih ⊢; omega
theorem bt_data (s : ByteArray) (i : Nat) (h : i < s.data.toList.length) : bt s (i : Int) = ((s.data.toList[i]).toNat : Int) := by
  rw [← rd_bytesOf, rd_nat _ _ (by rw [bytesOf_length, ← data_length]; exact h)]
  simp [bytesOf]
theorem extract_strU (s : ByteArray) (i j : Nat) : s.extract i j = strU ((s.data.toList.drop i).take (j - i)) := by
  apply data_inj
  rw [strU_data, ByteArray.data_extract, Array.toList_extract, List.extract_eq_take_drop]
def okL (l : List UInt8) : Bool := l.all fun b => decide (32 ≤ b.toNat) && decide (b.toNat ≤ 126)
def keepP (L : List (List UInt8)) : List ByteArray := (L.filter fun p => !p.isEmpty).map strU
def capP (L : List ByteArray) : List ByteArray × Bool := if (L.length : Int) > 40 then ([], false) else (L, true)
theorem capP_pos {L : List ByteArray} (h : (L.length : Int) > 40) : capP L = ([], false) := if_pos h
theorem capP_neg {L : List ByteArray} (h : ¬ (L.length : Int) > 40) : capP L = (L, true) := if_neg h
def partsR (s : ByteArray) : List ByteArray × Bool := if (s.size : Int) > 2000 then ([], false) else if okL s.data.toList = true then capP (keepP (pcs 32 s.data.toList)) else ([], false)
theorem keepP_le (L : List (List UInt8)) : (keepP L).length ≤ L.length := by
  unfold keepP
  rw [List.length_map]
  exact List.length_filter_le _ _
theorem impl_PartsOf_l1 (Q : List (List UInt8)) (hQ : Q.length ≤ 2001) : ∀ (n i : Nat) (acc : List ByteArray), i + n = Q.length → acc.length ≤ i → Ev (fun k => impl_PartsOf.l1 k acc (Q.map strU) (Q.length : Int) (i : Int)) (capP (acc ++ keepP (Q.drop i))) := by
  intro n
  induction n with
  | zero =>
    intro i acc hi ha
    refine Ev.succ ?_
    simp only [impl_PartsOf.l1]
    rw [drop_end Q i (by omega)]
    refine Ev.neg (by omega) ?_
    have e : acc ++ keepP [] = acc := by simp [keepP]
    rw [e]
    by_cases h : (acc.length : Int) > 40
    · exact Ev_eq (Ev.pos h (Ev.now _)) (capP_pos h).symm
    · exact Ev_eq (Ev.neg h (Ev.now _)) (capP_neg h).symm
  | succ n ih =>
    intro i acc hi ha
    have hlt : i < Q.length := by omega
    refine Ev.succ ?_
    simp only [impl_PartsOf.l1]
    have e0 : rdOf ByteArray.empty (Q.map strU) (i : Int) = strU Q[i] := by
      rw [rdOf_nat _ _ _ (by rw [List.length_map]; exact hlt), List.getElem_map]
    rw [up1 i (by omega), e0, List.drop_eq_getElem_cons hlt]
    refine Ev.pos (by omega) (Ev.pos (by omega) (Ev.pos (by rw [List.length_map]; omega) ?_))
    rw [toList_data, strU_data]
    by_cases h : Q[i] = []
    · refine Ev.pos h (Ev_eq (ih (i + 1) acc (by omega) (by omega)) ?_)
      unfold keepP
      rw [List.filter_cons_of_neg (by rw [h]; simp)]
    · refine Ev.neg h (Ev.pos (by omega) (Ev_eq (ih (i + 1) _ (by omega) (by rw [List.length_append]; simp; omega)) ?_))
      unfold keepP
      rw [List.filter_cons_of_pos (by simpa using h)]
      simp
theorem impl_PartsOf_l0 (s : ByteArray) (hs : s.size ≤ 2000) : ∀ (n i : Nat), i + n = s.size → Ev (fun k => impl_PartsOf.l0 k s (i : Int)) (if okL (s.data.toList.drop i) = true then capP (keepP (pcs 32 s.data.toList)) else ([], false)) := by
  intro n
  have hz := data_length s
  induction n with
  | zero =>
    intro i hi
    refine Ev.succ ?_
    simp only [impl_PartsOf.l0]
    rw [drop_end _ i (by omega), if_pos (show okL [] = true from rfl)]
    refine Ev.neg (by omega) (Ev.bnd0 (strings_Split_eq 32 s (by omega)) ?_)
    unfold piecesB
    rw [List.length_map]
    have hp := pcs_length 32 s.data.toList
    exact Ev_eq (impl_PartsOf_l1 (pcs 32 s.data.toList) (by omega) (pcs 32 s.data.toList).length 0 [] (by omega) (by simp)) (by rw [List.drop_zero, List.nil_append])
  | succ n ih =>
    intro i hi
    have hlt : i < s.data.toList.length := by omega
    refine Ev.succ ?_
    simp only [impl_PartsOf.l0]
    rw [bt_data s i hlt, up1 i (by omega), List.drop_eq_getElem_cons hlt]
    refine Ev.pos (by omega) (Ev.pos (by omega) ?_)
    have ih := ih (i + 1) (by omega)
    generalize s.data.toList[i] = b at *
    by_cases h1 : b.toNat < 32
    · refine Ev.pos (by omega) (Ev.some_ ?_)
      rw [if_neg]
      simp only [okL, List.all_cons]
      simp
      omega
    · refine Ev.neg (by omega) ?_
      by_cases h2 : b.toNat > 126
      · refine Ev.pos (by omega) (Ev.some_ ?_)
        rw [if_neg]
        simp only [okL, List.all_cons]
        simp
        omega
      · refine Ev.neg (by omega) (Ev_eq ih ?_)
        congr 1
        simp only [okL, List.all_cons]
        have : (decide (32 ≤ b.toNat) && decide (b.toNat ≤ 126)) = true := by simp; omega
        rw [this, Bool.true_and]
theorem impl_PartsOf_ev (s : ByteArray) : Ev (fun k => impl_PartsOf.f k s) (partsR s) := by
  simp only [impl_PartsOf.f]
  unfold partsR
  by_cases h : (s.size : Int) > 2000
  · rw [if_pos h]; exact Ev.pos h (Ev.now _)
  · rw [if_neg h]
    exact Ev.neg h (impl_PartsOf_l0 s (by omega) s.size 0 (by omega))
theorem glueL_cur (cur : List UInt8) (x : UInt8) (L : List (List UInt8)) : glueL cur (glueL [x] L) = glueL (cur ++ [x]) L := glueL_glueL _ _ _
theorem spec_PartsOf_l0 (s : ByteArray) (hs : s.size ≤ 2000) : ∀ (n i b : Nat) (acc : List ByteArray), i + n = s.size → b ≤ i → acc.length ≤ i →
    Ev (fun k => spec_PartsOf.l0 k s acc (b : Int) (i : Int)) (if okL (s.data.toList.drop i) = true then capP (acc ++ keepP (glueL ((s.data.toList.drop b).take (i - b)) (pcs 32 (s.data.toList.drop i)))) else ([], false)) := by
  intro n
  have hz := data_length s
  have last : ∀ (i : Nat) (acc : List ByteArray) (b : Int), i = s.size + 1 → Ev (fun k => spec_PartsOf.l0 k s acc b (i : Int)) (capP acc) := by
    intro i acc b hi
    refine Ev.succ ?_
    simp only [spec_PartsOf.l0]
    refine Ev.neg (by omega) ?_
    by_cases h : (acc.length : Int) > 40
    · exact Ev_eq (Ev.pos h (Ev.now _)) (capP_pos h).symm
    · exact Ev_eq (Ev.neg h (Ev.now _)) (capP_neg h).symm
  have push : ∀ (i b : Nat) (acc : List ByteArray) (R : List ByteArray × Bool), i ≤ s.size → b ≤ i → acc.length ≤ i → Ev (fun k => spec_PartsOf.l0 k s (acc ++ keepP [(s.data.toList.drop b).take (i - b)]) ((i + 1 : Nat) : Int) ((i + 1 : Nat) : Int)) R → Ev (fun k => spec_PartsOf.j2 k s acc (b : Int) (i : Int) false) R := by
    intro i b acc R hi hb ha hR
    refine Ev.succ ?_
    simp only [spec_PartsOf.j2]
    refine Ev.neg (by simp) ?_
    rw [up1 i (by omega)]
    by_cases h : b < i
    · have e : keepP [(s.data.toList.drop b).take (i - b)] = [s.extract (b : Int).toNat (i : Int).toNat] := by
        have hne : ¬ (List.take (i - b) (List.drop b s.data.toList)).isEmpty = true := by
          rw [List.isEmpty_iff, ← List.length_eq_zero_iff, List.length_take, List.length_drop]
          omega
        unfold keepP
        rw [List.filter_cons_of_pos (by simpa using hne), extract_strU, Int.toNat_natCast, Int.toNat_natCast]
        rfl
      rw [e] at hR
      exact Ev.pos (by omega) (Ev.pos (by omega) (Ev.pos (by omega) (Ev.pos (by omega) (Ev.pos (by omega) hR))))
    · have e : keepP [(s.data.toList.drop b).take (i - b)] = [] := by
        rw [show i - b = 0 by omega, List.take_zero]
        rfl
      rw [e, List.append_nil] at hR
      exact Ev.neg (by omega) hR
  induction n with
  | zero =>
    intro i b acc hi hb ha
    refine Ev.succ ?_
    simp only [spec_PartsOf.l0]
    rw [drop_end _ i (by omega), if_pos (show okL [] = true from rfl)]
    refine Ev.pos (by omega) (Ev.neg (by omega) (Ev.succ ?_))
    simp only [spec_PartsOf.j1]
    refine Ev.neg (by simp) (Ev.neg (by omega) (push i b acc _ (by omega) hb ha (Ev_eq (last (i + 1) _ _ (by omega)) ?_)))
    simp [pcs, glueL]
  | succ n ih =>
    intro i b acc hi hb ha
    have hlt : i < s.data.toList.length := by omega
    refine Ev.succ ?_
    simp only [spec_PartsOf.l0]
    rw [bt_data s i hlt, List.drop_eq_getElem_cons hlt]
    have et : (s.data.toList.drop b).take (i + 1 - b) = (s.data.toList.drop b).take (i - b) ++ [s.data.toList[i]] := by
      rw [show i + 1 - b = (i - b) + 1 by omega, List.take_succ_eq_append_getElem (by rw [List.length_drop]; omega), List.getElem_drop]
      congr 2
      simp only [show b + (i - b) = i by omega]
    refine Ev.pos (by omega) (Ev.pos (by omega) (Ev.pos (by omega) ?_))
    have ih := ih (i + 1)
    have hb8 : bt s (i : Int) = ((s.data.toList[i]).toNat : Int) := bt_data s i hlt
    generalize hx : s.data.toList[i] = x at *
    have ok : Ev (fun k => spec_PartsOf.j1 k s acc (b : Int) (i : Int) false) (if okL (s.data.toList.drop (i + 1)) = true then capP (acc ++ keepP (glueL ((s.data.toList.drop b).take (i - b)) (pcs 32 (x :: s.data.toList.drop (i + 1))))) else ([], false)) := by
      refine Ev.succ ?_
      simp only [spec_PartsOf.j1]
      rw [hb8]
      refine Ev.neg (by simp) (Ev.pos (by omega) (Ev.pos (by omega) ?_))
      rw [pcs]
      by_cases h : x = 32
      · rw [if_pos h]
        have e1 : ((x.toNat : Int) != 32) = false := by subst h; rfl
        rw [e1]
        refine push i b acc _ (by omega) hb ha (Ev_eq (ih (i + 1) _ (by omega) (by omega) ?_) ?_)
        · have := keepP_le [(s.data.toList.drop b).take (i - b)]
          rw [List.length_append]
          simp only [List.length_cons, List.length_nil] at this
          omega
        · congr 1
          rw [Nat.sub_self, List.take_zero, glueL_nil (pcs_ne _ _), List.append_assoc]
          congr 2
          unfold keepP
          rw [← List.map_append, ← List.filter_append]
          congr 2
          simp [glueL]
      · rw [if_neg h]
        have e1 : ((x.toNat : Int) != 32) = true := by
          rw [bne_iff_ne]
          intro e
          exact h (UInt8.toNat_inj.1 (by simpa using (show x.toNat = 32 by omega)))
        rw [e1]
        refine Ev.succ ?_
        simp only [spec_PartsOf.j2]
        rw [up1 i (by omega)]
        refine Ev.pos (by first | rfl | trivial) (Ev_eq (ih b acc (by omega) (by omega) (by omega)) ?_)
        rw [glueL_cur, et]
    have bad : Ev (fun k => spec_PartsOf.j1 k s acc (b : Int) (i : Int) true) ([], false) := by
      refine Ev.succ ?_
      simp only [spec_PartsOf.j1]
      exact Ev.pos (by first | rfl | trivial) (Ev.now _)
    by_cases h1 : x.toNat < 32
    · refine Ev.pos (by omega) (Ev_eq bad ?_)
      rw [if_neg]
      simp only [okL, List.all_cons]
      simp
      omega
    · refine Ev.neg (by omega) ?_
      by_cases h2 : x.toNat > 126
      · rw [show decide ((x.toNat : Int) > 126) = true by rw [decide_eq_true_eq]; omega]
        refine Ev_eq bad ?_
        rw [if_neg]
        simp only [okL, List.all_cons]
        simp
        omega
      · rw [show decide ((x.toNat : Int) > 126) = false by rw [decide_eq_false_iff_not]; omega]
        refine Ev_eq ok ?_
        have e : okL (x :: s.data.toList.drop (i + 1)) = okL (s.data.toList.drop (i + 1)) := by
          simp only [okL, List.all_cons]
          have : (decide (32 ≤ x.toNat) && decide (x.toNat ≤ 126)) = true := by simp; omega
          rw [this, Bool.true_and]
        rw [e]
theorem spec_PartsOf_ev (s : ByteArray) : Ev (fun k => spec_PartsOf.f k s) (partsR s) := by
  simp only [spec_PartsOf.f]
  refine Ev.bnd0 rfl ?_
  unfold partsR
  by_cases h : (s.size : Int) > 2000
  · rw [if_pos h]; exact Ev.pos h (Ev.now _)
  · rw [if_neg h]
    refine Ev.neg h (Ev_eq (spec_PartsOf_l0 s (by omega) s.size 0 0 [] (by omega) (by omega) (by simp)) ?_)
    rw [List.nil_append, List.drop_zero, Nat.sub_zero, List.take_zero, glueL_nil (pcs_ne _ _)]
theorem partsR_le (s : ByteArray) : (partsR s).1.length ≤ 40 := by
  unfold partsR capP
  split
  · simp
  · split
    · split
      · simp
      · simp only; omega
    · simp
theorem laws_eqStringS_refl (l : List ByteArray) (hl : l.length ≤ 140737488351232) : Ev (fun k => laws_eqStringS.f k l l) true := by
  simp only [laws_eqStringS.f]
  refine Ev.pos (by first | rfl | trivial) ?_
  have key : ∀ (n i : Nat), i + n = l.length → Ev (fun k => laws_eqStringS.l0 k l l (i : Int)) true := by
    intro n
    induction n with
    | zero =>
      intro i hi
      refine Ev.succ ?_
      simp only [laws_eqStringS.l0]
      exact Ev.neg (by omega) (Ev.now _)
    | succ n ih =>
      intro i hi
      refine Ev.succ ?_
      simp only [laws_eqStringS.l0]
      have e : wrap64 ((i : Int) + 1) = ((i + 1 : Nat) : Int) := by rw [w64 (by omega) (by omega)]; omega
      rw [e]
      exact Ev.pos (by omega) (Ev.pos (by omega) (Ev.pos (by omega) (Ev.pos (by first | rfl | trivial) (ih (i + 1) (by omega)))))
  exact key l.length 0 (by omega)
/-! the laws' marks as texts -/
def mtGo : Nat → Int → ByteArray → ByteArray
  | 0, _, s => (⟨#[109]⟩ : ByteArray) ++ s
  | f + 1, n, s => if n > 0 then mtGo f (n / 10) (strOfNums [48 + n % 10] ++ s) else (⟨#[109]⟩ : ByteArray) ++ s
def mt (n : Int) : ByteArray := if n ≤ 0 then (⟨#[109, 48]⟩ : ByteArray) else mtGo 13 n (⟨#[]⟩ : ByteArray)
def FitsT : Nat → Int → Prop
  | 0, n => n ≤ 0
  | f + 1, n => FitsT f (n / 10)
theorem fitsT {n : Int} (h : n ≤ 1000000000000) : FitsT 13 n := by
  simp only [FitsT]
  omega
theorem laws_markText_l0 : ∀ (f : Nat) (n : Int) (s : ByteArray), FitsT f n → n ≤ 1000000000000 → s.size + f < 1000 → Ev (fun k => laws_markText.l0 k n s) (mtGo f n s) := by
  intro f
  induction f with
  | zero =>
    intro n s hf hn hs
    simp only [FitsT] at hf
    refine Ev.succ ?_
    simp only [laws_markText.l0]
    exact Ev.neg (by omega) (Ev.pos (by omega) (Ev.some_ rfl))
  | succ f ih =>
    intro n s hf hn hs
    simp only [FitsT] at hf
    refine Ev.succ ?_
    simp only [laws_markText.l0]
    by_cases h : n > 0
    · rw [Int.tmod_eq_emod_of_nonneg (show 0 ≤ n by omega), Int.tdiv_eq_ediv_of_nonneg (show 0 ≤ n by omega)]
      rw [show wrap64 (48 + n % 10) = 48 + n % 10 from w64 (by omega) (by omega), show wrap64 (n / 10) = n / 10 from w64 (by omega) (by omega), show (48 + n % 10) % 256 = 48 + n % 10 from by omega]
      have hz : (strOfNums [48 + n % 10]).size = 1 := by rw [strOfNums_size]; rfl
      refine Ev.pos h (Ev.bnd0 rfl (Ev.pos (by omega) ?_))
      have := ih (n / 10) (strOfNums [48 + n % 10] ++ s) hf (by omega) (by rw [size_append]; omega)
      simp only [mtGo]
      rw [if_pos h]
      exact this
    · simp only [mtGo]
      rw [if_neg h]
      exact Ev.neg h (Ev.pos (by omega) (Ev.some_ rfl))
theorem laws_markText_ev (n : Int) (hn : n ≤ 1000000000000) : Ev (fun k => laws_markText.f k n) (mt n) := by
  simp only [laws_markText.f]
  unfold mt
  by_cases h : n ≤ 0
  · rw [if_pos h]
    exact Ev.pos h (Ev.now _)
  · rw [if_neg h]
    exact Ev.neg h (laws_markText_l0 13 n _ (fitsT hn) hn (by decide))
theorem laws_markStringS_ev (l : List ByteArray) (m : Int) (hl : l.length ≤ 100000000) (hm0 : 0 ≤ m) (hm : m ≤ 100000000) : Ev (fun k => laws_markStringS.f k l m) (m + l.length, markL mt m l.length) := by
  simp only [laws_markStringS.f]
  have key : ∀ (n i : Nat) (x : List ByteArray) (c : Int), i + n = l.length → x.length = l.length → c = m + i → (∀ j, j < i → x[j]? = (markL mt m l.length)[j]?) → Ev (fun k => laws_markStringS.l0 k x c (i : Int)) (m + l.length, markL mt m l.length) := by
    intro n
    induction n with
    | zero =>
      intro i x c hi hx hc hj
      refine Ev.succ ?_
      simp only [laws_markStringS.l0]
      refine Ev.neg (by omega) (Ev.some_ ?_)
      have : x = markL mt m l.length := by
        apply List.ext_getElem?
        intro j
        by_cases h : j < i
        · exact hj j h
        · rw [List.getElem?_eq_none (by omega), List.getElem?_eq_none (by rw [markL_length]; omega)]
      rw [this, hc, show i = l.length by omega]
    | succ n ih =>
      intro i x c hi hx hc hj
      refine Ev.succ ?_
      simp only [laws_markStringS.l0]
      refine Ev.pos (by omega) (Ev.bnd (laws_markText_ev _ (by omega)) (Ev.pos (by omega) ?_))
      have e : wrap64 ((i : Int) + 1) = ((i + 1 : Nat) : Int) := by rw [w64 (by omega) (by omega)]; omega
      have e1 : wrap64 (c + 1) = c + 1 := w64 (by omega) (by omega)
      have e2 : ((i : Int)).toNat = i := by omega
      rw [e, e1, e2]
      refine ih (i + 1) _ _ (by omega) (by rw [List.length_set]; exact hx) (by omega) ?_
      intro j hj'
      by_cases h : j = i
      · subst h
        rw [List.getElem?_set_self (by omega), markL_get _ _ _ _ (by omega), hc]
      · rw [List.getElem?_set_ne (by omega)]
        exact hj j (by omega)
  exact key l.length 0 l m (by omega) rfl (by omega) (fun j h => absurd h (by omega))
theorem laws_heldStringS_ev (m : Int) (n0 : Nat) (hl : n0 ≤ 100000000) (hm0 : 0 ≤ m) (hm : m ≤ 100000000) : Ev (fun k => laws_heldStringS.f k (markL mt m n0) m) (m + n0) := by
  simp only [laws_heldStringS.f]
  have key : ∀ (n i : Nat) (c : Int), i + n = n0 → c = m + i → Ev (fun k => laws_heldStringS.l0 k (markL mt m n0) c (i : Int)) (m + n0) := by
    intro n
    induction n with
    | zero =>
      intro i c hi hc
      refine Ev.succ ?_
      simp only [laws_heldStringS.l0]
      exact Ev.neg (by rw [markL_length]; omega) (Ev.some_ (by omega))
    | succ n ih =>
      intro i c hi hc
      refine Ev.succ ?_
      simp only [laws_heldStringS.l0]
      have e : wrap64 ((i : Int) + 1) = ((i + 1 : Nat) : Int) := by rw [w64 (by omega) (by omega)]; omega
      have e1 : wrap64 (c + 1) = c + 1 := w64 (by omega) (by omega)
      rw [e, e1]
      refine Ev.pos (by rw [markL_length]; omega) (Ev.pos (by omega) (Ev.bnd (laws_markText_ev _ (by omega)) (Ev.pos ?_ (ih (i + 1) _ (by omega) (by omega)))))
      have hlt : i < (markL mt m n0).length := by rw [markL_length]; omega
      have := markL_get mt m n0 i (by omega)
      rw [List.getElem?_eq_getElem hlt] at this
      rw [rdOf_nat _ _ _ hlt, Option.some.inj this, hc]
  exact key n0 0 m (by omega) (by omega)
theorem FnExactPartsOf : laws_FnExactPartsOf.Pure := by
  intro s hs
  refine Ev.rounds (r := true) ?_
  simp only [laws_FnExactPartsOf.f]
  by_cases hb : (s.size : Int) > 1048576
  · exact Ev.pos hb (Ev.now _)
  have hp := partsR_le s
  refine Ev.neg hb (Ev.bnd (spec_PartsOf_ev s) (Ev.bnd (impl_PartsOf_ev s) (Ev.bnd (laws_eqStringS_refl _ (by omega)) (Ev.pos rfl ?_))))
  refine Ev.succ ?_
  simp only [laws_FnExactPartsOf.j0]
  refine Ev.neg (by simp) (Ev.bnd (laws_markStringS_ev _ 1 (by omega) (by omega) (by omega)) (Ev.bnd (laws_heldStringS_ev 1 _ (by omega) (by omega) (by omega)) (Ev.neg (by omega) (Ev.pos (by first | rfl | trivial) (Ev.bnd (impl_PartsOf_ev s) (Ev.bnd (laws_eqStringS_refl _ (by omega)) (Ev.pos rfl ?_)))))))
  refine Ev.succ ?_
  simp only [laws_FnExactPartsOf.j1]
  exact Ev.neg (by simp) (Ev.bnd (laws_heldStringS_ev 1 _ (by omega) (by omega) (by omega)) (Ev.neg (by omega) (Ev.pos (by first | rfl | trivial) (Ev.now _))))

end Go.Proofs.YtfaebcoembcfoaaDoor.Pure
