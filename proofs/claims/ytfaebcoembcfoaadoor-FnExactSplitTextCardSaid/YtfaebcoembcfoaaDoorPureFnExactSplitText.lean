/- The program's SplitText returns what the reference's returns, for every text; the answer shares nothing with what is told later. -/
import Derived.Test.YtfaebcoembcfoaaDoorPFnExactSplitTextx3
import Derived.Test.YtfaebcoembcfoaaDoorGen
namespace Go.Proofs.YtfaebcoembcfoaaDoor.Pure
open Go.RowKit Go.Proofs.YtfaebcoembcfoaaDoor.PFnExactSplitText Go.Proofs.YtfaebcoembcfoaaDoorW.PrintWords Go.Proofs.YtfaebcoembcfoaaDoorW.PrintLast Go.Proofs.YtfaebcoembcfoaaDoorG

def glueL (a : List UInt8) : List (List UInt8) → List (List UInt8)
  | [] => [a]
  | p :: ps => (a ++ p) :: ps
def pcs (c : UInt8) : List UInt8 → List (List UInt8)
  | [] => [[]]
  | x :: l => if x = c then [] :: pcs c l else glueL [x] (pcs c l)
theorem pcs_ne (c : UInt8) (l : List UInt8) : pcs c l ≠ [] := by
  cases l with
  | nil => simp [pcs]
  | cons x l =>
    unfold pcs
    split
    · simp
    · cases pcs c l <;> simp [glueL]
theorem glueL_glueL (a b : List UInt8) (L : List (List UInt8)) : glueL a (glueL b L) = glueL (a ++ b) L := by
  cases L <;> simp [glueL]
theorem glueL_nil {L : List (List UInt8)} (h : L ≠ []) : glueL [] L = L := by
  cases L with
  | nil => exact absurd rfl h
  | cons p ps => rfl
theorem pcs_free (c : UInt8) (l : List UInt8) : ∀ a : List UInt8, c ∉ a → pcs c (a ++ l) = glueL a (pcs c l)
  | [], _ => (glueL_nil (pcs_ne c l)).symm
  | x :: a, h => by
    have hx : ¬ x = c := fun e => h (by simp [e])
    rw [List.cons_append, pcs, if_neg hx, pcs_free c l a (fun e => h (by simp [e])), glueL_glueL]
    rfl
theorem pcs_hit (c : UInt8) (a l : List UInt8) (h : c ∉ a) : pcs c (a ++ c :: l) = a :: pcs c l := by
  rw [pcs_free c _ a h, pcs, if_pos rfl]
  simp [glueL]
theorem pcs_miss (c : UInt8) (a : List UInt8) (h : c ∉ a) : pcs c a = [a] := by
  have := pcs_free c [] a h
  rw [List.append_nil] at this
  rw [this]
  simp [pcs, glueL]
theorem index_one_miss (c : UInt8) : ∀ a : List UInt8, c ∉ a → Lib.index a [c] = -1
  | [], _ => rfl
  | x :: a, h => by
    have hx : (c == x) = false := by
      rw [beq_eq_false_iff_ne]
      exact fun e => h (by simp [e])
    have ih := index_one_miss c a (fun e => h (by simp [e]))
    unfold Lib.index
    simp [List.isPrefixOf, hx, ih]
theorem index_one_hit (c : UInt8) (l : List UInt8) : ∀ a : List UInt8, c ∉ a → Lib.index (a ++ c :: l) [c] = a.length
  | [], _ => by
    unfold Lib.index
    simp [List.isPrefixOf]
  | x :: a, h => by
    have hx : (c == x) = false := by
      rw [beq_eq_false_iff_ne]
      exact fun e => h (by simp [e])
    have ih := index_one_hit c l a (fun e => h (by simp [e]))
    rw [List.cons_append]
    unfold Lib.index
    rw [ih]
    simp only [List.isPrefixOf, hx, Bool.false_and, List.length_cons]
    rw [if_neg (by simp)]
    have e : ((a.length : Int) == -1) = false := by rw [beq_eq_false_iff_ne]; omega
    simp [e]
theorem split_pcs (c : UInt8) : ∀ (n : Nat) (s : List UInt8), s.length ≤ n → Lib.splitK [c] 0 (Lib.count s [c]) s = pcs c s := by
  intro n
  induction n with
  | zero =>
    intro s h
    obtain rfl : s = [] := List.length_eq_zero_iff.1 (by omega)
    rw [Lib.count_miss (index_one_miss c [] (by simp))]
    rfl
  | succ n ih =>
    intro s h
    by_cases hc : c ∈ s
    · obtain ⟨a, b, rfl, ha⟩ := List.eq_append_cons_of_mem hc
      have hi := index_one_hit c b a ha
      have e1 : (a ++ c :: b).drop (a.length + [c].length) = b := by
        rw [List.drop_append]
        simp
      rw [Lib.count_hit (by simp) hi, e1, Nat.add_comm, Lib.splitK, hi, if_neg (by simp), Int.toNat_natCast, e1, pcs_hit c a b ha, ih b (by simp at h; omega)]
      simp
    · rw [Lib.count_miss (index_one_miss c s hc), pcs_miss c s hc]
      rfl
def strU (l : List UInt8) : ByteArray := ⟨l.toArray⟩
theorem strU_data (l : List UInt8) : (strU l).data.toList = l := by simp [strU]
theorem strU_map (L : List ByteArray) : (L.map (·.data.toList)).map strU = L := by
  rw [List.map_map]
  conv => rhs; rw [← List.map_id L]
  apply List.map_congr_left
  intro s _
  exact data_inj (strU_data _)
theorem strU_size (l : List UInt8) : (strU l).size = l.length := by
  rw [← data_length, strU_data]
def piecesB (c : UInt8) (s : ByteArray) : List ByteArray := (pcs c s.data.toList).map strU
theorem splitB_pieces (c : UInt8) (s : ByteArray) : Lib.splitB ⟨#[c]⟩ 0 (Lib.countB s ⟨#[c]⟩) s = piecesB c s := by
  have e := Lib.splitB_data ⟨#[c]⟩ 0 (Lib.countB s ⟨#[c]⟩) s
  rw [← strU_map (Lib.splitB _ _ _ _), e]
  unfold piecesB
  exact congrArg (List.map strU) (split_pcs c _ _ (Nat.le_refl _))
theorem strings_Split_eq (c : UInt8) (s : ByteArray) (h : s.size < 4294967281) : strings_Split.f s ⟨#[c]⟩ = some (piecesB c s) := by
  unfold strings_Split.f
  rw [if_pos ⟨h, rfl⟩, splitB_pieces]
theorem pcs_length (c : UInt8) : ∀ l : List UInt8, (pcs c l).length ≤ l.length + 1
  | [] => by simp [pcs]
  | x :: l => by
    have ih := pcs_length c l
    unfold pcs
    split
    · simp only [List.length_cons]; omega
    · generalize pcs c l = L at ih ⊢
      cases L with
      | nil => simp [glueL]
      | cons p ps => simp only [glueL, List.length_cons] at ih ⊢; omega
theorem bt_data (s : ByteArray) (i : Nat) (h : i < s.data.toList.length) : bt s (i : Int) = ((s.data.toList[i]).toNat : Int) := by
  rw [← rd_bytesOf, rd_nat _ _ (by rw [bytesOf_length, ← data_length]; exact h)]
  simp [bytesOf]
theorem extract_strU (s : ByteArray) (i j : Nat) : s.extract i j = strU ((s.data.toList.drop i).take (j - i)) := by
  apply data_inj
  rw [strU_data, ByteArray.data_extract, Array.toList_extract, List.extract_eq_take_drop]
theorem spec_LineOk_ev (s : ByteArray) (hs : s.size ≤ 140737488351232) : Ev (fun k => spec_LineOk.f k s) (lineOk s) := by
  simp only [spec_LineOk.f]
  have key : ∀ (n i : Nat), i + n = s.size → Ev (fun k => spec_LineOk.l0 k s (i : Int)) (decide ((10 : Int) ∉ (bytesOf s).drop i ∧ s.size ≤ 60)) := by
    intro n
    induction n with
    | zero =>
      intro i hi
      refine Ev.succ ?_
      simp only [spec_LineOk.l0]
      refine Ev.neg (by omega) (Ev.some_ ?_)
      rw [drop_end _ _ (by rw [bytesOf_length]; omega)]
      simp
      omega
    | succ n ih =>
      intro i hi
      refine Ev.succ ?_
      simp only [spec_LineOk.l0]
      refine Ev.pos (by omega) (Ev.pos (by omega) ?_)
      rw [up1 i (by omega), drop_bt s i (by omega)]
      by_cases h : bt s (i : Int) = 10
      · exact Ev.pos h (Ev.some_ (by simp [h]))
      · refine Ev.neg h (Ev_eq (ih (i + 1) (by omega)) ?_)
        have : ((10 : Int) ∉ bt s (i : Int) :: (bytesOf s).drop (i + 1)) ↔ ((10 : Int) ∉ (bytesOf s).drop (i + 1)) := by
          rw [List.mem_cons]
          constructor
          · intro h1 h2; exact h1 (.inr h2)
          · intro h1 h2
            rcases h2 with h2 | h2
            · exact h h2.symm
            · exact h1 h2
        simp only [this]
  exact key s.size 0 (by omega)
theorem spec_l03All_ev (l : List ByteArray) (m : Int) (hl : Sized l) : Ev (fun k => spec_l03All.f k l m) (linesOk m l) := by
  simp only [spec_l03All.f]
  by_cases h : (l.length : Int) > m
  · refine Ev.pos h (Ev.some_ ?_)
    simp only [linesOk]
    rw [show decide ((l.length : Int) ≤ m) = false from by simp; omega]
    rfl
  refine Ev.neg h ?_
  have key : ∀ (n i : Nat), i + n = l.length → Ev (fun k => spec_l03All.l0 k l (i : Int)) (allOk (l.drop i)) := by
    intro n
    induction n with
    | zero =>
      intro i hi
      refine Ev.succ ?_
      simp only [spec_l03All.l0]
      refine Ev.neg (by omega) (Ev.some_ ?_)
      rw [drop_end l i (by omega)]
      rfl
    | succ n ih =>
      intro i hi
      refine Ev.succ ?_
      simp only [spec_l03All.l0]
      have hlt := hl.1
      refine Ev.pos (by omega) (Ev.pos (by omega) (Ev.bnd (spec_LineOk_ev _ (hl.2 _ (rdOf_mem _ l i (by omega)))) ?_))
      rw [up1 i (by omega), drop_rdOf ByteArray.empty l i (by omega)]
      by_cases hx : lineOk (rdOf ByteArray.empty l (i : Int)) = true
      · refine Ev.pos hx (Ev_eq (ih (i + 1) (by omega)) ?_)
        simp only [allOk, List.all_cons, hx, Bool.true_and]
      · refine Ev.neg hx (Ev.some_ ?_)
        simp only [allOk, List.all_cons, Bool.not_eq_true _ ▸ hx]
        simp
  refine Ev_eq (key l.length 0 (by omega)) ?_
  simp only [linesOk, List.drop_zero]
  rw [show decide ((l.length : Int) ≤ m) = true from by simp; omega]
  rfl
theorem impl_LineOk_eq (s : ByteArray) : impl_LineOk.f s = some (lineOk s) := by
  simp only [impl_LineOk.f]
  by_cases h : (s.size : Int) ≤ 60
  · rw [if_pos h]
    simp only [strings_Contains.f]
    rw [if_pos (by rfl)]
    simp only [Option.bind_some]
    congr 1
    have h1 := indexByte_mem 10 s.data.toList
    have h2 := byte_mem s 10
    simp only [lineOk]
    rw [← decide_not]
    congr 1
    rw [show (⟨#[10]⟩ : ByteArray).data.toList.headD 0 = (10 : UInt8) from rfl, h1, h2]
    simp only [eq_iff_iff]
    constructor
    · intro h3; exact ⟨h3, by omega⟩
    · intro h3; exact h3.1
  · rw [if_neg h]
    congr 1
    simp only [lineOk]
    symm
    rw [decide_eq_false_iff_not]
    omega
theorem impl_areLines_ev (l : List ByteArray) (hl : l.length ≤ 140737488351232) : Ev (fun k => impl_areLines.f k l) (allOk l) := by
  simp only [impl_areLines.f]
  have key : ∀ (n i : Nat), i + n = l.length → Ev (fun k => impl_areLines.l0 k l (l.length : Int) (i : Int)) (allOk (l.drop i)) := by
    intro n
    induction n with
    | zero =>
      intro i hi
      refine Ev.succ ?_
      simp only [impl_areLines.l0]
      refine Ev.neg (by omega) (Ev.some_ ?_)
      rw [drop_end l i (by omega)]
      rfl
    | succ n ih =>
      intro i hi
      refine Ev.succ ?_
      simp only [impl_areLines.l0]
      refine Ev.pos (by omega) (Ev.pos (by omega) (Ev.pos (by omega) (Ev.bnd0 (impl_LineOk_eq _) ?_)))
      rw [up1 i (by omega), drop_rdOf ByteArray.empty l i (by omega)]
      by_cases hx : lineOk (rdOf ByteArray.empty l (i : Int)) = true
      · refine Ev.pos hx (Ev_eq (ih (i + 1) (by omega)) ?_)
        simp only [allOk, List.all_cons, hx, Bool.true_and]
      · refine Ev.neg hx (Ev.some_ ?_)
        simp only [allOk, List.all_cons]
        simp [Bool.eq_false_iff.2 hx]
  exact key l.length 0 (by omega)
theorem spec_LinesOk_ev (l : List ByteArray) (hl : Sized l) : Ev (fun k => spec_LinesOk.f k l) (linesOk 80 l) := by
  simp only [spec_LinesOk.f]
  exact Ev.bnd (spec_l03All_ev l 80 hl) (Ev.now _)
theorem impl_LinesOk_ev (l : List ByteArray) (hl : Sized l) : Ev (fun k => impl_LinesOk.f k l) (linesOk 80 l) := by
  simp only [impl_LinesOk.f]
  by_cases h : (l.length : Int) ≤ 80
  · exact Ev.pos h (Ev.bnd (impl_areLines_ev l hl.1) (Ev.some_ (by simp [linesOk, h])))
  · exact Ev.neg h (Ev.some_ (by simp [linesOk, h]))
theorem linesOk_small {m : Int} {l : List ByteArray} (h : linesOk m l = true) : (l.length : Int) ≤ m ∧ ∀ s ∈ l, s.size ≤ 60 := by
  simp only [linesOk, Bool.and_eq_true, decide_eq_true_eq] at h
  refine ⟨h.1, fun s hs => ?_⟩
  have := h.2
  simp only [allOk, List.all_eq_true] at this
  have h2 := this s hs
  simp only [lineOk, decide_eq_true_eq] at h2
  exact h2.2
def finQ (out : List ByteArray) (Q : List (List UInt8)) : List ByteArray × Bool := if Q.getLast? = some [] ∧ linesOk 80 (out ++ Q.dropLast.map strU) = true then (out ++ Q.dropLast.map strU, true) else ([], false)
theorem finQ_pos {out : List ByteArray} {Q : List (List UInt8)} (h : Q.getLast? = some [] ∧ linesOk 80 (out ++ Q.dropLast.map strU) = true) : finQ out Q = (out ++ Q.dropLast.map strU, true) := if_pos h
theorem finQ_neg {out : List ByteArray} {Q : List (List UInt8)} (h : ¬ (Q.getLast? = some [] ∧ linesOk 80 (out ++ Q.dropLast.map strU) = true)) : finQ out Q = ([], false) := if_neg h
def splitR (s : ByteArray) : List ByteArray × Bool := finQ [] (pcs 10 s.data.toList)
theorem pcs_tot (c : UInt8) : ∀ l : List UInt8, ((pcs c l).map fun p => p.length + 1).sum = l.length + 1
  | [] => by simp [pcs]
  | x :: l => by
    have ih := pcs_tot c l
    unfold pcs
    split
    · simp only [List.map_cons, List.sum_cons, List.length_cons, List.length_nil, ih]; omega
    · have hne := pcs_ne c l
      generalize pcs c l = L at ih hne ⊢
      cases L with
      | nil => exact absurd rfl hne
      | cons p ps => simp only [glueL, List.map_cons, List.sum_cons, List.length_append, List.length_cons, List.length_nil] at ih ⊢; omega
theorem sum_mem_le {l : List Nat} {x : Nat} (h : x ∈ l) : x ≤ l.sum := by
  induction l with
  | nil => simp at h
  | cons y l ih =>
    simp only [List.sum_cons]
    rcases List.mem_cons.1 h with rfl | h
    · omega
    · have := ih h; omega
theorem pcs_mem (c : UInt8) (l p : List UInt8) (h : p ∈ pcs c l) : p.length ≤ l.length := by
  have h1 := sum_mem_le (List.mem_map.2 ⟨p, h, rfl⟩ : p.length + 1 ∈ (pcs c l).map fun p => p.length + 1)
  rw [pcs_tot] at h1
  omega
theorem sum_le_of {l : List Nat} {m : Nat} (h : ∀ x ∈ l, x ≤ m) : l.sum ≤ m * l.length := by
  induction l with
  | nil => simp
  | cons y l ih =>
    have h1 := h y (by simp)
    have h2 := ih (fun x hx => h x (by simp [hx]))
    simp only [List.sum_cons, List.length_cons, Nat.mul_succ]
    omega
theorem pcs_small (c : UInt8) (l : List UInt8) (h1 : (pcs c l).getLast? = some []) (h2 : linesOk 80 ((pcs c l).dropLast.map strU) = true) : l.length ≤ 4880 := by
  have ht := pcs_tot c l
  obtain ⟨k1, k2⟩ := linesOk_small h2
  have hd : pcs c l = (pcs c l).dropLast ++ [[]] := by
    have hne := pcs_ne c l
    have e := List.dropLast_concat_getLast hne
    rw [List.getLast?_eq_some_getLast hne] at h1
    rw [Option.some.inj h1] at e
    exact e.symm
  rw [hd, List.map_append, List.sum_append] at ht
  have hs : ((pcs c l).dropLast.map fun p => p.length + 1).sum ≤ 61 * ((pcs c l).dropLast.map fun p => p.length + 1).length := by
    apply sum_le_of
    intro x hx
    obtain ⟨p, hp, rfl⟩ := List.mem_map.1 hx
    have := k2 (strU p) (List.mem_map.2 ⟨p, hp, rfl⟩)
    rw [strU_size] at this
    omega
  rw [List.length_map] at hs k1
  simp only [List.map_cons, List.map_nil, List.sum_cons, List.sum_nil, List.length_nil] at ht
  omega
theorem impl_SplitText_ev (s : ByteArray) (hs : s.size ≤ 1048577) : Ev (fun k => impl_SplitText.f k s) (splitR s) := by
  simp only [impl_SplitText.f]
  unfold splitR
  have hz := data_length s
  by_cases h : (s.size : Int) > 4880
  · refine Ev.pos h (Ev.some_ (finQ_neg ?_).symm)
    rintro ⟨h1, h2⟩
    rw [List.nil_append] at h2
    have := pcs_small 10 _ h1 h2
    omega
  refine Ev.neg h (Ev.bnd0 (strings_Split_eq 10 s (by omega)) ?_)
  have hne := pcs_ne 10 s.data.toList
  have hlen := pcs_length 10 s.data.toList
  have hmem : ∀ p ∈ pcs 10 s.data.toList, p.length ≤ s.size := fun p hp => by have := pcs_mem 10 _ p hp; omega
  have hpos : 0 < (pcs 10 s.data.toList).length := List.length_pos_iff.2 hne
  unfold piecesB
  generalize pcs 10 s.data.toList = Q at *
  have hl : ((Q.map strU).length : Int) - 1 = ((Q.length - 1 : Nat) : Int) := by rw [List.length_map]; omega
  refine Ev.neg (by rw [List.length_map]; omega) ?_
  rw [hl, rdOf_nat _ _ _ (by rw [List.length_map]; omega), List.getElem_map, toList_data, strU_data, show (Q.map strU).length - 1 = Q.length - 1 by rw [List.length_map]]
  have hg : Q.getLast? = some Q[Q.length - 1] := by
    rw [List.getLast?_eq_getElem?, List.getElem?_eq_getElem (by omega)]
  have ht : (Q.map strU).take (Q.length - 1) = Q.dropLast.map strU := by rw [← List.map_take, List.dropLast_eq_take]
  have hn : ([] : List ByteArray) ++ Q.dropLast.map strU = Q.dropLast.map strU := List.nil_append _
  rw [ht]
  by_cases c : Q[Q.length - 1] = []
  · refine Ev.pos c (Ev.bnd (impl_LinesOk_ev _ ⟨by rw [List.length_map, List.length_dropLast]; omega, fun x hx => ?_⟩) ?_)
    · obtain ⟨p, hp, rfl⟩ := List.mem_map.1 hx
      have := hmem p (List.dropLast_subset _ hp)
      rw [strU_size]
      omega
    · by_cases b : linesOk 80 (Q.dropLast.map strU) = true
      · exact Ev_eq (Ev.pos b (Ev.now _)) (finQ_pos ⟨by rw [hg, c], by rw [hn]; exact b⟩).symm
      · exact Ev_eq (Ev.neg b (Ev.now _)) (finQ_neg (fun e => b (by have := e.2; rw [hn] at this; exact this))).symm
  · exact Ev_eq (Ev.neg c (Ev.now _)) (finQ_neg (fun e => c (by have := e.1; rw [hg] at this; exact Option.some.inj this))).symm
theorem spec_SplitText_l0 (s : ByteArray) (hs : s.size ≤ 1048577) : ∀ (n i b : Nat) (acc : List ByteArray), i + n = s.size → b ≤ i → acc.length ≤ i → (∀ x ∈ acc, x.size ≤ s.size) →
    Ev (fun k => spec_SplitText.l0 k s acc (b : Int) (i : Int)) (finQ acc (glueL ((s.data.toList.drop b).take (i - b)) (pcs 10 (s.data.toList.drop i)))) := by
  intro n
  have hz := data_length s
  induction n with
  | zero =>
    intro i b acc hi hb ha hx
    refine Ev.succ ?_
    simp only [spec_SplitText.l0]
    rw [drop_end _ i (by omega)]
    refine Ev.neg (by omega) ?_
    have hc : ((s.data.toList.drop b).take (i - b)).length = i - b := by rw [List.length_take, List.length_drop]; omega
    have hq : glueL ((s.data.toList.drop b).take (i - b)) (pcs 10 []) = [(s.data.toList.drop b).take (i - b)] := by simp [pcs, glueL]
    rw [hq]
    by_cases h : (b : Int) < (s.size : Int)
    · refine Ev.pos h (Ev.some_ (finQ_neg ?_).symm)
      rintro ⟨h1, _⟩
      have h1 := Option.some.inj (by simpa using h1 : some ((s.data.toList.drop b).take (i - b)) = some [])
      rw [h1] at hc
      simp at hc
      omega
    · refine Ev.neg h (Ev.bnd (spec_LinesOk_ev acc ⟨by omega, fun x h => by have := hx x h; omega⟩) ?_)
      have he : (s.data.toList.drop b).take (i - b) = [] := List.length_eq_zero_iff.1 (by rw [hc]; omega)
      have hn : acc ++ ([(s.data.toList.drop b).take (i - b)] : List (List UInt8)).dropLast.map strU = acc := by simp
      by_cases c : linesOk 80 acc = true
      · refine Ev_eq (Ev.pos c (Ev.now _)) ?_
        rw [finQ_pos ⟨by rw [he]; rfl, by rw [hn]; exact c⟩, hn]
      · refine Ev_eq (Ev.neg c (Ev.now _)) (finQ_neg (fun e => c ?_)).symm
        have := e.2
        rw [hn] at this
        exact this
  | succ n ih =>
    intro i b acc hi hb ha hx
    have hlt : i < s.data.toList.length := by omega
    refine Ev.succ ?_
    simp only [spec_SplitText.l0]
    rw [bt_data s i hlt, up1 i (by omega), List.drop_eq_getElem_cons hlt]
    have et : (s.data.toList.drop b).take (i + 1 - b) = (s.data.toList.drop b).take (i - b) ++ [s.data.toList[i]] := by
      rw [show i + 1 - b = (i - b) + 1 by omega, List.take_succ_eq_append_getElem (by rw [List.length_drop]; omega), List.getElem_drop]
      congr 2
      simp only [show b + (i - b) = i by omega]
    refine Ev.pos (by omega) (Ev.pos (by omega) ?_)
    have ih := ih (i + 1)
    generalize hx : s.data.toList[i] = x at *
    rw [pcs]
    by_cases h : x = 10
    · rw [if_pos h]
      refine Ev.pos (by subst h; rfl) (Ev.pos (by omega) (Ev.pos (by omega) (Ev.pos (by omega) (Ev.pos (by omega) ?_))))
      refine Ev_eq (ih (i + 1) _ (by omega) (by omega) (by rw [List.length_append]; simp; omega) (fun y hy => ?_)) ?_
      · rcases List.mem_append.1 hy with hy | hy
        · exact ‹∀ x ∈ acc, x.size ≤ s.size› y hy
        · rw [List.mem_singleton.1 hy, extract_strU, strU_size, List.length_take, List.length_drop]
          omega
      · rw [Nat.sub_self, List.take_zero, glueL_nil (pcs_ne _ _), extract_strU, Int.toNat_natCast, Int.toNat_natCast]
        have hne := pcs_ne 10 (s.data.toList.drop (i + 1))
        generalize pcs 10 (s.data.toList.drop (i + 1)) = Q at hne ⊢
        obtain ⟨q, Q, rfl⟩ := List.exists_cons_of_ne_nil hne
        unfold finQ
        simp [glueL]
    · rw [if_neg h]
      refine Ev.neg (fun e => h (UInt8.toNat_inj.1 (by simpa using (show x.toNat = 10 by omega)))) (Ev_eq (ih b acc (by omega) (by omega) (by omega) ‹∀ x ∈ acc, x.size ≤ s.size›) ?_)
      rw [glueL_glueL, et]
theorem spec_SplitText_ev (s : ByteArray) (hs : s.size ≤ 1048577) : Ev (fun k => spec_SplitText.f k s) (splitR s) := by
  simp only [spec_SplitText.f]
  refine Ev_eq (spec_SplitText_l0 s hs s.size 0 0 [] (by omega) (by omega) (by simp) (by simp)) ?_
  rw [List.drop_zero, Nat.sub_zero, List.take_zero, glueL_nil (pcs_ne _ _)]
  rfl
theorem splitR_le (s : ByteArray) : (splitR s).1.length ≤ 80 := by
  unfold splitR finQ
  split
  · rename_i h
    have := (linesOk_small h.2).1
    simp only
    omega
  · simp
theorem laws_eqStringS_refl (l : List ByteArray) (hl : l.length ≤ 140737488351232) : Ev (fun k => laws_eqStringS.f k l l) true := by
  simp only [laws_eqStringS.f]
  refine Ev.pos (by first | rfl | trivial) ?_
  have key : ∀ (n i : Nat), i + n = l.length → Ev (fun k => laws_eqStringS.l0 k l l (i : Int)) true := by
    intro n
    induction n with
    | zero =>
      intro i hi
      refine Ev.succ ?_
      simp only [laws_eqStringS.l0]
      exact Ev.neg (by omega) (Ev.now _)
    | succ n ih =>
      intro i hi
      refine Ev.succ ?_
      simp only [laws_eqStringS.l0]
      have e : wrap64 ((i : Int) + 1) = ((i + 1 : Nat) : Int) := by rw [w64 (by omega) (by omega)]; omega
      rw [e]
      exact Ev.pos (by omega) (Ev.pos (by omega) (Ev.pos (by omega) (Ev.pos (by first | rfl | trivial) (ih (i + 1) (by omega)))))
  exact key l.length 0 (by omega)
/-! the laws' marks as texts -/
def mtGo : Nat → Int → ByteArray → ByteArray
  | 0, _, s => (⟨#[109]⟩ : ByteArray) ++ s
  | f + 1, n, s => if n > 0 then mtGo f (n / 10) (strOfNums [48 + n % 10] ++ s) else (⟨#[109]⟩ : ByteArray) ++ s
def mt (n : Int) : ByteArray := if n ≤ 0 then (⟨#[109, 48]⟩ : ByteArray) else mtGo 13 n (⟨#[]⟩ : ByteArray)
def FitsT : Nat → Int → Prop
  | 0, n => n ≤ 0
  | f + 1, n => FitsT f (n / 10)
theorem fitsT {n : Int} (h : n ≤ 1000000000000) : FitsT 13 n := by
  simp only [FitsT]
  omega
theorem laws_markText_l0 : ∀ (f : Nat) (n : Int) (s : ByteArray), FitsT f n → n ≤ 1000000000000 → s.size + f < 1000 → Ev (fun k => laws_markText.l0 k n s) (mtGo f n s) := by
  intro f
  induction f with
  | zero =>
    intro n s hf hn hs
    simp only [FitsT] at hf
    refine Ev.succ ?_
    simp only [laws_markText.l0]
    exact Ev.neg (by omega) (Ev.pos (by omega) (Ev.some_ rfl))
  | succ f ih =>
    intro n s hf hn hs
    simp only [FitsT] at hf
    refine Ev.succ ?_
    simp only [laws_markText.l0]
    by_cases h : n > 0
    · rw [Int.tmod_eq_emod_of_nonneg (show 0 ≤ n by omega), Int.tdiv_eq_ediv_of_nonneg (show 0 ≤ n by omega)]
      rw [show wrap64 (48 + n % 10) = 48 + n % 10 from w64 (by omega) (by omega), show wrap64 (n / 10) = n / 10 from w64 (by omega) (by omega), show (48 + n % 10) % 256 = 48 + n % 10 from by omega]
      have hz : (strOfNums [48 + n % 10]).size = 1 := by rw [strOfNums_size]; rfl
      refine Ev.pos h (Ev.bnd0 rfl (Ev.pos (by omega) ?_))
      have := ih (n / 10) (strOfNums [48 + n % 10] ++ s) hf (by omega) (by rw [size_append]; omega)
      simp only [mtGo]
      rw [if_pos h]
      exact this
    · simp only [mtGo]
      rw [if_neg h]
      exact Ev.neg h (Ev.pos (by omega) (Ev.some_ rfl))
theorem laws_markText_ev (n : Int) (hn : n ≤ 1000000000000) : Ev (fun k => laws_markText.f k n) (mt n) := by
  simp only [laws_markText.f]
  unfold mt
  by_cases h : n ≤ 0
  · rw [if_pos h]
    exact Ev.pos h (Ev.now _)
  · rw [if_neg h]
    exact Ev.neg h (laws_markText_l0 13 n _ (fitsT hn) hn (by decide))
theorem laws_markStringS_ev (l : List ByteArray) (m : Int) (hl : l.length ≤ 100000000) (hm0 : 0 ≤ m) (hm : m ≤ 100000000) : Ev (fun k => laws_markStringS.f k l m) (m + l.length, markL mt m l.length) := by
  simp only [laws_markStringS.f]
  have key : ∀ (n i : Nat) (x : List ByteArray) (c : Int), i + n = l.length → x.length = l.length → c = m + i → (∀ j, j < i → x[j]? = (markL mt m l.length)[j]?) → Ev (fun k => laws_markStringS.l0 k x c (i : Int)) (m + l.length, markL mt m l.length) := by
    intro n
    induction n with
    | zero =>
      intro i x c hi hx hc hj
      refine Ev.succ ?_
      simp only [laws_markStringS.l0]
      refine Ev.neg (by omega) (Ev.some_ ?_)
      have : x = markL mt m l.length := by
        apply List.ext_getElem?
        intro j
        by_cases h : j < i
        · exact hj j h
        · rw [List.getElem?_eq_none (by omega), List.getElem?_eq_none (by rw [markL_length]; omega)]
      rw [this, hc, show i = l.length by omega]
    | succ n ih =>
      intro i x c hi hx hc hj
      refine Ev.succ ?_
      simp only [laws_markStringS.l0]
      refine Ev.pos (by omega) (Ev.bnd (laws_markText_ev _ (by omega)) (Ev.pos (by omega) ?_))
      have e : wrap64 ((i : Int) + 1) = ((i + 1 : Nat) : Int) := by rw [w64 (by omega) (by omega)]; omega
      have e1 : wrap64 (c + 1) = c + 1 := w64 (by omega) (by omega)
      have e2 : ((i : Int)).toNat = i := by omega
      rw [e, e1, e2]
      refine ih (i + 1) _ _ (by omega) (by rw [List.length_set]; exact hx) (by omega) ?_
      intro j hj'
      by_cases h : j = i
      · subst h
        rw [List.getElem?_set_self (by omega), markL_get _ _ _ _ (by omega), hc]
      · rw [List.getElem?_set_ne (by omega)]
        exact hj j (by omega)
  exact key l.length 0 l m (by omega) rfl (by omega) (fun j h => absurd h (by omega))
theorem laws_heldStringS_ev (m : Int) (n0 : Nat) (hl : n0 ≤ 100000000) (hm0 : 0 ≤ m) (hm : m ≤ 100000000) : Ev (fun k => laws_heldStringS.f k (markL mt m n0) m) (m + n0) := by
  simp only [laws_heldStringS.f]
  have key : ∀ (n i : Nat) (c : Int), i + n = n0 → c = m + i → Ev (fun k => laws_heldStringS.l0 k (markL mt m n0) c (i : Int)) (m + n0) := by
    intro n
    induction n with
    | zero =>
      intro i c hi hc
      refine Ev.succ ?_
      simp only [laws_heldStringS.l0]
      exact Ev.neg (by rw [markL_length]; omega) (Ev.some_ (by omega))
    | succ n ih =>
      intro i c hi hc
      refine Ev.succ ?_
      simp only [laws_heldStringS.l0]
      have e : wrap64 ((i : Int) + 1) = ((i + 1 : Nat) : Int) := by rw [w64 (by omega) (by omega)]; omega
      have e1 : wrap64 (c + 1) = c + 1 := w64 (by omega) (by omega)
      rw [e, e1]
      refine Ev.pos (by rw [markL_length]; omega) (Ev.pos (by omega) (Ev.bnd (laws_markText_ev _ (by omega)) (Ev.pos ?_ (ih (i + 1) _ (by omega) (by omega)))))
      have hlt : i < (markL mt m n0).length := by rw [markL_length]; omega
      have := markL_get mt m n0 i (by omega)
      rw [List.getElem?_eq_getElem hlt] at this
      rw [rdOf_nat _ _ _ hlt, Option.some.inj this, hc]
  exact key n0 0 m (by omega) (by omega)
theorem FnExactSplitText : laws_FnExactSplitText.Pure := by
  intro s hs
  refine Ev.rounds (r := true) ?_
  simp only [laws_FnExactSplitText.f]
  by_cases hb : (s.size : Int) > 1048576
  · exact Ev.pos hb (Ev.now _)
  have hp := splitR_le s
  have h1 := spec_SplitText_ev s (by omega)
  have h2 := impl_SplitText_ev s (by omega)
  refine Ev.neg hb (Ev.bnd h1 (Ev.bnd h2 (Ev.bnd (laws_eqStringS_refl _ (by omega)) (Ev.pos rfl ?_))))
  refine Ev.succ ?_
  simp only [laws_FnExactSplitText.j0]
  refine Ev.neg (by simp) (Ev.bnd (laws_markStringS_ev _ 1 (by omega) (by omega) (by omega)) (Ev.bnd (laws_heldStringS_ev 1 _ (by omega) (by omega) (by omega)) (Ev.neg (by omega) (Ev.pos (by first | rfl | trivial) (Ev.bnd h2 (Ev.bnd (laws_eqStringS_refl _ (by omega)) (Ev.pos rfl ?_)))))))
  refine Ev.succ ?_
  simp only [laws_FnExactSplitText.j1]
  exact Ev.neg (by simp) (Ev.bnd (laws_heldStringS_ev 1 _ (by omega) (by omega) (by omega)) (Ev.neg (by omega) (Ev.pos (by first | rfl | trivial) (Ev.now _))))

end Go.Proofs.YtfaebcoembcfoaaDoor.Pure
