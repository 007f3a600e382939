/- Drawn right lines come back from their text, and their text from them. -/
import Derived.Test.YtfaebcoembcfoaaDoorPFnLinesx3
import Derived.Test.YtfaebcoembcfoaaDoorGen
namespace Go.Proofs.YtfaebcoembcfoaaDoor.Pure
open Go.RowKit Go.Proofs.YtfaebcoembcfoaaDoor.PFnLines Go.Proofs.YtfaebcoembcfoaaDoorW.PrintWords Go.Proofs.YtfaebcoembcfoaaDoorW.PrintLast Go.Proofs.YtfaebcoembcfoaaDoorG

theorem laws_big_eq (l : List Int) : laws_big.f l = some (decide ((l.length : Int) > 1048576)) := rfl
/-! what is drawn: the cursor never fails -/
theorem and255 (x : Int) : 0 ≤ Go.bits .and .i64 x 255 ∧ Go.bits .and .i64 x 255 ≤ 255 := by
  have h : (BitVec.ofInt IntKind.i64.bits x).toNat &&& (BitVec.ofInt IntKind.i64.bits 255).toNat ≤ 255 := by
    have e : (BitVec.ofInt IntKind.i64.bits 255).toNat = 255 := by rfl
    rw [e]
    exact Nat.and_le_right
  simp only [Go.bits, BitVec.toNat_and]
  rw [IntKind.wrap_i64]
  omega
theorem spec_l01Byte_eq (s : List Int) (i h : Int) (hi : 0 ≤ i) (hs : s.length ≤ 140737488351232) : ∃ v i' h', spec_l01Byte.f s i h = some (v, i', h') ∧ 0 ≤ v ∧ v ≤ 255 ∧ 0 ≤ i' := by
  unfold spec_l01Byte.f
  by_cases c : i < (s.length : Int)
  · rw [if_pos c, if_pos hi, show wrap64 (i + 1) = i + 1 from w64 (by omega) (by omega)]
    exact ⟨_, _, _, rfl, (and255 _).1, (and255 _).2, by omega⟩
  · rw [if_neg c]
    exact ⟨_, _, _, rfl, (and255 _).1, (and255 _).2, hi⟩
theorem spec_l01Below_eq (s : List Int) (i h n : Int) (hi : 0 ≤ i) (hs : s.length ≤ 140737488351232) (h0 : 1 ≤ n) (h1 : n ≤ 256) : ∃ v i' h', spec_l01Below.f s i h n = some (v, i', h') ∧ 0 ≤ v ∧ v < n ∧ 0 ≤ i' := by
  obtain ⟨v, i', h', e, v0, v1, hi'⟩ := spec_l01Byte_eq s i h hi hs
  unfold spec_l01Below.f
  rw [if_neg (by omega), if_pos h1, e, Option.bind_some, if_neg (by omega)]
  refine ⟨_, _, _, rfl, ?_, ?_, hi'⟩
  · rw [Int.tmod_eq_emod_of_nonneg v0]
    exact Int.emod_nonneg _ (by omega)
  · rw [Int.tmod_eq_emod_of_nonneg v0]
    exact Int.emod_lt_of_pos _ (by omega)
theorem spec_l01New_ev (s : List Int) : ∃ h, Ev (fun k => spec_l01New.f k s) (s, 0, h) := by
  simp only [spec_l01New.f]
  have key : ∀ (n i : Nat) (h : Int), i + n = s.length → ∃ h', Ev (fun k => spec_l01New.l0 k s h (i : Int)) (s, 0, h') := by
    intro n
    induction n with
    | zero =>
      intro i h hi
      refine ⟨h, Ev.succ ?_⟩
      simp only [spec_l01New.l0]
      exact Ev.neg (by omega) (Ev.now _)
    | succ n ih =>
      intro i h hi
      by_cases c : (i : Int) < 4000
      · obtain ⟨h', hh⟩ := ih (i + 1) (Go.bits .and .i64 (wrap64 ((wrap64 ((wrap64 (h * 131)) + (wrap64 (rd s (i : Int))))) + 7)) 1073741823) (by omega)
        refine ⟨h', Ev.succ ?_⟩
        simp only [spec_l01New.l0]
        rw [up1 i (by omega)]
        exact Ev.pos (by omega) (Ev.pos c (Ev.pos (by omega) hh))
      · refine ⟨h, Ev.succ ?_⟩
        simp only [spec_l01New.l0]
        exact Ev.pos (by omega) (Ev.neg c (Ev.now _))
  exact key s.length 0 _ (by omega)
theorem spec_l01Pick_eq (s : List Int) (i h : Int) (l : List ByteArray) (hi : 0 ≤ i) (hs : s.length ≤ 140737488351232) (h0 : 1 ≤ l.length) (h1 : l.length ≤ 256) : ∃ v i' h', spec_l01Pick.f s i h l = some (v, i', h') ∧ v ∈ l ∧ 0 ≤ i' := by
  obtain ⟨v, i', h', e, v0, v1, hi'⟩ := spec_l01Below_eq s i h (l.length : Int) hi hs (by omega) (by omega)
  unfold spec_l01Pick.f
  rw [e, Option.bind_some, if_pos v0, if_pos v1]
  refine ⟨_, _, _, rfl, ?_, hi'⟩
  obtain ⟨j, rfl⟩ := Int.eq_ofNat_of_zero_le v0
  rw [rdOf_nat _ _ _ (by omega)]
  exact List.getElem_mem _
theorem spec_l03Line_eq (s : List Int) (i h : Int) (hi : 0 ≤ i) (hs : s.length ≤ 140737488351232) : ∃ v i' h', spec_l03Line.f s i h = some (v, i', h') ∧ lineOk v = true ∧ 0 ≤ i' := by
  unfold spec_l03Line.f
  obtain ⟨v, i', h', e, hv, hi'⟩ := spec_l01Pick_eq s i h [(⟨#[97]⟩ : ByteArray), (⟨#[98]⟩ : ByteArray), (⟨#[99]⟩ : ByteArray), (⟨#[100]⟩ : ByteArray), (⟨#[101]⟩ : ByteArray), (⟨#[]⟩ : ByteArray), (⟨#[105, 102, 32, 120]⟩ : ByteArray), (⟨#[101, 110, 100]⟩ : ByteArray), (⟨#[97]⟩ : ByteArray), (⟨#[98]⟩ : ByteArray)] hi hs (by simp) (by simp)
  rw [e, Option.bind_some]
  refine ⟨_, _, _, rfl, ?_, hi'⟩
  simp only [List.mem_cons, List.not_mem_nil, or_false] at hv
  rcases hv with rfl | rfl | rfl | rfl | rfl | rfl | rfl | rfl | rfl | rfl <;> rfl
theorem allOk_snoc {l : List ByteArray} {x : ByteArray} (h : allOk l = true) (hx : lineOk x = true) : allOk (l ++ [x]) = true := by
  simp only [allOk, List.all_append, List.all_cons, List.all_nil, Bool.and_true, Bool.and_eq_true]
  exact ⟨h, hx⟩
theorem allOk_get {l : List ByteArray} (h : allOk l = true) (i : Nat) (hi : i < l.length) : lineOk l[i] = true := List.all_eq_true.1 h _ (List.getElem_mem hi)
theorem spec_l03Lines_ev (s : List Int) (i h : Int) (m : Nat) (hi : 0 ≤ i) (hs : s.length ≤ 140737488351232) (hm : m ≤ 250) : ∃ r i' h', Ev (fun k => spec_l03Lines.f k s i h (m : Int)) (r, i', h') ∧ r.length ≤ m ∧ allOk r = true ∧ 0 ≤ i' := by
  simp only [spec_l03Lines.f]
  have key : ∀ (n j : Nat) (acc : List ByteArray) (i h : Int), j + n = m → 0 ≤ i → acc.length = j → allOk acc = true → ∃ r i' h', Ev (fun k => spec_l03Lines.l0 k (m : Int) acc (j : Int) s i h) (r, i', h') ∧ r.length ≤ m ∧ allOk r = true ∧ 0 ≤ i' := by
    intro n
    induction n with
    | zero =>
      intro j acc i h hj hi hl ha
      obtain ⟨v, i', h', e, v0, v1, hi'⟩ := spec_l01Below_eq s i h ((m + 1 : Nat) : Int) hi hs (by omega) (by omega)
      refine ⟨acc, i', h', Ev.succ ?_, by omega, ha, hi'⟩
      simp only [spec_l03Lines.l0]
      rw [up1 m (by omega)]
      exact Ev.bnd0 e (Ev.neg (by simp only; omega) (Ev.now _))
    | succ n ih =>
      intro j acc i h hj hi hl ha
      obtain ⟨v, i', h', e, v0, v1, hi'⟩ := spec_l01Below_eq s i h ((m + 1 : Nat) : Int) hi hs (by omega) (by omega)
      by_cases c : (j : Int) < v
      · obtain ⟨x, i2, h2, e2, hx, hi2⟩ := spec_l03Line_eq s i' h' hi' hs
        obtain ⟨r, i3, h3, hr, hrl, hra, hi3⟩ := ih (j + 1) (acc ++ [x]) i2 h2 (by omega) hi2 (by simp; omega) (allOk_snoc ha hx)
        refine ⟨r, i3, h3, Ev.succ ?_, hrl, hra, hi3⟩
        simp only [spec_l03Lines.l0]
        rw [up1 m (by omega), up1 j (by omega)]
        exact Ev.bnd0 e (Ev.pos c (Ev.bnd0 e2 (Ev.pos (by omega) hr)))
      · refine ⟨acc, i', h', Ev.succ ?_, by omega, ha, hi'⟩
        simp only [spec_l03Lines.l0]
        rw [up1 m (by omega)]
        exact Ev.bnd0 e (Ev.neg c (Ev.now _))
  exact key m 0 [] i h (by omega) hi rfl rfl
theorem spec_l01Long_ev (n x : Int) (h0 : 0 ≤ n) (h1 : n ≤ 1000000) : ∃ s : ByteArray, Ev (fun k => spec_l01Long.f k n x) s ∧ s.size ≤ 1000000 := by
  obtain ⟨m, rfl⟩ := Int.eq_ofNat_of_zero_le h0
  simp only [spec_l01Long.f]
  have key : ∀ (q i : Nat) (l : List Int), i + q = m → l.length = m → ∃ s : ByteArray, Ev (fun k => spec_l01Long.l0 k (m : Int) x l (i : Int)) s ∧ s.size ≤ 1000000 := by
    intro q
    induction q with
    | zero =>
      intro i l hi hl
      refine ⟨strOfNums l, Ev.succ ?_, by rw [strOfNums_size]; omega⟩
      simp only [spec_l01Long.l0]
      exact Ev.neg (by omega) (Ev.now _)
    | succ q ih =>
      intro i l hi hl
      obtain ⟨s, hs, hz⟩ := ih (i + 1) (l.set i x) (by omega) (by rw [List.length_set]; exact hl)
      refine ⟨s, Ev.succ ?_, hz⟩
      simp only [spec_l01Long.l0]
      rw [up1 i (by omega), Int.toNat_natCast]
      exact Ev.pos (by omega) (Ev.pos (by omega) (Ev.pos (by omega) hs))
  obtain ⟨s, hs, hz⟩ := key m 0 (List.replicate m 0) (by omega) (by simp)
  refine ⟨s, Ev.pos (by omega) (Ev.pos (by omega) ?_), hz⟩
  rw [Int.toNat_natCast]
  exact hs
theorem sizedN_snoc {l : List ByteArray} {x : ByteArray} (h : Sized l) (hl : l.length ≤ 1000) (hx : x.size ≤ 140737488351232) : Sized (l ++ [x]) := by
  refine ⟨by rw [List.length_append]; simp; omega, fun y hy => ?_⟩
  rcases List.mem_append.1 hy with hy | hy
  · exact h.2 y hy
  · rw [List.mem_singleton.1 hy]
    exact hx
theorem sizedN_of {l : List ByteArray} (hl : l.length ≤ 1000) (h : allOk l = true) : Sized l :=
  ⟨by omega, fun x hx => by have := lineOk_size (List.all_eq_true.1 h x hx); omega⟩
theorem spec_l03Any_ev (s : List Int) (i h : Int) (hi : 0 ≤ i) (hs : s.length ≤ 140737488351232) : ∃ r i' h', Ev (fun k => spec_l03Any.f k s i h) (r, i', h') ∧ Sized r ∧ r.length ≤ 100 ∧ 0 ≤ i' := by
  obtain ⟨a, i1, h1, e1, l1, o1, p1⟩ := spec_l03Lines_ev s i h 9 hi hs (by omega)
  obtain ⟨v, i2, h2, e2, v0, v1, p2⟩ := spec_l01Below_eq s i1 h1 40 p1 hs (by omega) (by omega)
  have sa := sizedN_of (by omega) o1
  simp only [spec_l03Any.f]
  by_cases c0 : v = 0
  · obtain ⟨u, i3, h3, e3, u0, u1, p3⟩ := spec_l01Below_eq s i2 h2 2 p2 hs (by omega) (by omega)
    have hw : wrap64 (60 + u) = 60 + u := w64 (by omega) (by omega)
    obtain ⟨t, e4, hz⟩ := spec_l01Long_ev (60 + u) 120 (by omega) (by omega)
    refine ⟨a ++ [t], i3, h3, Ev.bnd e1 (Ev.bnd0 e2 (Ev.pos c0 (Ev.bnd0 e3 ?_))), sizedN_snoc sa (by omega) (by omega), by rw [List.length_append]; simp; omega, p3⟩
    simp only
    rw [hw]
    exact Ev.bnd e4 (Ev.pos (by omega) (Ev.now _))
  by_cases c1 : v = 1
  · exact ⟨a ++ [⟨#[97, 10, 98]⟩], i2, h2, Ev.bnd e1 (Ev.bnd0 e2 (Ev.neg c0 (Ev.pos c1 (Ev.pos (by simp only; omega) (Ev.now _))))), sizedN_snoc sa (by omega) (by decide), by rw [List.length_append]; simp; omega, p2⟩
  by_cases c2 : v = 2
  · have key : ∀ (n : Nat) (acc : List ByteArray) (i h : Int), acc.length + n = 81 → 0 ≤ i → Sized acc → ∃ r i' h', Ev (fun k => spec_l03Any.l0 k acc s i h) (r, i', h') ∧ Sized r ∧ r.length ≤ 100 ∧ 0 ≤ i' := by
      intro n
      induction n with
      | zero =>
        intro acc i h hn hi hA
        obtain ⟨u, i3, h3, e3, u0, u1, p3⟩ := spec_l01Below_eq s i h 2 hi hs (by omega) (by omega)
        refine ⟨acc, i3, h3, Ev.succ ?_, hA, by omega, p3⟩
        simp only [spec_l03Any.l0]
        refine Ev.bnd0 e3 ?_
        simp only
        rw [show wrap64 (80 + u) = 80 + u from w64 (by omega) (by omega)]
        exact Ev.neg (by omega) (Ev.now _)
      | succ n ih =>
        intro acc i h hn hi hA
        obtain ⟨u, i3, h3, e3, u0, u1, p3⟩ := spec_l01Below_eq s i h 2 hi hs (by omega) (by omega)
        by_cases c : (acc.length : Int) < 80 + u
        · obtain ⟨x, i4, h4, e4, hx, p4⟩ := spec_l03Line_eq s i3 h3 p3 hs
          have := lineOk_size hx
          obtain ⟨r, i', h', e5, r1, r2, r3⟩ := ih (acc ++ [x]) i4 h4 (by rw [List.length_append]; simp; omega) p4 (sizedN_snoc hA (by omega) (by omega))
          refine ⟨r, i', h', Ev.succ ?_, r1, r2, r3⟩
          simp only [spec_l03Any.l0]
          refine Ev.bnd0 e3 ?_
          simp only
          rw [show wrap64 (80 + u) = 80 + u from w64 (by omega) (by omega)]
          exact Ev.pos c (Ev.bnd0 e4 (Ev.pos (by omega) e5))
        · refine ⟨acc, i3, h3, Ev.succ ?_, hA, by omega, p3⟩
          simp only [spec_l03Any.l0]
          refine Ev.bnd0 e3 ?_
          simp only
          rw [show wrap64 (80 + u) = 80 + u from w64 (by omega) (by omega)]
          exact Ev.neg c (Ev.now _)
    obtain ⟨r, i', h', e, r1, r2, r3⟩ := key (81 - a.length) a i2 h2 (by omega) p2 sa
    exact ⟨r, i', h', Ev.bnd e1 (Ev.bnd0 e2 (Ev.neg c0 (Ev.neg c1 (Ev.pos c2 e)))), r1, r2, r3⟩
  · exact ⟨a, i2, h2, Ev.bnd e1 (Ev.bnd0 e2 (Ev.neg c0 (Ev.neg c1 (Ev.neg c2 (Ev.now _))))), sa, by omega, p2⟩
theorem spec_DrawJoinLines_ev (s : List Int) (hs : s.length ≤ 140737488351232) : ∃ r, Ev (fun k => spec_DrawJoinLines.f k s) r ∧ Sized r ∧ r.length ≤ 100 := by
  obtain ⟨h, hh⟩ := spec_l01New_ev s
  obtain ⟨r, i', h', e, r1, r2, _⟩ := spec_l03Any_ev s 0 h (by omega) hs
  refine ⟨r, ?_, r1, r2⟩
  simp only [spec_DrawJoinLines.f]
  exact Ev.bnd hh (Ev.bnd e (Ev.now _))
def glueL (a : List UInt8) : List (List UInt8) → List (List UInt8)
  | [] => [a]
  | p :: ps => (a ++ p) :: ps
def pcs (c : UInt8) : List UInt8 → List (List UInt8)
  | [] => [[]]
  | x :: l => if x = c then [] :: pcs c l else glueL [x] (pcs c l)
theorem pcs_ne (c : UInt8) (l : List UInt8) : pcs c l ≠ [] := by
  cases l with
  | nil => simp [pcs]
  | cons x l =>
    unfold pcs
    split
    · simp
    · cases pcs c l <;> simp [glueL]
theorem glueL_glueL (a b : List UInt8) (L : List (List UInt8)) : glueL a (glueL b L) = glueL (a ++ b) L := by
  cases L <;> simp [glueL]
theorem glueL_nil {L : List (List UInt8)} (h : L ≠ []) : glueL [] L = L := by
  cases L with
  | nil => exact absurd rfl h
  | cons p ps => rfl
theorem pcs_free (c : UInt8) (l : List UInt8) : ∀ a : List UInt8, c ∉ a → pcs c (a ++ l) = glueL a (pcs c l)
  | [], _ => (glueL_nil (pcs_ne c l)).symm
  | x :: a, h => by
    have hx : ¬ x = c := fun e => h (by simp [e])
    rw [List.cons_append, pcs, if_neg hx, pcs_free c l a (fun e => h (by simp [e])), glueL_glueL]
    rfl
theorem pcs_hit (c : UInt8) (a l : List UInt8) (h : c ∉ a) : pcs c (a ++ c :: l) = a :: pcs c l := by
  rw [pcs_free c _ a h, pcs, if_pos rfl]
  simp [glueL]
theorem pcs_miss (c : UInt8) (a : List UInt8) (h : c ∉ a) : pcs c a = [a] := by
  have := pcs_free c [] a h
  rw [List.append_nil] at this
  rw [this]
  simp [pcs, glueL]
theorem index_one_miss (c : UInt8) : ∀ a : List UInt8, c ∉ a → Lib.index a [c] = -1
  | [], _ => rfl
  | x :: a, h => by
    have hx : (c == x) = false := by
      rw [beq_eq_false_iff_ne]
      exact fun e => h (by simp [e])
    have ih := index_one_miss c a (fun e => h (by simp [e]))
    unfold Lib.index
    simp [List.isPrefixOf, hx, ih]
theorem index_one_hit (c : UInt8) (l : List UInt8) : ∀ a : List UInt8, c ∉ a → Lib.index (a ++ c :: l) [c] = a.length
  | [], _ => by
    unfold Lib.index
    simp [List.isPrefixOf]
  | x :: a, h => by
    have hx : (c == x) = false := by
      rw [beq_eq_false_iff_ne]
      exact fun e => h (by simp [e])
    have ih := index_one_hit c l a (fun e => h (by simp [e]))
    rw [List.cons_append]
    unfold Lib.index
    rw [ih]
    simp only [List.isPrefixOf, hx, Bool.false_and, List.length_cons]
    rw [if_neg (by simp)]
    have e : ((a.length : Int) == -1) = false := by rw [beq_eq_false_iff_ne]; omega
    simp [e]
theorem split_pcs (c : UInt8) : ∀ (n : Nat) (s : List UInt8), s.length ≤ n → Lib.splitK [c] 0 (Lib.count s [c]) s = pcs c s := by
  intro n
  induction n with
  | zero =>
    intro s h
    obtain rfl : s = [] := List.length_eq_zero_iff.1 (by omega)
    rw [Lib.count_miss (index_one_miss c [] (by simp))]
    rfl
  | succ n ih =>
    intro s h
    by_cases hc : c ∈ s
    · obtain ⟨a, b, rfl, ha⟩ := List.eq_append_cons_of_mem hc
      have hi := index_one_hit c b a ha
      have e1 : (a ++ c :: b).drop (a.length + [c].length) = b := by
        rw [List.drop_append]
        simp
      rw [Lib.count_hit (by simp) hi, e1, Nat.add_comm, Lib.splitK, hi, if_neg (by simp), Int.toNat_natCast, e1, pcs_hit c a b ha, ih b (by simp at h; omega)]
      simp
    · rw [Lib.count_miss (index_one_miss c s hc), pcs_miss c s hc]
      rfl
def strU (l : List UInt8) : ByteArray := ⟨l.toArray⟩
theorem strU_data (l : List UInt8) : (strU l).data.toList = l := by simp [strU]
theorem strU_map (L : List ByteArray) : (L.map (·.data.toList)).map strU = L := by
  rw [List.map_map]
  conv => rhs; rw [← List.map_id L]
  apply List.map_congr_left
  intro s _
  exact data_inj (strU_data _)
theorem strU_size (l : List UInt8) : (strU l).size = l.length := by
  rw [← data_length, strU_data]
def piecesB (c : UInt8) (s : ByteArray) : List ByteArray := (pcs c s.data.toList).map strU
theorem splitB_pieces (c : UInt8) (s : ByteArray) : Lib.splitB ⟨#[c]⟩ 0 (Lib.countB s ⟨#[c]⟩) s = piecesB c s := by
  have e := Lib.splitB_data ⟨#[c]⟩ 0 (Lib.countB s ⟨#[c]⟩) s
  rw [← strU_map (Lib.splitB _ _ _ _), e]
  unfold piecesB
  exact congrArg (List.map strU) (split_pcs c _ _ (Nat.le_refl _))
theorem strings_Split_eq (c : UInt8) (s : ByteArray) (h : s.size < 4294967281) : strings_Split.f s ⟨#[c]⟩ = some (piecesB c s) := by
  unfold strings_Split.f
  rw [if_pos ⟨h, rfl⟩, splitB_pieces]
theorem pcs_length (c : UInt8) : ∀ l : List UInt8, (pcs c l).length ≤ l.length + 1
  | [] => by simp [pcs]
  | x :: l => by
    have ih := pcs_length c l
    unfold pcs
    split
    · simp only [List.length_cons]; omega
    · generalize pcs c l = L at ih ⊢
      cases L with
      | nil => simp [glueL]
      | cons p ps => simp only [glueL, List.length_cons] at ih ⊢; omega
theorem bt_data (s : ByteArray) (i : Nat) (h : i < s.data.toList.length) : bt s (i : Int) = ((s.data.toList[i]).toNat : Int) := by
  rw [← rd_bytesOf, rd_nat _ _ (by rw [bytesOf_length, ← data_length]; exact h)]
  simp [bytesOf]
theorem extract_strU (s : ByteArray) (i j : Nat) : s.extract i j = strU ((s.data.toList.drop i).take (j - i)) := by
  apply data_inj
  rw [strU_data, ByteArray.data_extract, Array.toList_extract, List.extract_eq_take_drop]
theorem spec_LineOk_ev (s : ByteArray) (hs : s.size ≤ 140737488351232) : Ev (fun k => spec_LineOk.f k s) (lineOk s) := by
  simp only [spec_LineOk.f]
  have key : ∀ (n i : Nat), i + n = s.size → Ev (fun k => spec_LineOk.l0 k s (i : Int)) (decide ((10 : Int) ∉ (bytesOf s).drop i ∧ s.size ≤ 60)) := by
    intro n
    induction n with
    | zero =>
      intro i hi
      refine Ev.succ ?_
      simp only [spec_LineOk.l0]
      refine Ev.neg (by omega) (Ev.some_ ?_)
      rw [drop_end _ _ (by rw [bytesOf_length]; omega)]
      simp
      omega
    | succ n ih =>
      intro i hi
      refine Ev.succ ?_
      simp only [spec_LineOk.l0]
      refine Ev.pos (by omega) (Ev.pos (by omega) ?_)
      rw [up1 i (by omega), drop_bt s i (by omega)]
      by_cases h : bt s (i : Int) = 10
      · exact Ev.pos h (Ev.some_ (by simp [h]))
      · refine Ev.neg h (Ev_eq (ih (i + 1) (by omega)) ?_)
        have : ((10 : Int) ∉ bt s (i : Int) :: (bytesOf s).drop (i + 1)) ↔ ((10 : Int) ∉ (bytesOf s).drop (i + 1)) := by
          rw [List.mem_cons]
          constructor
          · intro h1 h2; exact h1 (.inr h2)
          · intro h1 h2
            rcases h2 with h2 | h2
            · exact h h2.symm
            · exact h1 h2
        simp only [this]
  exact key s.size 0 (by omega)
theorem spec_l03All_ev (l : List ByteArray) (m : Int) (hl : Sized l) : Ev (fun k => spec_l03All.f k l m) (linesOk m l) := by
  simp only [spec_l03All.f]
  by_cases h : (l.length : Int) > m
  · refine Ev.pos h (Ev.some_ ?_)
    simp only [linesOk]
    rw [show decide ((l.length : Int) ≤ m) = false from by simp; omega]
    rfl
  refine Ev.neg h ?_
  have key : ∀ (n i : Nat), i + n = l.length → Ev (fun k => spec_l03All.l0 k l (i : Int)) (allOk (l.drop i)) := by
    intro n
    induction n with
    | zero =>
      intro i hi
      refine Ev.succ ?_
      simp only [spec_l03All.l0]
      refine Ev.neg (by omega) (Ev.some_ ?_)
      rw [drop_end l i (by omega)]
      rfl
    | succ n ih =>
      intro i hi
      refine Ev.succ ?_
      simp only [spec_l03All.l0]
      have hlt := hl.1
      refine Ev.pos (by omega) (Ev.pos (by omega) (Ev.bnd (spec_LineOk_ev _ (hl.2 _ (rdOf_mem _ l i (by omega)))) ?_))
      rw [up1 i (by omega), drop_rdOf ByteArray.empty l i (by omega)]
      by_cases hx : lineOk (rdOf ByteArray.empty l (i : Int)) = true
      · refine Ev.pos hx (Ev_eq (ih (i + 1) (by omega)) ?_)
        simp only [allOk, List.all_cons, hx, Bool.true_and]
      · refine Ev.neg hx (Ev.some_ ?_)
        simp only [allOk, List.all_cons, Bool.not_eq_true _ ▸ hx]
        simp
  refine Ev_eq (key l.length 0 (by omega)) ?_
  simp only [linesOk, List.drop_zero]
  rw [show decide ((l.length : Int) ≤ m) = true from by simp; omega]
  rfl
theorem impl_LineOk_eq (s : ByteArray) : impl_LineOk.f s = some (lineOk s) := by
  simp only [impl_LineOk.f]
  by_cases h : (s.size : Int) ≤ 60
  · rw [if_pos h]
    simp only [strings_Contains.f]
    rw [if_pos (by rfl)]
    simp only [Option.bind_some]
    congr 1
    have h1 := indexByte_mem 10 s.data.toList
    have h2 := byte_mem s 10
    simp only [lineOk]
    rw [← decide_not]
    congr 1
    rw [show (⟨#[10]⟩ : ByteArray).data.toList.headD 0 = (10 : UInt8) from rfl, h1, h2]
    simp only [eq_iff_iff]
    constructor
    · intro h3; exact ⟨h3, by omega⟩
    · intro h3; exact h3.1
  · rw [if_neg h]
    congr 1
    simp only [lineOk]
    symm
    rw [decide_eq_false_iff_not]
    omega
theorem impl_areLines_ev (l : List ByteArray) (hl : l.length ≤ 140737488351232) : Ev (fun k => impl_areLines.f k l) (allOk l) := by
  simp only [impl_areLines.f]
  have key : ∀ (n i : Nat), i + n = l.length → Ev (fun k => impl_areLines.l0 k l (l.length : Int) (i : Int)) (allOk (l.drop i)) := by
    intro n
    induction n with
    | zero =>
      intro i hi
      refine Ev.succ ?_
      simp only [impl_areLines.l0]
      refine Ev.neg (by omega) (Ev.some_ ?_)
      rw [drop_end l i (by omega)]
      rfl
    | succ n ih =>
      intro i hi
      refine Ev.succ ?_
      simp only [impl_areLines.l0]
      refine Ev.pos (by omega) (Ev.pos (by omega) (Ev.pos (by omega) (Ev.bnd0 (impl_LineOk_eq _) ?_)))
      rw [up1 i (by omega), drop_rdOf ByteArray.empty l i (by omega)]
      by_cases hx : lineOk (rdOf ByteArray.empty l (i : Int)) = true
      · refine Ev.pos hx (Ev_eq (ih (i + 1) (by omega)) ?_)
        simp only [allOk, List.all_cons, hx, Bool.true_and]
      · refine Ev.neg hx (Ev.some_ ?_)
        simp only [allOk, List.all_cons]
        simp [Bool.eq_false_iff.2 hx]
  exact key l.length 0 (by omega)
theorem spec_LinesOk_ev (l : List ByteArray) (hl : Sized l) : Ev (fun k => spec_LinesOk.f k l) (linesOk 80 l) := by
  simp only [spec_LinesOk.f]
  exact Ev.bnd (spec_l03All_ev l 80 hl) (Ev.now _)
theorem impl_LinesOk_ev (l : List ByteArray) (hl : Sized l) : Ev (fun k => impl_LinesOk.f k l) (linesOk 80 l) := by
  simp only [impl_LinesOk.f]
  by_cases h : (l.length : Int) ≤ 80
  · exact Ev.pos h (Ev.bnd (impl_areLines_ev l hl.1) (Ev.some_ (by simp [linesOk, h])))
  · exact Ev.neg h (Ev.some_ (by simp [linesOk, h]))
theorem linesOk_small {m : Int} {l : List ByteArray} (h : linesOk m l = true) : (l.length : Int) ≤ m ∧ ∀ s ∈ l, s.size ≤ 60 := by
  simp only [linesOk, Bool.and_eq_true, decide_eq_true_eq] at h
  refine ⟨h.1, fun s hs => ?_⟩
  have := h.2
  simp only [allOk, List.all_eq_true] at this
  have h2 := this s hs
  simp only [lineOk, decide_eq_true_eq] at h2
  exact h2.2
def finQ (out : List ByteArray) (Q : List (List UInt8)) : List ByteArray × Bool := if Q.getLast? = some [] ∧ linesOk 80 (out ++ Q.dropLast.map strU) = true then (out ++ Q.dropLast.map strU, true) else ([], false)
theorem finQ_pos {out : List ByteArray} {Q : List (List UInt8)} (h : Q.getLast? = some [] ∧ linesOk 80 (out ++ Q.dropLast.map strU) = true) : finQ out Q = (out ++ Q.dropLast.map strU, true) := if_pos h
theorem finQ_neg {out : List ByteArray} {Q : List (List UInt8)} (h : ¬ (Q.getLast? = some [] ∧ linesOk 80 (out ++ Q.dropLast.map strU) = true)) : finQ out Q = ([], false) := if_neg h
def splitR (s : ByteArray) : List ByteArray × Bool := finQ [] (pcs 10 s.data.toList)
theorem pcs_tot (c : UInt8) : ∀ l : List UInt8, ((pcs c l).map fun p => p.length + 1).sum = l.length + 1
  | [] => by simp [pcs]
  | x :: l => by
    have ih := pcs_tot c l
    unfold pcs
    split
    · simp only [List.map_cons, List.sum_cons, List.length_cons, List.length_nil, ih]; omega
    · have hne := pcs_ne c l
      generalize pcs c l = L at ih hne ⊢
      cases L with
      | nil => exact absurd rfl hne
      | cons p ps => simp only [glueL, List.map_cons, List.sum_cons, List.length_append, List.length_cons, List.length_nil] at ih ⊢; omega
theorem sum_mem_le {l : List Nat} {x : Nat} (h : x ∈ l) : x ≤ l.sum := by
  induction l with
  | nil => simp at h
  | cons y l ih =>
    simp only [List.sum_cons]
    rcases List.mem_cons.1 h with rfl | h
    · omega
    · have := ih h; omega
theorem pcs_mem (c : UInt8) (l p : List UInt8) (h : p ∈ pcs c l) : p.length ≤ l.length := by
  have h1 := sum_mem_le (List.mem_map.2 ⟨p, h, rfl⟩ : p.length + 1 ∈ (pcs c l).map fun p => p.length + 1)
  rw [pcs_tot] at h1
  omega
theorem sum_le_of {l : List Nat} {m : Nat} (h : ∀ x ∈ l, x ≤ m) : l.sum ≤ m * l.length := by
  induction l with
  | nil => simp
  | cons y l ih =>
    have h1 := h y (by simp)
    have h2 := ih (fun x hx => h x (by simp [hx]))
    simp only [List.sum_cons, List.length_cons, Nat.mul_succ]
    omega
theorem pcs_small (c : UInt8) (l : List UInt8) (h1 : (pcs c l).getLast? = some []) (h2 : linesOk 80 ((pcs c l).dropLast.map strU) = true) : l.length ≤ 4880 := by
  have ht := pcs_tot c l
  obtain ⟨k1, k2⟩ := linesOk_small h2
  have hd : pcs c l = (pcs c l).dropLast ++ [[]] := by
    have hne := pcs_ne c l
    have e := List.dropLast_concat_getLast hne
    rw [List.getLast?_eq_some_getLast hne] at h1
    rw [Option.some.inj h1] at e
    exact e.symm
  rw [hd, List.map_append, List.sum_append] at ht
  have hs : ((pcs c l).dropLast.map fun p => p.length + 1).sum ≤ 61 * ((pcs c l).dropLast.map fun p => p.length + 1).length := by
    apply sum_le_of
    intro x hx
    obtain ⟨p, hp, rfl⟩ := List.mem_map.1 hx
    have := k2 (strU p) (List.mem_map.2 ⟨p, hp, rfl⟩)
    rw [strU_size] at this
    omega
  rw [List.length_map] at hs k1
  simp only [List.map_cons, List.map_nil, List.sum_cons, List.sum_nil, List.length_nil] at ht
  omega
theorem impl_SplitText_ev (s : ByteArray) (hs : s.size ≤ 1048577) : Ev (fun k => impl_SplitText.f k s) (splitR s) := by
  simp only [impl_SplitText.f]
  unfold splitR
  have hz := data_length s
  by_cases h : (s.size : Int) > 4880
  · refine Ev.pos h (Ev.some_ (finQ_neg ?_).symm)
    rintro ⟨h1, h2⟩
    rw [List.nil_append] at h2
    have := pcs_small 10 _ h1 h2
    omega
  refine Ev.neg h (Ev.bnd0 (strings_Split_eq 10 s (by omega)) ?_)
  have hne := pcs_ne 10 s.data.toList
  have hlen := pcs_length 10 s.data.toList
  have hmem : ∀ p ∈ pcs 10 s.data.toList, p.length ≤ s.size := fun p hp => by have := pcs_mem 10 _ p hp; omega
  have hpos : 0 < (pcs 10 s.data.toList).length := List.length_pos_iff.2 hne
  unfold piecesB
  generalize pcs 10 s.data.toList = Q at *
  have hl : ((Q.map strU).length : Int) - 1 = ((Q.length - 1 : Nat) : Int) := by rw [List.length_map]; omega
  refine Ev.neg (by rw [List.length_map]; omega) ?_
  rw [hl, rdOf_nat _ _ _ (by rw [List.length_map]; omega), List.getElem_map, toList_data, strU_data, show (Q.map strU).length - 1 = Q.length - 1 by rw [List.length_map]]
  have hg : Q.getLast? = some Q[Q.length - 1] := by
    rw [List.getLast?_eq_getElem?, List.getElem?_eq_getElem (by omega)]
  have ht : (Q.map strU).take (Q.length - 1) = Q.dropLast.map strU := by rw [← List.map_take, List.dropLast_eq_take]
  have hn : ([] : List ByteArray) ++ Q.dropLast.map strU = Q.dropLast.map strU := List.nil_append _
  rw [ht]
  by_cases c : Q[Q.length - 1] = []
  · refine Ev.pos c (Ev.bnd (impl_LinesOk_ev _ ⟨by rw [List.length_map, List.length_dropLast]; omega, fun x hx => ?_⟩) ?_)
    · obtain ⟨p, hp, rfl⟩ := List.mem_map.1 hx
      have := hmem p (List.dropLast_subset _ hp)
      rw [strU_size]
      omega
    · by_cases b : linesOk 80 (Q.dropLast.map strU) = true
      · exact Ev_eq (Ev.pos b (Ev.now _)) (finQ_pos ⟨by rw [hg, c], by rw [hn]; exact b⟩).symm
      · exact Ev_eq (Ev.neg b (Ev.now _)) (finQ_neg (fun e => b (by have := e.2; rw [hn] at this; exact this))).symm
  · exact Ev_eq (Ev.neg c (Ev.now _)) (finQ_neg (fun e => c (by have := e.1; rw [hg] at this; exact Option.some.inj this))).symm
def joinL (l : List ByteArray) : ByteArray := ⟨(impl_joinLines.cat l).toArray⟩
theorem joinL_tot : ∀ (l : List ByteArray), (∀ s ∈ l, s.size ≤ 60) → impl_joinLines.tot l ≤ 61 * l.length
  | [], _ => by simp [impl_joinLines.tot]
  | s :: l, h => by
    have h1 := joinL_tot l (fun x hx => h x (List.mem_cons_of_mem _ hx))
    have h2 := h s (by simp)
    unfold impl_joinLines.tot at h1 ⊢
    simp only [List.map_cons, List.sum_cons, List.length_cons]
    omega
theorem impl_joinLines_eq {l : List ByteArray} (h : linesOk 80 l = true) : impl_joinLines.f l = some (joinL l) := by
  obtain ⟨h1, h2⟩ := linesOk_small h
  have h3 := joinL_tot l h2
  unfold impl_joinLines.f
  rw [if_pos (by omega)]
  rfl
noncomputable def joinR (l : List ByteArray) : ByteArray × Bool := if linesOk 80 l = true then (joinL l, true) else (⟨#[]⟩, false)
theorem impl_JoinLines_ev (l : List ByteArray) (hl : Sized l) : Ev (fun k => impl_JoinLines.f k l) (joinR l) := by
  simp only [impl_JoinLines.f]
  refine Ev.bnd (impl_LinesOk_ev l hl) ?_
  unfold joinR
  by_cases c : linesOk 80 l = true
  · refine Ev.pos c ?_
    rw [if_pos c]
    exact Ev.bnd0 (impl_joinLines_eq c) (Ev.now _)
  · refine Ev.neg c ?_
    rw [if_neg c]
    exact Ev.now _
theorem laws_sameTexts_refl (l : List ByteArray) (hl : l.length ≤ 140737488351232) : Ev (fun k => laws_sameTexts.f k l l) true := by
  simp only [laws_sameTexts.f]
  refine Ev.pos (by first | rfl | trivial) ?_
  have key : ∀ (n i : Nat), i + n = l.length → Ev (fun k => laws_sameTexts.l0 k l l (i : Int)) true := by
    intro n
    induction n with
    | zero =>
      intro i hi
      refine Ev.succ ?_
      simp only [laws_sameTexts.l0]
      exact Ev.neg (by omega) (Ev.now _)
    | succ n ih =>
      intro i hi
      refine Ev.succ ?_
      simp only [laws_sameTexts.l0]
      have e : wrap64 ((i : Int) + 1) = ((i + 1 : Nat) : Int) := by rw [w64 (by omega) (by omega)]; omega
      rw [e]
      exact Ev.pos (by omega) (Ev.pos (by omega) (Ev.pos (by omega) (Ev.pos (by first | rfl | trivial) (ih (i + 1) (by omega)))))
  exact key l.length 0 (by omega)
theorem cat_pcs : ∀ (l : List ByteArray) (t : List UInt8), allOk l = true → pcs 10 (impl_joinLines.cat l ++ t) = l.map (·.data.toList) ++ pcs 10 t
  | [], t, _ => by simp [impl_joinLines.cat]
  | s :: l, t, h => by
    unfold allOk at h
    rw [List.all_cons, Bool.and_eq_true] at h
    have hs : (10 : UInt8) ∉ s.data.toList := by
      have := h.1
      simp only [lineOk, decide_eq_true_eq] at this
      intro e
      exact this.1 ((byte_mem s 10).1 e)
    have ih := cat_pcs l t h.2
    unfold impl_joinLines.cat at ih ⊢
    rw [List.flatMap_cons, List.append_assoc, List.append_assoc, List.singleton_append, pcs_hit 10 _ _ hs, ih]
    rfl
theorem cat_length : ∀ l : List ByteArray, (impl_joinLines.cat l).length = impl_joinLines.tot l
  | [] => rfl
  | s :: l => by
    have ih := cat_length l
    unfold impl_joinLines.cat impl_joinLines.tot at ih ⊢
    rw [List.flatMap_cons, List.length_append, ih, List.map_cons, List.sum_cons, List.length_append, data_length]
    rfl
theorem joinL_data (l : List ByteArray) : (joinL l).data.toList = impl_joinLines.cat l := by simp [joinL]
theorem split_join {l : List ByteArray} (h : linesOk 80 l = true) : splitR (joinL l) = (l, true) := by
  have ha : allOk l = true := by simp only [linesOk, Bool.and_eq_true] at h; exact h.2
  have e := cat_pcs l [] ha
  rw [List.append_nil] at e
  unfold splitR
  rw [joinL_data, e]
  have hd : (l.map (·.data.toList) ++ pcs 10 []).dropLast.map strU = l := by
    rw [show pcs 10 [] = [[]] from rfl, List.dropLast_concat, strU_map]
  rw [finQ_pos ⟨by rw [show pcs 10 [] = [[]] from rfl, List.getLast?_concat], by rw [List.nil_append, hd]; exact h⟩, List.nil_append, hd]
theorem split_joinx {l : List ByteArray} (h : linesOk 80 l = true) : splitR (joinL l ++ ⟨#[120]⟩) = ([], false) := by
  have ha : allOk l = true := by simp only [linesOk, Bool.and_eq_true] at h; exact h.2
  have e := cat_pcs l [120] ha
  unfold splitR
  rw [ByteArray.toList_data_append, joinL_data, show ((⟨#[120]⟩ : ByteArray).data.toList) = [120] from rfl, e, show pcs 10 [120] = [[120]] from rfl]
  refine finQ_neg ?_
  rintro ⟨h1, _⟩
  rw [List.getLast?_concat] at h1
  exact absurd h1 (by decide)
theorem laws_FnLines_j0 (l : List ByteArray) (h : linesOk 80 l = true) : Ev (fun k => laws_FnLines.j0 k l) true := by
  obtain ⟨h1, h2⟩ := linesOk_small h
  have h3 := joinL_tot l h2
  have hz : (joinL l).size = impl_joinLines.tot l := by rw [← data_length, joinL_data, cat_length]
  have hS : Sized l := ⟨by omega, fun x hx => by have := h2 x hx; omega⟩
  have hj := impl_JoinLines_ev l hS
  unfold joinR at hj
  rw [if_pos h] at hj
  have hs1 := impl_SplitText_ev (joinL l) (by omega)
  rw [split_join h] at hs1
  have hs2 := impl_SplitText_ev (joinL l ++ ⟨#[120]⟩) (by rw [size_append]; show _ + 1 ≤ _; omega)
  rw [split_joinx h] at hs2
  refine Ev.succ ?_
  simp only [laws_FnLines.j0]
  exact Ev.bnd hj (Ev.bnd hs1 (Ev.bnd hj (Ev.pos (by simp only; omega) (Ev.bnd hs2 (Ev.pos rfl (Ev.pos rfl (Ev.pos rfl (Ev.bnd (laws_sameTexts_refl l (by omega)) (Ev.pos rfl (Ev.pos rfl (Ev.now _)))))))))))
theorem FnLines : laws_FnLines.Pure := by
  intro l hl
  refine Ev.rounds (r := true) ?_
  simp only [laws_FnLines.f]
  refine Ev.bnd0 (laws_big_eq l) ?_
  by_cases hb : (decide ((l.length : Int) > 1048576)) = true
  · exact Ev.pos hb (Ev.now _)
  refine Ev.neg hb ?_
  obtain ⟨r, hr, h1, h2⟩ := spec_DrawJoinLines_ev l (by omega)
  refine Ev.bnd hr (Ev.bnd (spec_LinesOk_ev r h1) ?_)
  by_cases c : linesOk 80 r = true
  · exact Ev.pos c (laws_FnLines_j0 r c)
  · exact Ev.neg c (laws_FnLines_j0 _ (by decide +kernel))

end Go.Proofs.YtfaebcoembcfoaaDoor.Pure
