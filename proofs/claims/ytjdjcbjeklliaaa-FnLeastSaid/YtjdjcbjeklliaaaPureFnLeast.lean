/- Drawn edits that make one list of another are at least as many, of those that do not keep, as Distance; Back of Back is the edits. -/
import Derived.Test.YtjdjcbjeklliaaaPFnLeastx11
import Derived.Test.YtjdjcbjeklliaaaLcs
import Derived.Test.YtjdjcbjeklliaaaGen
namespace Go.Proofs.Ytjdjcbjeklliaaa.Pure
open Go.RowKit Go.Proofs.Ytjdjcbjeklliaaa.PFnLeast Go.Proofs.YtjdjcbjeklliaaaW.PrintWords Go.Proofs.YtjdjcbjeklliaaaW.PrintLast Go.Proofs.YtjdjcbjeklliaaaG Go.Proofs.YtjdjcbjeklliaaaL

theorem laws_big_eq (l : List Int) : laws_big.f l = some (decide ((l.length : Int) > 1048576)) := rfl
theorem spec_LineOk_ev (s : ByteArray) (hs : s.size ≤ 140737488351232) : Ev (fun k => spec_LineOk.f k s) (lineOk s) := by
  simp only [spec_LineOk.f]
  have key : ∀ (n i : Nat), i + n = s.size → Ev (fun k => spec_LineOk.l0 k s (i : Int)) (decide ((10 : Int) ∉ (bytesOf s).drop i ∧ s.size ≤ 60)) := by
    intro n
    induction n with
    | zero =>
      intro i hi
      refine Ev.succ ?_
      simp only [spec_LineOk.l0]
      refine Ev.neg (by omega) (Ev.some_ ?_)
      rw [drop_end _ _ (by rw [bytesOf_length]; omega)]
      simp
      omega
    | succ n ih =>
      intro i hi
      refine Ev.succ ?_
      simp only [spec_LineOk.l0]
      refine Ev.pos (by omega) (Ev.pos (by omega) ?_)
      rw [up1 i (by omega), drop_bt s i (by omega)]
      by_cases h : bt s (i : Int) = 10
      · exact Ev.pos h (Ev.some_ (by simp [h]))
      · refine Ev.neg h (Ev_eq (ih (i + 1) (by omega)) ?_)
        have : ((10 : Int) ∉ bt s (i : Int) :: (bytesOf s).drop (i + 1)) ↔ ((10 : Int) ∉ (bytesOf s).drop (i + 1)) := by
          rw [List.mem_cons]
          constructor
          · intro h1 h2; exact h1 (.inr h2)
          · intro h1 h2
            rcases h2 with h2 | h2
            · exact h h2.symm
            · exact h1 h2
        simp only [this]
  exact key s.size 0 (by omega)
theorem spec_l03All_ev (l : List ByteArray) (m : Int) (hl : Sized l) : Ev (fun k => spec_l03All.f k l m) (linesOk m l) := by
  simp only [spec_l03All.f]
  by_cases h : (l.length : Int) > m
  · refine Ev.pos h (Ev.some_ ?_)
    simp only [linesOk]
    rw [show decide ((l.length : Int) ≤ m) = false from by simp; omega]
    rfl
  refine Ev.neg h ?_
  have key : ∀ (n i : Nat), i + n = l.length → Ev (fun k => spec_l03All.l0 k l (i : Int)) (allOk (l.drop i)) := by
    intro n
    induction n with
    | zero =>
      intro i hi
      refine Ev.succ ?_
      simp only [spec_l03All.l0]
      refine Ev.neg (by omega) (Ev.some_ ?_)
      rw [drop_end l i (by omega)]
      rfl
    | succ n ih =>
      intro i hi
      refine Ev.succ ?_
      simp only [spec_l03All.l0]
      have hlt := hl.1
      refine Ev.pos (by omega) (Ev.pos (by omega) (Ev.bnd (spec_LineOk_ev _ (hl.2 _ (rdOf_mem _ l i (by omega)))) ?_))
      rw [up1 i (by omega), drop_rdOf ByteArray.empty l i (by omega)]
      by_cases hx : lineOk (rdOf ByteArray.empty l (i : Int)) = true
      · refine Ev.pos hx (Ev_eq (ih (i + 1) (by omega)) ?_)
        simp only [allOk, List.all_cons, hx, Bool.true_and]
      · refine Ev.neg hx (Ev.some_ ?_)
        simp only [allOk, List.all_cons, Bool.not_eq_true _ ▸ hx]
        simp
  refine Ev_eq (key l.length 0 (by omega)) ?_
  simp only [linesOk, List.drop_zero]
  rw [show decide ((l.length : Int) ≤ m) = true from by simp; omega]
  rfl
theorem impl_LineOk_eq (s : ByteArray) : impl_LineOk.f s = some (lineOk s) := by
  simp only [impl_LineOk.f]
  by_cases h : (s.size : Int) ≤ 60
  · rw [if_pos h]
    simp only [strings_Contains.f]
    rw [if_pos (by rfl)]
    simp only [Option.bind_some]
    congr 1
    have h1 := indexByte_mem 10 s.data.toList
    have h2 := byte_mem s 10
    simp only [lineOk]
    rw [← decide_not]
    congr 1
    rw [show (⟨#[10]⟩ : ByteArray).data.toList.headD 0 = (10 : UInt8) from rfl, h1, h2]
    simp only [eq_iff_iff]
    constructor
    · intro h3; exact ⟨h3, by omega⟩
    · intro h3; exact h3.1
  · rw [if_neg h]
    congr 1
    simp only [lineOk]
    symm
    rw [decide_eq_false_iff_not]
    omega
theorem impl_areLines_ev (l : List ByteArray) (hl : l.length ≤ 140737488351232) : Ev (fun k => impl_areLines.f k l) (allOk l) := by
  simp only [impl_areLines.f]
  have key : ∀ (n i : Nat), i + n = l.length → Ev (fun k => impl_areLines.l0 k l (l.length : Int) (i : Int)) (allOk (l.drop i)) := by
    intro n
    induction n with
    | zero =>
      intro i hi
      refine Ev.succ ?_
      simp only [impl_areLines.l0]
      refine Ev.neg (by omega) (Ev.some_ ?_)
      rw [drop_end l i (by omega)]
      rfl
    | succ n ih =>
      intro i hi
      refine Ev.succ ?_
      simp only [impl_areLines.l0]
      refine Ev.pos (by omega) (Ev.pos (by omega) (Ev.pos (by omega) (Ev.bnd0 (impl_LineOk_eq _) ?_)))
      rw [up1 i (by omega), drop_rdOf ByteArray.empty l i (by omega)]
      by_cases hx : lineOk (rdOf ByteArray.empty l (i : Int)) = true
      · refine Ev.pos hx (Ev_eq (ih (i + 1) (by omega)) ?_)
        simp only [allOk, List.all_cons, hx, Bool.true_and]
      · refine Ev.neg hx (Ev.some_ ?_)
        simp only [allOk, List.all_cons]
        simp [Bool.eq_false_iff.2 hx]
  exact key l.length 0 (by omega)
theorem spec_l04Ok_ev (l : List ByteArray) (hl : Sized l) : Ev (fun k => spec_l04Ok.f k l) (linesOk 300 l) := by
  simp only [spec_l04Ok.f]
  exact Ev.bnd (spec_l03All_ev l 300 hl) (Ev.now _)
theorem impl_canAlign_ev (l : List ByteArray) (hl : Sized l) : Ev (fun k => impl_canAlign.f k l) (linesOk 300 l) := by
  simp only [impl_canAlign.f]
  by_cases h : (l.length : Int) ≤ 300
  · exact Ev.pos h (Ev.bnd (impl_areLines_ev l hl.1) (Ev.some_ (by simp [linesOk, h])))
  · exact Ev.neg h (Ev.some_ (by simp [linesOk, h]))
theorem linesOk_len {m : Int} {l : List ByteArray} (h : linesOk m l = true) : (l.length : Int) ≤ m := by
  simp only [linesOk, Bool.and_eq_true, decide_eq_true_eq] at h
  exact h.1
/-! the table of the longest common parts -/
def TT (a b : List ByteArray) (i j : Nat) : Nat := lcs (a.drop i) (b.drop j)
theorem TT_right (a b : List ByteArray) (i : Nat) : TT a b i b.length = 0 := by
  unfold TT
  rw [List.drop_length, lcs_nil_right]
theorem TT_left (a b : List ByteArray) (j : Nat) : TT a b a.length j = 0 := by
  unfold TT
  rw [List.drop_length, lcs_nil_left]
theorem TT_step (a b : List ByteArray) (i j : Nat) (hi : i < a.length) (hj : j < b.length) : TT a b i j = if a[i] = b[j] then TT a b (i + 1) (j + 1) + 1 else max (TT a b (i + 1) j) (TT a b i (j + 1)) := by
  have ha : a.drop i = a[i] :: a.drop (i + 1) := List.drop_eq_getElem_cons hi
  have hb : b.drop j = b[j] :: b.drop (j + 1) := List.drop_eq_getElem_cons hj
  unfold TT
  rw [ha, hb, lcs_cons]
theorem TT_le (a b : List ByteArray) (i j : Nat) : TT a b i j ≤ a.length := by
  have := lcs_le_left (a.drop i) (b.drop j)
  rw [List.length_drop] at this
  unfold TT
  omega
theorem rdT_nat (x : List (List Int)) (i : Nat) : rd_L3 x (i : Int) = x.getD i [] := by
  simp [rd_L3]
theorem rd_getD (r : List Int) (j : Nat) : rd r (j : Int) = r.getD j 0 := by simp [rd]
/-- Row i of a table is right from column j on. -/
def rowOk (a b : List ByteArray) (x : List (List Int)) (i j : Nat) : Prop := (x.getD i []).length = b.length + 1 ∧ ∀ k, j ≤ k → k ≤ b.length → (x.getD i []).getD k 0 = (TT a b i k : Int)
/-- A table is right from row i on. -/
def tabOk (a b : List ByteArray) (x : List (List Int)) (i : Nat) : Prop := x.length = a.length + 1 ∧ ∀ k, i ≤ k → k ≤ a.length → rowOk a b x k 0
theorem getD_set_ne' (x : List (List Int)) (i k : Nat) (r : List Int) (h : k ≠ i) : (x.set i r).getD k [] = x.getD k [] := by
  simp [List.getD, List.getElem?_set_ne (Ne.symm h)]
theorem getD_set_eq' (x : List (List Int)) (i : Nat) (r : List Int) (h : i < x.length) : (x.set i r).getD i [] = r := by
  simp [List.getD, List.getElem?_set_self h]
theorem rowOk_other {a b : List ByteArray} {x : List (List Int)} {i k j : Nat} {r : List Int} (h : k ≠ i) (hr : rowOk a b x k j) : rowOk a b (x.set i r) k j := by
  unfold rowOk at *
  rw [getD_set_ne' x i k r h]
  exact hr
theorem rowOk_put {a b : List ByteArray} {x : List (List Int)} {i j : Nat} {v : Int} (hx : i < x.length) (h : rowOk a b x i (j + 1)) (hj : j ≤ b.length) (hv : v = (TT a b i j : Int)) : rowOk a b (x.set i ((x.getD i []).set j v)) i j := by
  unfold rowOk at *
  rw [getD_set_eq' x i _ hx]
  generalize x.getD i [] = row at h ⊢
  refine ⟨by rw [List.length_set]; exact h.1, fun k hk hk2 => ?_⟩
  by_cases e : k = j
  · subst e
    simp only [List.getD, List.getElem?_set_self (show k < row.length by omega), hv, Option.getD_some]
  · have := h.2 k (by omega) hk2
    simp only [List.getD] at this ⊢
    rw [List.getElem?_set_ne (Ne.symm e)]
    exact this
theorem tabOk_row {a b : List ByteArray} {x : List (List Int)} {i : Nat} (h : tabOk a b x (i + 1)) (hr : rowOk a b x i 0) : tabOk a b x i :=
  ⟨h.1, fun k hk hk2 => by
    by_cases e : k = i
    · subst e; exact hr
    · exact h.2 k (by omega) hk2⟩
theorem tabOk_put {a b : List ByteArray} {x : List (List Int)} {i j : Nat} {r : List Int} (h : tabOk a b x j) (hij : i < j) : tabOk a b (x.set i r) j :=
  ⟨by rw [List.length_set]; exact h.1, fun k hk hk2 => rowOk_other (by omega) (h.2 k hk hk2)⟩
theorem zeroRow {a b : List ByteArray} {x : List (List Int)} {i : Nat} (h : x.getD i [] = List.replicate (b.length + 1) 0) (hT : TT a b i b.length = 0) : rowOk a b x i b.length := by
  unfold rowOk
  rw [h]
  refine ⟨by simp, fun k hk hk2 => ?_⟩
  have : k = b.length := by omega
  subst this
  rw [hT]
  simp [List.getD]
theorem mxI (p q : Nat) : ((max p q : Nat) : Int) = if (p : Int) < (q : Int) then (q : Int) else (p : Int) := by
  split <;> omega
section
variable (a b : List ByteArray) (ha : a.length ≤ 1000000) (hb : b.length ≤ 1000000)
include ha hb
theorem spec_l04Table_l1 (i : Nat) (hi : i ≤ a.length) (Q : List (List Int) → Prop) (hQ : ∀ y, tabOk a b y i → ∃ r, Ev (fun k => spec_l04Table.l0 k a b y ((i : Int) - 1)) r ∧ Q r) :
    ∀ (j : Nat) (x : List (List Int)), j ≤ b.length → tabOk a b x (i + 1) → x.length = a.length + 1 → rowOk a b x i (if i < a.length then j else 0) → ∃ r, Ev (fun k => spec_l04Table.l1 k a b x (i : Int) ((j : Int) - 1)) r ∧ Q r := by
  intro j
  induction j with
  | zero =>
    intro x hj ht hxl hr
    have hr0 : rowOk a b x i 0 := by
      split at hr <;> exact hr
    obtain ⟨r, hev, hq⟩ := hQ x (tabOk_row ht hr0)
    refine ⟨r, Ev.succ ?_, hq⟩
    simp only [spec_l04Table.l1]
    refine Ev.neg (by omega) (Ev.succ ?_)
    simp only [spec_l04Table.j2]
    rw [show wrap64 ((i : Int) - 1) = (i : Int) - 1 from w64 (by omega) (by omega)]
    exact Ev.neg (by simp) hev
  | succ j ih =>
    intro x hj ht hxl hr
    by_cases hia : i < a.length
    · rw [if_pos hia] at hr
      have hr1 := ht.2 (i + 1) (by omega) (by omega)
      have hl0 : (rd_L3 x (i : Int)).length = b.length + 1 := by rw [rdT_nat]; exact hr.1
      have hl1 : (rd_L3 x ((i + 1 : Nat) : Int)).length = b.length + 1 := by rw [rdT_nat]; exact hr1.1
      have v1 : rd (rd_L3 x ((i + 1 : Nat) : Int)) (j : Int) = (TT a b (i + 1) j : Int) := by rw [rdT_nat, rd_getD]; exact hr1.2 j (by omega) (by omega)
      have v2 : rd (rd_L3 x ((i + 1 : Nat) : Int)) ((j + 1 : Nat) : Int) = (TT a b (i + 1) (j + 1) : Int) := by rw [rdT_nat, rd_getD]; exact hr1.2 (j + 1) (by omega) (by omega)
      have v3 : rd (rd_L3 x (i : Int)) ((j + 1 : Nat) : Int) = (TT a b i (j + 1) : Int) := by rw [rdT_nat, rd_getD]; exact hr.2 (j + 1) (by omega) (by omega)
      have hst := TT_step a b i j hia (by omega)
      have hle := TT_le a b (i + 1) (j + 1)
      have sa : rdOf ByteArray.empty a (i : Int) = a[i] := rdOf_nat _ _ _ hia
      have sb : rdOf ByteArray.empty b (j : Int) = b[j]'(by omega) := rdOf_nat _ _ _ (by omega)
      have e1 : (((j + 1 : Nat) : Int) - 1) = (j : Int) := by omega
      rw [e1]
      have next : ∀ v : Int, v = (TT a b i j : Int) → ∃ r, Ev (fun k => spec_l04Table.l1 k a b (x.set i ((rd_L3 x (i : Int)).set j v)) (i : Int) ((j : Int) - 1)) r ∧ Q r := by
        intro v hv
        rw [rdT_nat]
        refine ih _ (by omega) (tabOk_put ht (by omega)) (by rw [List.length_set]; exact hxl) ?_
        rw [if_pos hia]
        exact rowOk_put (by omega) hr (by omega) hv
      have main : ∀ v : Int, v = (TT a b i j : Int) → (∀ r, Ev (fun k => spec_l04Table.l1 k a b (x.set i ((rd_L3 x (i : Int)).set j v)) (i : Int) ((j : Int) - 1)) r → Ev (fun k => spec_l04Table.j2 k a b x (i : Int) (j : Int) true) r) → ∃ r, Ev (fun k => spec_l04Table.l1 k a b x (i : Int) (j : Int)) r ∧ Q r := by
        intro v hv hm
        obtain ⟨r, hev, hq⟩ := next v hv
        refine ⟨r, Ev.succ ?_, hq⟩
        simp only [spec_l04Table.l1]
        refine Ev.pos (by omega) ?_
        rw [show decide ((i : Int) < (a.length : Int)) = true from by simp; omega]
        exact hm r hev
      by_cases he : a[i] = b[j]'(by omega)
      · rw [if_pos he] at hst
        refine main (TT a b (i + 1) (j + 1) + 1 : Int) (by rw [hst]; omega) (fun r hev => Ev.succ ?_)
        simp only [spec_l04Table.j2]
        rw [up1 i (by omega), up1 j (by omega), v1, v2, v3, sa, sb]
        rw [show wrap64 ((TT a b (i + 1) (j + 1) : Int) + 1) = (TT a b (i + 1) (j + 1) : Int) + 1 from w64 (by omega) (by omega), show wrap64 ((j : Int) - 1) = (j : Int) - 1 from w64 (by omega) (by omega), Int.toNat_natCast, Int.toNat_natCast]
        refine Ev.pos trivial (Ev.pos (by omega) (Ev.pos (by omega) (Ev.pos (by omega) (Ev.pos (by omega) (Ev.pos (by omega) (Ev.pos (by omega) (Ev.pos (by omega) (Ev.pos (by omega) ?_))))))))
        by_cases hgt : (TT a b i (j + 1) : Int) > (TT a b (i + 1) j : Int)
        · exact Ev.pos hgt (Ev.pos (by omega) (Ev.pos (by omega) (Ev.pos ((toList_iff _ _).2 he) (Ev.pos (by omega) (Ev.pos (by omega) hev)))))
        · exact Ev.neg hgt (Ev.pos (by omega) (Ev.pos (by omega) (Ev.pos ((toList_iff _ _).2 he) (Ev.pos (by omega) (Ev.pos (by omega) hev)))))
      · rw [if_neg he] at hst
        by_cases hgt : (TT a b i (j + 1) : Int) > (TT a b (i + 1) j : Int)
        · refine main (TT a b i (j + 1) : Int) (by rw [hst]; omega) (fun r hev => Ev.succ ?_)
          simp only [spec_l04Table.j2]
          rw [up1 i (by omega), up1 j (by omega), v1, v3, sa, sb]
          rw [show wrap64 ((j : Int) - 1) = (j : Int) - 1 from w64 (by omega) (by omega), Int.toNat_natCast, Int.toNat_natCast]
          exact Ev.pos trivial (Ev.pos (by omega) (Ev.pos (by omega) (Ev.pos (by omega) (Ev.pos (by omega) (Ev.pos (by omega) (Ev.pos (by omega) (Ev.pos (by omega) (Ev.pos (by omega) (Ev.pos hgt (Ev.pos (by omega) (Ev.pos (by omega) (Ev.neg (fun h => he ((toList_iff _ _).1 h)) (Ev.pos (by omega) hev)))))))))))))
        · refine main (TT a b (i + 1) j : Int) (by rw [hst]; omega) (fun r hev => Ev.succ ?_)
          simp only [spec_l04Table.j2]
          rw [up1 i (by omega), up1 j (by omega), v1, v3, sa, sb]
          rw [show wrap64 ((j : Int) - 1) = (j : Int) - 1 from w64 (by omega) (by omega), Int.toNat_natCast, Int.toNat_natCast]
          exact Ev.pos trivial (Ev.pos (by omega) (Ev.pos (by omega) (Ev.pos (by omega) (Ev.pos (by omega) (Ev.pos (by omega) (Ev.pos (by omega) (Ev.pos (by omega) (Ev.pos (by omega) (Ev.neg hgt (Ev.pos (by omega) (Ev.pos (by omega) (Ev.neg (fun h => he ((toList_iff _ _).1 h)) (Ev.pos (by omega) hev)))))))))))))
    · rw [if_neg hia] at hr
      obtain ⟨r, hev, hq⟩ := hQ x (tabOk_row ht hr)
      refine ⟨r, Ev.succ ?_, hq⟩
      simp only [spec_l04Table.l1]
      refine Ev.pos (by omega) ?_
      rw [show decide ((i : Int) < (a.length : Int)) = false from by simp; omega]
      refine Ev.succ ?_
      simp only [spec_l04Table.j2]
      rw [show wrap64 ((i : Int) - 1) = (i : Int) - 1 from w64 (by omega) (by omega)]
      exact Ev.neg (by simp) hev
theorem spec_l04Table_l0 : ∀ (i : Nat) (x : List (List Int)), i ≤ a.length + 1 → tabOk a b x i → ∃ r, Ev (fun k => spec_l04Table.l0 k a b x ((i : Int) - 1)) r ∧ tabOk a b r 0 := by
  intro i
  induction i with
  | zero =>
    intro x hi ht
    refine ⟨x, Ev.succ ?_, ht⟩
    simp only [spec_l04Table.l0]
    exact Ev.neg (by omega) (Ev.now _)
  | succ i ih =>
    intro x hi ht
    have e1 : (((i + 1 : Nat) : Int) - 1) = (i : Int) := by omega
    rw [e1]
    have hxl := ht.1
    have hz : (x.set i (List.replicate (b.length + 1) 0)).getD i [] = List.replicate (b.length + 1) 0 := getD_set_eq' x i _ (by omega)
    obtain ⟨r, hev, hq⟩ := spec_l04Table_l1 a b ha hb i (by omega) _ (fun y hy => ih y (by omega) hy) b.length (x.set i (List.replicate (b.length + 1) 0)) (Nat.le_refl _) (tabOk_put ht (by omega)) (by rw [List.length_set]; exact hxl) (by
      have h1 := zeroRow (a := a) (i := i) hz (TT_right a b i)
      by_cases hia : i < a.length
      · rw [if_pos hia]; exact h1
      · rw [if_neg hia]
        have : i = a.length := by omega
        subst this
        refine ⟨h1.1, fun k _ hk => ?_⟩
        rw [hz, TT_left]
        simp only [List.getD, List.getElem?_replicate]
        split <;> rfl)
    refine ⟨r, Ev.succ ?_, hq⟩
    simp only [spec_l04Table.l0]
    rw [show wrap64 ((b.length : Int) + 1) = ((b.length + 1 : Nat) : Int) from up1 _ (by omega), show wrap64 ((b.length : Int) - 1) = (b.length : Int) - 1 from w64 (by omega) (by omega), Int.toNat_natCast, Int.toNat_natCast]
    exact Ev.pos (by omega) (Ev.pos (by omega) (Ev.pos (by omega) (Ev.pos (by omega) (Ev.pos (by omega) hev))))
theorem spec_l04Table_ev : ∃ x, Ev (fun k => spec_l04Table.f k a b) x ∧ tabOk a b x 0 := by
  obtain ⟨r, hev, hq⟩ := spec_l04Table_l0 a b ha hb (a.length + 1) (List.replicate (a.length + 1) []) (Nat.le_refl _) ⟨by simp, fun k h1 h2 => absurd h1 (by omega)⟩
  refine ⟨r, ?_, hq⟩
  simp only [spec_l04Table.f]
  rw [show wrap64 ((a.length : Int) + 1) = ((a.length + 1 : Nat) : Int) from up1 _ (by omega), Int.toNat_natCast]
  refine Ev.pos (by omega) (Ev.pos (by omega) ?_)
  have e1 : (((a.length + 1 : Nat) : Int) - 1) = (a.length : Int) := by omega
  rw [e1] at hev
  exact hev
end
theorem mx_max (p q : Nat) : mx (p : Int) (q : Int) = ((max p q : Nat) : Int) := by
  unfold mx
  split <;> omega
section
variable (a b : List ByteArray) (ha : a.length ≤ 1000000) (hb : b.length ≤ 1000000)
include ha hb
theorem impl_commonFrom_l2 (i : Nat) (hi : i < a.length) (Q : List (List Int) → Prop) (hQ : ∀ y, tabOk a b y i → (∀ k, k < i → y.getD k [] = List.replicate (b.length + 1) 0) → ∃ r, Ev (fun k => impl_commonFrom.l1 k a b y ((i : Int) - 1)) r ∧ Q r) :
    ∀ (j : Nat) (x : List (List Int)), j ≤ b.length → tabOk a b x (i + 1) → (∀ k, k < i → x.getD k [] = List.replicate (b.length + 1) 0) → rowOk a b x i j → ∃ r, Ev (fun k => impl_commonFrom.l2 k a b x (i : Int) ((j : Int) - 1)) r ∧ Q r := by
  intro j
  induction j with
  | zero =>
    intro x hj ht hz hr
    obtain ⟨r, hev, hq⟩ := hQ x (tabOk_row ht hr) hz
    refine ⟨r, Ev.succ ?_, hq⟩
    simp only [impl_commonFrom.l2]
    rw [show wrap64 ((i : Int) - 1) = (i : Int) - 1 from w64 (by omega) (by omega)]
    exact Ev.neg (by omega) hev
  | succ j ih =>
    intro x hj ht hz hr
    have hxl := ht.1
    have hr1 := ht.2 (i + 1) (by omega) (by omega)
    have hl0 : (rd_L3 x (i : Int)).length = b.length + 1 := by rw [rdT_nat]; exact hr.1
    have hl1 : (rd_L3 x ((i + 1 : Nat) : Int)).length = b.length + 1 := by rw [rdT_nat]; exact hr1.1
    have v1 : rd (rd_L3 x ((i + 1 : Nat) : Int)) (j : Int) = (TT a b (i + 1) j : Int) := by rw [rdT_nat, rd_getD]; exact hr1.2 j (by omega) (by omega)
    have v2 : rd (rd_L3 x ((i + 1 : Nat) : Int)) ((j + 1 : Nat) : Int) = (TT a b (i + 1) (j + 1) : Int) := by rw [rdT_nat, rd_getD]; exact hr1.2 (j + 1) (by omega) (by omega)
    have v3 : rd (rd_L3 x (i : Int)) ((j + 1 : Nat) : Int) = (TT a b i (j + 1) : Int) := by rw [rdT_nat, rd_getD]; exact hr.2 (j + 1) (by omega) (by omega)
    have hst := TT_step a b i j hi (by omega)
    have hle := TT_le a b (i + 1) (j + 1)
    have sa : rdOf ByteArray.empty a (i : Int) = a[i] := rdOf_nat _ _ _ hi
    have sb : rdOf ByteArray.empty b (j : Int) = b[j]'(by omega) := rdOf_nat _ _ _ (by omega)
    have e1 : (((j + 1 : Nat) : Int) - 1) = (j : Int) := by omega
    rw [e1]
    have next : ∀ v : Int, v = (TT a b i j : Int) → ∃ r, Ev (fun k => impl_commonFrom.l2 k a b (x.set i ((rd_L3 x (i : Int)).set j v)) (i : Int) ((j : Int) - 1)) r ∧ Q r := by
      intro v hv
      rw [rdT_nat]
      exact ih _ (by omega) (tabOk_put ht (by omega)) (fun k hk => by rw [getD_set_ne' x i k _ (by omega)]; exact hz k hk) (rowOk_put (by omega) hr (by omega) hv)
    by_cases he : a[i] = b[j]'(by omega)
    · rw [if_pos he] at hst
      obtain ⟨r, hev, hq⟩ := next (TT a b (i + 1) (j + 1) + 1 : Int) (by rw [hst]; omega)
      refine ⟨r, Ev.succ ?_, hq⟩
      simp only [impl_commonFrom.l2]
      rw [up1 i (by omega), up1 j (by omega), v2, sa, sb]
      rw [show wrap64 ((TT a b (i + 1) (j + 1) : Int) + 1) = (TT a b (i + 1) (j + 1) : Int) + 1 from w64 (by omega) (by omega), show wrap64 ((j : Int) - 1) = (j : Int) - 1 from w64 (by omega) (by omega), Int.toNat_natCast, Int.toNat_natCast]
      exact Ev.pos (by omega) (Ev.pos (by omega) (Ev.pos (by omega) (Ev.pos (by omega) (Ev.pos (by omega) (Ev.pos ((toList_iff _ _).2 he) (Ev.pos (by omega) (Ev.pos (by omega) (Ev.pos (by omega) (Ev.pos (by omega) (Ev.pos (by omega) (Ev.pos (by omega) hev)))))))))))
    · rw [if_neg he] at hst
      obtain ⟨r, hev, hq⟩ := next ((max (TT a b (i + 1) j) (TT a b i (j + 1)) : Nat) : Int) (by rw [hst])
      refine ⟨r, Ev.succ ?_, hq⟩
      simp only [impl_commonFrom.l2]
      rw [up1 i (by omega), up1 j (by omega), v1, v3, sa, sb, mx_max]
      rw [show wrap64 ((j : Int) - 1) = (j : Int) - 1 from w64 (by omega) (by omega), Int.toNat_natCast, Int.toNat_natCast]
      exact Ev.pos (by omega) (Ev.pos (by omega) (Ev.pos (by omega) (Ev.pos (by omega) (Ev.pos (by omega) (Ev.neg (fun h => he ((toList_iff _ _).1 h)) (Ev.pos (by omega) (Ev.pos (by omega) (Ev.pos (by omega) (Ev.pos (by omega) (Ev.pos (by omega) (Ev.pos (by omega) (Ev.pos (by omega) hev))))))))))))
theorem impl_commonFrom_l1 : ∀ (i : Nat) (x : List (List Int)), i ≤ a.length → tabOk a b x i → (∀ k, k < i → x.getD k [] = List.replicate (b.length + 1) 0) → ∃ r, Ev (fun k => impl_commonFrom.l1 k a b x ((i : Int) - 1)) r ∧ tabOk a b r 0 := by
  intro i
  induction i with
  | zero =>
    intro x hi ht hz
    refine ⟨x, Ev.succ ?_, ht⟩
    simp only [impl_commonFrom.l1]
    exact Ev.neg (by omega) (Ev.now _)
  | succ i ih =>
    intro x hi ht hz
    have e1 : (((i + 1 : Nat) : Int) - 1) = (i : Int) := by omega
    rw [e1]
    obtain ⟨r, hev, hq⟩ := impl_commonFrom_l2 a b ha hb i (by omega) _ (fun y hy hy2 => ih y (by omega) hy hy2) b.length x (Nat.le_refl _) ht (fun k hk => hz k (by omega)) (zeroRow (hz i (by omega)) (TT_right a b i))
    refine ⟨r, Ev.succ ?_, hq⟩
    simp only [impl_commonFrom.l1]
    refine Ev.pos (by omega) ?_
    rw [show wrap64 ((b.length : Int) - 1) = (b.length : Int) - 1 from w64 (by omega) (by omega)]
    exact hev
theorem impl_commonFrom_ev : ∃ x, Ev (fun k => impl_commonFrom.f k a b) x ∧ tabOk a b x 0 := by
  have key : ∀ (n i : Nat) (x : List (List Int)), i + n = a.length + 1 → x.length = a.length + 1 → (∀ k, k < i → x.getD k [] = List.replicate (b.length + 1) 0) → ∃ r, Ev (fun k => impl_commonFrom.l0 k a b x ((a.length + 1 : Nat) : Int) (i : Int)) r ∧ tabOk a b r 0 := by
    intro n
    induction n with
    | zero =>
      intro i x hi hl hz
      obtain ⟨r, hev, hq⟩ := impl_commonFrom_l1 a b ha hb a.length x (Nat.le_refl _) ⟨hl, fun k h1 h2 => by
        have : k = a.length := by omega
        subst this
        unfold rowOk
        rw [hz a.length (by omega)]
        refine ⟨by simp, fun k _ hk => ?_⟩
        rw [TT_left]
        simp only [List.getD, List.getElem?_replicate]
        split <;> rfl⟩ (fun k hk => hz k (by omega))
      refine ⟨r, Ev.succ ?_, hq⟩
      simp only [impl_commonFrom.l0]
      refine Ev.neg (by omega) ?_
      rw [show wrap64 ((a.length : Int) - 1) = (a.length : Int) - 1 from w64 (by omega) (by omega)]
      exact hev
    | succ n ih =>
      intro i x hi hl hz
      obtain ⟨r, hev, hq⟩ := ih (i + 1) (x.set i (List.replicate (b.length + 1) 0)) (by omega) (by rw [List.length_set]; exact hl) (fun k hk => by
        by_cases e : k = i
        · subst e; exact getD_set_eq' x k _ (by omega)
        · rw [getD_set_ne' x i k _ e]; exact hz k (by omega))
      refine ⟨r, Ev.succ ?_, hq⟩
      simp only [impl_commonFrom.l0]
      rw [show wrap64 ((b.length : Int) + 1) = ((b.length + 1 : Nat) : Int) from up1 _ (by omega), up1 i (by omega), Int.toNat_natCast, Int.toNat_natCast]
      exact Ev.pos (by omega) (Ev.pos (by omega) (Ev.pos (by omega) (Ev.pos (by omega) (Ev.pos (by omega) hev))))
  obtain ⟨r, hev, hq⟩ := key (a.length + 1) 0 (List.replicate (a.length + 1) []) (by omega) (by simp) (fun k hk => absurd hk (by omega))
  refine ⟨r, ?_, hq⟩
  simp only [impl_commonFrom.f]
  rw [show wrap64 ((a.length : Int) + 1) = ((a.length + 1 : Nat) : Int) from up1 _ (by omega), Int.toNat_natCast]
  refine Ev.pos (by omega) (Ev.pos (by omega) (Ev.bnd0 rfl ?_))
  rw [List.length_replicate]
  exact hev
end
theorem tab_at {a b : List ByteArray} {x : List (List Int)} (h : tabOk a b x 0) (i j : Nat) (hi : i ≤ a.length) (hj : j ≤ b.length) : rd (rd_L3 x (i : Int)) (j : Int) = (TT a b i j : Int) := by
  rw [rdT_nat, rd_getD]
  exact (h.2 i (Nat.zero_le _) hi).2 j (Nat.zero_le _) hj
theorem tab_len {a b : List ByteArray} {x : List (List Int)} (h : tabOk a b x 0) (i : Nat) (hi : i ≤ a.length) : (rd_L3 x (i : Int)).length = b.length + 1 := by
  rw [rdT_nat]
  exact (h.2 i (Nat.zero_le _) hi).1
/-- Of each of b its place in a; none where a list cannot be aligned. -/
def alignL (a b : List ByteArray) : List Int := if linesOk 300 a = true ∧ linesOk 300 b = true then pairs 0 a b else []
theorem alignL_length (a b : List ByteArray) : (alignL a b).length ≤ b.length := by
  unfold alignL
  split
  · rw [pairs_length]; exact Nat.le_refl _
  · exact Nat.zero_le _
theorem toList_ne {a b : ByteArray} (h : ¬ a = b) : ¬ a.toList = b.toList := fun e => h ((toList_iff _ _).1 e)
theorem drop_cons' {α : Type} (l : List α) (i : Nat) (h : i < l.length) : l.drop i = l[i] :: l.drop (i + 1) := List.drop_eq_getElem_cons h
/-! edits: kinds and lines -/
def edGo : List (Int × ByteArray) → Int → Int → Bool
  | [], n, m => decide (n ≤ 300) && decide (m ≤ 300)
  | (k, s) :: l, n, m => if 1 ≤ k ∧ k ≤ 3 ∧ lineOk s = true then edGo l (if k = 3 then n else n + 1) (if k = 2 then m else m + 1) else false
def editsOk (l : List (Int × ByteArray)) : Bool := edGo l 0 0
def pr (e : S31) : Int × ByteArray := (e.f0, e.f1)
theorem rdE_nat (l : List S31) (i : Nat) (h : i < l.length) : rd_T31 l (i : Int) = l[i] := by
  simp [rd_T31, List.getD, List.getElem?_eq_getElem h]
/-- The edits that turn a into b. -/
def edits : List ByteArray → List ByteArray → List S31
  | [], [] => []
  | [], y :: b => ⟨3, y⟩ :: edits [] b
  | x :: a, [] => ⟨2, x⟩ :: edits a []
  | x :: a, y :: b => if x = y then ⟨1, x⟩ :: edits a b else if lcs a (y :: b) ≥ lcs (x :: a) b then ⟨2, x⟩ :: edits a (y :: b) else ⟨3, y⟩ :: edits (x :: a) b
termination_by a b => a.length + b.length
theorem edits_nil : edits [] [] = [] := by rw [edits]
theorem edits_right (y : ByteArray) (b : List ByteArray) : edits [] (y :: b) = ⟨3, y⟩ :: edits [] b := by rw [edits]
theorem edits_left (x : ByteArray) (a : List ByteArray) : edits (x :: a) [] = ⟨2, x⟩ :: edits a [] := by rw [edits]
theorem edits_cons (x y : ByteArray) (a b : List ByteArray) : edits (x :: a) (y :: b) = if x = y then ⟨1, x⟩ :: edits a b else if lcs a (y :: b) ≥ lcs (x :: a) b then ⟨2, x⟩ :: edits a (y :: b) else ⟨3, y⟩ :: edits (x :: a) b := by rw [edits]
theorem edits_length : ∀ (a b : List ByteArray), (edits a b).length ≤ a.length + b.length
  | [], [] => by simp [edits_nil]
  | [], y :: b => by
    have := edits_length [] b
    rw [edits_right]; simp at *; omega
  | x :: a, [] => by
    have := edits_length a []
    rw [edits_left]; simp at *; omega
  | x :: a, y :: b => by
    have h1 := edits_length a b
    have h2 := edits_length a (y :: b)
    have h3 := edits_length (x :: a) b
    rw [edits_cons]
    simp only [List.length_cons] at *
    split
    · simp only [List.length_cons]; omega
    · split <;> (simp only [List.length_cons]; omega)
termination_by a b => a.length + b.length
def editsL (a b : List ByteArray) : List S31 := if linesOk 300 a = true ∧ linesOk 300 b = true then edits a b else []
theorem editsL_length (a b : List ByteArray) : (editsL a b).length ≤ a.length + b.length := by
  unfold editsL
  split
  · exact edits_length a b
  · exact Nat.zero_le _
section
variable (a b : List ByteArray) (t : List (List Int)) (ht : tabOk a b t 0) (ha : a.length ≤ 1000000) (hb : b.length ≤ 1000000)
include ht ha hb
theorem spec_EditsOf_l0 : ∀ (n i j : Nat) (acc : List S31), i ≤ a.length → j ≤ b.length → (a.length - i) + (b.length - j) ≤ n → acc.length ≤ i + j → Ev (fun k => spec_EditsOf.l0 k a b acc t (i : Int) (j : Int)) (acc ++ edits (a.drop i) (b.drop j)) := by
  intro n
  induction n with
  | zero =>
    intro i j acc hi hj hn hl
    have e1 : i = a.length := by omega
    have e2 : j = b.length := by omega
    subst e1; subst e2
    refine Ev.succ ?_
    simp only [spec_EditsOf.l0]
    refine Ev.neg (by omega) (Ev.succ ?_)
    simp only [spec_EditsOf.j2]
    exact Ev.neg (by simp) (Ev.some_ (by rw [List.drop_length, List.drop_length, edits_nil, List.append_nil]))
  | succ n ih =>
    intro i j acc hi hj hn hl
    have snoc : ∀ (e : S31) (r : List S31), (acc ++ [e]) ++ r = acc ++ e :: r := by
      intro e r; rw [List.append_assoc, List.singleton_append]
    have hsz : ∀ e : S31, (acc ++ [e]).length = acc.length + 1 := by intro e; simp
    refine Ev.succ ?_
    simp only [spec_EditsOf.l0]
    by_cases hia : i < a.length
    · refine Ev.pos (by omega) (Ev.succ ?_)
      simp only [spec_EditsOf.j2]
      by_cases hjb : j < b.length
      · refine Ev.pos (by first | rfl | trivial) (Ev.pos (by omega) (Ev.pos (by omega) (Ev.pos (by omega) (Ev.pos (by omega) (Ev.succ ?_)))))
        simp only [spec_EditsOf.j3]
        have hl0 := tab_len ht i (by omega)
        have hl1 := tab_len ht (i + 1) (by omega)
        have v1 := tab_at ht (i + 1) j (by omega) (by omega)
        have v2 := tab_at ht i (j + 1) (by omega) (by omega)
        have hxl := ht.1
        rw [up1 i (by omega), up1 j (by omega), v1, v2, rdOf_nat _ _ _ hia, rdOf_nat _ _ _ hjb]
        rw [drop_cons' a i hia, drop_cons' b j hjb, edits_cons]
        by_cases he : a[i] = b[j]
        · rw [if_pos he]
          refine Ev.pos (beq_iff_eq.2 ((toList_iff _ _).2 he)) (Ev.pos (by omega) (Ev.pos (by omega) (Ev.pos (by omega) ?_)))
          have := ih (i + 1) (j + 1) (acc ++ [⟨1, a[i]⟩]) (by omega) (by omega) (by omega) (by rw [hsz]; omega)
          rw [snoc] at this
          exact this
        · rw [if_neg he]
          refine Ev.neg (fun h => he ((toList_iff _ _).1 (beq_iff_eq.1 h))) (Ev.neg (by omega) (Ev.pos (by omega) (Ev.pos (by omega) (Ev.pos (by omega) (Ev.pos (by omega) (Ev.pos (by omega) (Ev.pos (by omega) (Ev.pos (by omega) (Ev.pos (by omega) (Ev.pos (by omega) ?_))))))))))
          have c1 : TT a b (i + 1) j = lcs (a.drop (i + 1)) (b[j] :: b.drop (j + 1)) := by rw [TT, drop_cons' b j hjb]
          have c2 : TT a b i (j + 1) = lcs (a[i] :: a.drop (i + 1)) (b.drop (j + 1)) := by rw [TT, drop_cons' a i hia]
          rw [← c1, ← c2]
          by_cases hge : TT a b (i + 1) j ≥ TT a b i (j + 1)
          · rw [if_pos hge]
            refine Ev.pos (by omega) (Ev.pos (by omega) ?_)
            have := ih (i + 1) j (acc ++ [⟨2, a[i]⟩]) (by omega) (by omega) (by omega) (by rw [hsz]; omega)
            rw [snoc, drop_cons' b j hjb] at this
            exact this
          · rw [if_neg hge]
            refine Ev.neg (by omega) (Ev.pos (by omega) (Ev.pos (by omega) ?_))
            have := ih i (j + 1) (acc ++ [⟨3, b[j]⟩]) (by omega) (by omega) (by omega) (by rw [hsz]; omega)
            rw [snoc, drop_cons' a i hia] at this
            exact this
      · have e2 : j = b.length := by omega
        subst e2
        refine Ev.pos (by first | rfl | trivial) (Ev.pos (by omega) (Ev.neg (by omega) (Ev.succ ?_)))
        simp only [spec_EditsOf.j3]
        rw [up1 i (by omega), rdOf_nat _ _ _ hia, drop_cons' a i hia, List.drop_length, edits_left]
        refine Ev.neg (by simp) (Ev.pos (by first | rfl | trivial) (Ev.pos (by omega) (Ev.pos (by omega) (Ev.pos (by omega) ?_))))
        have := ih (i + 1) b.length (acc ++ [⟨2, a[i]⟩]) (by omega) (by omega) (by omega) (by rw [hsz]; omega)
        rw [snoc, List.drop_length] at this
        exact this
    · have e1 : i = a.length := by omega
      subst e1
      refine Ev.neg (by omega) ?_
      by_cases hjb : j < b.length
      · rw [show decide ((j : Int) < (b.length : Int)) = true from by simp; omega]
        refine Ev.succ ?_
        simp only [spec_EditsOf.j2]
        refine Ev.pos (by first | rfl | trivial) (Ev.neg (by omega) (Ev.succ ?_))
        simp only [spec_EditsOf.j3]
        rw [up1 j (by omega), rdOf_nat _ _ _ hjb, drop_cons' b j hjb, List.drop_length, edits_right]
        refine Ev.neg (by simp) (Ev.neg (by omega) (Ev.neg (by omega) (Ev.pos (by omega) (Ev.pos (by omega) (Ev.pos (by omega) ?_)))))
        have := ih a.length (j + 1) (acc ++ [⟨3, b[j]⟩]) (by omega) (by omega) (by omega) (by rw [hsz]; omega)
        rw [snoc, List.drop_length] at this
        exact this
      · have e2 : j = b.length := by omega
        subst e2
        rw [show decide (((b.length : Nat) : Int) < (b.length : Int)) = false from by simp]
        refine Ev.succ ?_
        simp only [spec_EditsOf.j2]
        exact Ev.neg (by simp) (Ev.some_ (by rw [List.drop_length, List.drop_length, edits_nil, List.append_nil]))
end
theorem spec_EditsOf_ev (a b : List ByteArray) (ha : Sized a) (hb : Sized b) : Ev (fun k => spec_EditsOf.f k a b) (editsL a b) := by
  simp only [spec_EditsOf.f]
  refine Ev.bnd0 rfl (Ev.bnd (spec_l04Ok_ev a ha) ?_)
  by_cases h1 : linesOk 300 a = true
  · refine Ev.pos h1 (Ev.bnd (spec_l04Ok_ev b hb) (Ev.succ ?_))
    simp only [spec_EditsOf.j0]
    by_cases h2 : linesOk 300 b = true
    · have l1 := linesOk_len h1
      have l2 := linesOk_len h2
      obtain ⟨x, hx, ht⟩ := spec_l04Table_ev a b (by omega) (by omega)
      refine Ev.neg (by rw [h2]; simp) (Ev.bnd hx ?_)
      have := spec_EditsOf_l0 a b x ht (by omega) (by omega) _ 0 0 [] (by omega) (by omega) (Nat.le_refl _) (by simp)
      rw [editsL, if_pos ⟨h1, h2⟩]
      exact this
    · exact Ev.pos (by simp [h2]) (Ev.some_ (by rw [editsL, if_neg (fun h => h2 h.2)]))
  · refine Ev.neg h1 (Ev.succ ?_)
    simp only [spec_EditsOf.j0]
    exact Ev.pos (by first | rfl | trivial) (Ev.some_ (by rw [editsL, if_neg (fun h => h1 h.1)]))
/-! what is drawn: the cursor never fails -/
theorem and255 (x : Int) : 0 ≤ Go.bits .and .i64 x 255 ∧ Go.bits .and .i64 x 255 ≤ 255 := by
  have h : (BitVec.ofInt IntKind.i64.bits x).toNat &&& (BitVec.ofInt IntKind.i64.bits 255).toNat ≤ 255 := by
    have e : (BitVec.ofInt IntKind.i64.bits 255).toNat = 255 := by rfl
    rw [e]
    exact Nat.and_le_right
  simp only [Go.bits, BitVec.toNat_and]
  rw [IntKind.wrap_i64]
  omega
theorem spec_l01Byte_eq (s : List Int) (i h : Int) (hi : 0 ≤ i) (hs : s.length ≤ 140737488351232) : ∃ v i' h', spec_l01Byte.f s i h = some (v, i', h') ∧ 0 ≤ v ∧ v ≤ 255 ∧ 0 ≤ i' := by
  unfold spec_l01Byte.f
  by_cases c : i < (s.length : Int)
  · rw [if_pos c, if_pos hi, show wrap64 (i + 1) = i + 1 from w64 (by omega) (by omega)]
    exact ⟨_, _, _, rfl, (and255 _).1, (and255 _).2, by omega⟩
  · rw [if_neg c]
    exact ⟨_, _, _, rfl, (and255 _).1, (and255 _).2, hi⟩
theorem spec_l01Below_eq (s : List Int) (i h n : Int) (hi : 0 ≤ i) (hs : s.length ≤ 140737488351232) (h0 : 1 ≤ n) (h1 : n ≤ 256) : ∃ v i' h', spec_l01Below.f s i h n = some (v, i', h') ∧ 0 ≤ v ∧ v < n ∧ 0 ≤ i' := by
  obtain ⟨v, i', h', e, v0, v1, hi'⟩ := spec_l01Byte_eq s i h hi hs
  unfold spec_l01Below.f
  rw [if_neg (by omega), if_pos h1, e, Option.bind_some, if_neg (by omega)]
  refine ⟨_, _, _, rfl, ?_, ?_, hi'⟩
  · rw [Int.tmod_eq_emod_of_nonneg v0]
    exact Int.emod_nonneg _ (by omega)
  · rw [Int.tmod_eq_emod_of_nonneg v0]
    exact Int.emod_lt_of_pos _ (by omega)
theorem spec_l01Pick_eq (s : List Int) (i h : Int) (l : List ByteArray) (hi : 0 ≤ i) (hs : s.length ≤ 140737488351232) (h0 : 1 ≤ l.length) (h1 : l.length ≤ 256) : ∃ v i' h', spec_l01Pick.f s i h l = some (v, i', h') ∧ v ∈ l ∧ 0 ≤ i' := by
  obtain ⟨v, i', h', e, v0, v1, hi'⟩ := spec_l01Below_eq s i h (l.length : Int) hi hs (by omega) (by omega)
  unfold spec_l01Pick.f
  rw [e, Option.bind_some, if_pos v0, if_pos v1]
  refine ⟨_, _, _, rfl, ?_, hi'⟩
  obtain ⟨j, rfl⟩ := Int.eq_ofNat_of_zero_le v0
  rw [rdOf_nat _ _ _ (by omega)]
  exact List.getElem_mem _
theorem spec_l03Line_eq (s : List Int) (i h : Int) (hi : 0 ≤ i) (hs : s.length ≤ 140737488351232) : ∃ v i' h', spec_l03Line.f s i h = some (v, i', h') ∧ lineOk v = true ∧ 0 ≤ i' := by
  unfold spec_l03Line.f
  obtain ⟨v, i', h', e, hv, hi'⟩ := spec_l01Pick_eq s i h [(⟨#[97]⟩ : ByteArray), (⟨#[98]⟩ : ByteArray), (⟨#[99]⟩ : ByteArray), (⟨#[100]⟩ : ByteArray), (⟨#[101]⟩ : ByteArray), (⟨#[]⟩ : ByteArray), (⟨#[105, 102, 32, 120]⟩ : ByteArray), (⟨#[101, 110, 100]⟩ : ByteArray), (⟨#[97]⟩ : ByteArray), (⟨#[98]⟩ : ByteArray)] hi hs (by simp) (by simp)
  rw [e, Option.bind_some]
  refine ⟨_, _, _, rfl, ?_, hi'⟩
  simp only [List.mem_cons, List.not_mem_nil, or_false] at hv
  rcases hv with rfl | rfl | rfl | rfl | rfl | rfl | rfl | rfl | rfl | rfl <;> rfl
theorem spec_l01New_ev (s : List Int) : ∃ h, Ev (fun k => spec_l01New.f k s) (s, 0, h) := by
  simp only [spec_l01New.f]
  have key : ∀ (n i : Nat) (h : Int), i + n = s.length → ∃ h', Ev (fun k => spec_l01New.l0 k s h (i : Int)) (s, 0, h') := by
    intro n
    induction n with
    | zero =>
      intro i h hi
      refine ⟨h, Ev.succ ?_⟩
      simp only [spec_l01New.l0]
      exact Ev.neg (by omega) (Ev.now _)
    | succ n ih =>
      intro i h hi
      by_cases c : (i : Int) < 4000
      · obtain ⟨h', hh⟩ := ih (i + 1) (Go.bits .and .i64 (wrap64 ((wrap64 ((wrap64 (h * 131)) + (wrap64 (rd s (i : Int))))) + 7)) 1073741823) (by omega)
        refine ⟨h', Ev.succ ?_⟩
        simp only [spec_l01New.l0]
        rw [up1 i (by omega)]
        exact Ev.pos (by omega) (Ev.pos c (Ev.pos (by omega) hh))
      · refine ⟨h, Ev.succ ?_⟩
        simp only [spec_l01New.l0]
        exact Ev.pos (by omega) (Ev.neg c (Ev.now _))
  exact key s.length 0 _ (by omega)
theorem allOk_snoc {l : List ByteArray} {x : ByteArray} (h : allOk l = true) (hx : lineOk x = true) : allOk (l ++ [x]) = true := by
  simp only [allOk, List.all_append, List.all_cons, List.all_nil, Bool.and_true, Bool.and_eq_true]
  exact ⟨h, hx⟩
theorem allOk_get {l : List ByteArray} (h : allOk l = true) (i : Nat) (hi : i < l.length) : lineOk l[i] = true := List.all_eq_true.1 h _ (List.getElem_mem hi)
theorem spec_l03Lines_ev (s : List Int) (i h : Int) (m : Nat) (hi : 0 ≤ i) (hs : s.length ≤ 140737488351232) (hm : m ≤ 250) : ∃ r i' h', Ev (fun k => spec_l03Lines.f k s i h (m : Int)) (r, i', h') ∧ r.length ≤ m ∧ allOk r = true ∧ 0 ≤ i' := by
  simp only [spec_l03Lines.f]
  have key : ∀ (n j : Nat) (acc : List ByteArray) (i h : Int), j + n = m → 0 ≤ i → acc.length = j → allOk acc = true → ∃ r i' h', Ev (fun k => spec_l03Lines.l0 k (m : Int) acc (j : Int) s i h) (r, i', h') ∧ r.length ≤ m ∧ allOk r = true ∧ 0 ≤ i' := by
    intro n
    induction n with
    | zero =>
      intro j acc i h hj hi hl ha
      obtain ⟨v, i', h', e, v0, v1, hi'⟩ := spec_l01Below_eq s i h ((m + 1 : Nat) : Int) hi hs (by omega) (by omega)
      refine ⟨acc, i', h', Ev.succ ?_, by omega, ha, hi'⟩
      simp only [spec_l03Lines.l0]
      rw [up1 m (by omega)]
      exact Ev.bnd0 e (Ev.neg (by simp only; omega) (Ev.now _))
    | succ n ih =>
      intro j acc i h hj hi hl ha
      obtain ⟨v, i', h', e, v0, v1, hi'⟩ := spec_l01Below_eq s i h ((m + 1 : Nat) : Int) hi hs (by omega) (by omega)
      by_cases c : (j : Int) < v
      · obtain ⟨x, i2, h2, e2, hx, hi2⟩ := spec_l03Line_eq s i' h' hi' hs
        obtain ⟨r, i3, h3, hr, hrl, hra, hi3⟩ := ih (j + 1) (acc ++ [x]) i2 h2 (by omega) hi2 (by simp; omega) (allOk_snoc ha hx)
        refine ⟨r, i3, h3, Ev.succ ?_, hrl, hra, hi3⟩
        simp only [spec_l03Lines.l0]
        rw [up1 m (by omega), up1 j (by omega)]
        exact Ev.bnd0 e (Ev.pos c (Ev.bnd0 e2 (Ev.pos (by omega) hr)))
      · refine ⟨acc, i', h', Ev.succ ?_, by omega, ha, hi'⟩
        simp only [spec_l03Lines.l0]
        rw [up1 m (by omega)]
        exact Ev.bnd0 e (Ev.neg c (Ev.now _))
  exact key m 0 [] i h (by omega) hi rfl rfl
theorem spec_l01Once_eq (s : List Int) (i h n : Int) (hi : 0 ≤ i) (hs : s.length ≤ 140737488351232) (h0 : 1 ≤ n) (h1 : n ≤ 256) : ∃ v i' h', spec_l01Once.f s i h n = some (v, i', h') ∧ 0 ≤ i' := by
  obtain ⟨v, i', h', e, v0, v1, hi'⟩ := spec_l01Below_eq s i h n hi hs h0 h1
  unfold spec_l01Once.f
  rw [e, Option.bind_some]
  exact ⟨_, _, _, rfl, hi'⟩
theorem spec_l04Near_ev (s : List Int) (i h : Int) (a : List ByteArray) (hi : 0 ≤ i) (hs : s.length ≤ 140737488351232) (hm : a.length ≤ 250) (ha : allOk a = true) : ∃ r i' h', Ev (fun k => spec_l04Near.f k s i h a) (r, i', h') ∧ r.length ≤ 2 * a.length + 1 ∧ allOk r = true ∧ 0 ≤ i' := by
  simp only [spec_l04Near.f]
  have key : ∀ (n j : Nat) (acc : List ByteArray) (i h : Int), j + n = a.length → 0 ≤ i → acc.length ≤ 2 * j → allOk acc = true → ∃ r i' h', Ev (fun k => spec_l04Near.l0 k a acc (j : Int) s i h) (r, i', h') ∧ r.length ≤ 2 * a.length + 1 ∧ allOk r = true ∧ 0 ≤ i' := by
    intro n
    induction n with
    | zero =>
      intro j acc i h hj hi hl hc
      obtain ⟨v, i', h', e, hi'⟩ := spec_l01Once_eq s i h 4 hi hs (by omega) (by omega)
      by_cases c : v = true
      · obtain ⟨x, i2, h2, e2, hx, hi2⟩ := spec_l03Line_eq s i' h' hi' hs
        refine ⟨acc ++ [x], i2, h2, Ev.succ ?_, by simp; omega, allOk_snoc hc hx, hi2⟩
        simp only [spec_l04Near.l0]
        exact Ev.neg (by omega) (Ev.bnd0 e (Ev.pos c (Ev.bnd0 e2 (Ev.pos (by omega) (Ev.now _)))))
      · refine ⟨acc, i', h', Ev.succ ?_, by omega, hc, hi'⟩
        simp only [spec_l04Near.l0]
        exact Ev.neg (by omega) (Ev.bnd0 e (Ev.neg c (Ev.now _)))
    | succ n ih =>
      intro j acc i h hj hi hl hc
      have hja : j < a.length := by omega
      obtain ⟨v, i', h', e, v0, v1, hi'⟩ := spec_l01Below_eq s i h 6 hi hs (by omega) (by omega)
      obtain ⟨x, i2, h2, e2, hx, hi2⟩ := spec_l03Line_eq s i' h' hi' hs
      by_cases c0 : v = 0
      · obtain ⟨r, i3, h3, hr, hrl, hra⟩ := ih (j + 1) (acc ++ [x]) i2 h2 (by omega) hi2 (by simp; omega) (allOk_snoc hc hx)
        refine ⟨r, i3, h3, Ev.succ ?_, hrl, hra⟩
        simp only [spec_l04Near.l0]
        rw [up1 j (by omega)]
        exact Ev.pos (by omega) (Ev.bnd0 e (Ev.pos c0 (Ev.bnd0 e2 (Ev.pos (by omega) hr))))
      by_cases c1 : v = 1
      · obtain ⟨r, i3, h3, hr, hrl, hra⟩ := ih (j + 1) (acc ++ [x, a[j]]) i2 h2 (by omega) hi2 (by simp; omega) (by
          have := allOk_snoc (allOk_snoc hc hx) (allOk_get ha j hja)
          rw [List.append_assoc] at this
          exact this)
        refine ⟨r, i3, h3, Ev.succ ?_, hrl, hra⟩
        simp only [spec_l04Near.l0]
        rw [up1 j (by omega), rdOf_nat _ _ _ hja]
        exact Ev.pos (by omega) (Ev.bnd0 e (Ev.neg c0 (Ev.pos c1 (Ev.bnd0 e2 (Ev.pos (by omega) (Ev.bnd0 rfl (Ev.pos (by simp; omega) hr)))))))
      by_cases c2 : v = 2
      · obtain ⟨r, i3, h3, hr, hrl, hra⟩ := ih (j + 1) acc i' h' (by omega) hi' (by omega) hc
        refine ⟨r, i3, h3, Ev.succ ?_, hrl, hra⟩
        simp only [spec_l04Near.l0]
        rw [up1 j (by omega)]
        exact Ev.pos (by omega) (Ev.bnd0 e (Ev.neg c0 (Ev.neg c1 (Ev.pos c2 hr))))
      · obtain ⟨r, i3, h3, hr, hrl, hra⟩ := ih (j + 1) (acc ++ [a[j]]) i' h' (by omega) hi' (by simp; omega) (allOk_snoc hc (allOk_get ha j hja))
        refine ⟨r, i3, h3, Ev.succ ?_, hrl, hra⟩
        simp only [spec_l04Near.l0]
        rw [up1 j (by omega), rdOf_nat _ _ _ hja]
        exact Ev.pos (by omega) (Ev.bnd0 e (Ev.neg c0 (Ev.neg c1 (Ev.neg c2 (Ev.pos (by omega) (Ev.pos (by omega) hr))))))
  exact key a.length 0 [] i h (by omega) hi (by simp) rfl
theorem spec_l01Below_big (s : List Int) (i h n : Int) (hi : 0 ≤ i) (hs : s.length ≤ 140737488351232) (h0 : 1 ≤ n) : ∃ v i' h', spec_l01Below.f s i h n = some (v, i', h') ∧ 0 ≤ v ∧ v < n ∧ 0 ≤ i' := by
  by_cases h1 : n ≤ 256
  · exact spec_l01Below_eq s i h n hi hs h0 h1
  · obtain ⟨a, i1, h1', e1, a0, a1, p1⟩ := spec_l01Byte_eq s i h hi hs
    obtain ⟨b, i2, h2', e2, b0, b1, p2⟩ := spec_l01Byte_eq s i1 h1' p1 hs
    obtain ⟨c, i3, h3', e3, c0, c1, p3⟩ := spec_l01Byte_eq s i2 h2' p2 hs
    obtain ⟨d, i4, h4', e4, d0, d1, p4⟩ := spec_l01Byte_eq s i3 h3' p3 hs
    unfold spec_l01Below.f
    rw [if_neg (by omega), if_neg h1, e1, Option.bind_some, e2, Option.bind_some, e3, Option.bind_some, e4, Option.bind_some, if_neg (by omega)]
    have w1 : wrap64 (a * 16777216) = a * 16777216 := w64 (by omega) (by omega)
    have w2 : wrap64 (b * 65536) = b * 65536 := w64 (by omega) (by omega)
    have w3 : wrap64 (c * 256) = c * 256 := w64 (by omega) (by omega)
    simp only [w1, w2, w3]
    rw [show wrap64 (a * 16777216 + b * 65536) = a * 16777216 + b * 65536 from w64 (by omega) (by omega), show wrap64 (a * 16777216 + b * 65536 + c * 256) = a * 16777216 + b * 65536 + c * 256 from w64 (by omega) (by omega), show wrap64 (a * 16777216 + b * 65536 + c * 256 + d) = a * 16777216 + b * 65536 + c * 256 + d from w64 (by omega) (by omega)]
    refine ⟨_, _, _, rfl, ?_, ?_, p4⟩
    · rw [Int.tmod_eq_emod_of_nonneg (by omega)]
      exact Int.emod_nonneg _ (by omega)
    · rw [Int.tmod_eq_emod_of_nonneg (by omega)]
      exact Int.emod_lt_of_pos _ (by omega)
theorem spec_l01Long_ev (n x : Int) (h0 : 0 ≤ n) (h1 : n ≤ 1000000) : ∃ s : ByteArray, Ev (fun k => spec_l01Long.f k n x) s ∧ s.size ≤ 1000000 := by
  obtain ⟨m, rfl⟩ := Int.eq_ofNat_of_zero_le h0
  simp only [spec_l01Long.f]
  have key : ∀ (q i : Nat) (l : List Int), i + q = m → l.length = m → ∃ s : ByteArray, Ev (fun k => spec_l01Long.l0 k (m : Int) x l (i : Int)) s ∧ s.size ≤ 1000000 := by
    intro q
    induction q with
    | zero =>
      intro i l hi hl
      refine ⟨strOfNums l, Ev.succ ?_, by rw [strOfNums_size]; omega⟩
      simp only [spec_l01Long.l0]
      exact Ev.neg (by omega) (Ev.now _)
    | succ q ih =>
      intro i l hi hl
      obtain ⟨s, hs, hz⟩ := ih (i + 1) (l.set i x) (by omega) (by rw [List.length_set]; exact hl)
      refine ⟨s, Ev.succ ?_, hz⟩
      simp only [spec_l01Long.l0]
      rw [up1 i (by omega), Int.toNat_natCast]
      exact Ev.pos (by omega) (Ev.pos (by omega) (Ev.pos (by omega) hs))
  obtain ⟨s, hs, hz⟩ := key m 0 (List.replicate m 0) (by omega) (by simp)
  refine ⟨s, Ev.pos (by omega) (Ev.pos (by omega) ?_), hz⟩
  rw [Int.toNat_natCast]
  exact hs
theorem sized_snoc {l : List ByteArray} {x : ByteArray} (h : Sized l) (hl : l.length ≤ 1000) (hx : x.size ≤ 140737488351232) : Sized (l ++ [x]) := by
  refine ⟨by simp; omega, fun y hy => ?_⟩
  rcases List.mem_append.1 hy with h' | h'
  · exact h.2 y h'
  · rw [List.mem_singleton] at h'
    subst h'
    exact hx
theorem sized_of {l : List ByteArray} (hl : l.length ≤ 1000) (h : allOk l = true) : Sized l := by
  refine ⟨by omega, fun x hx => ?_⟩
  have := lineOk_size (List.all_eq_true.1 h x hx)
  omega
theorem edits_mem : ∀ (a b : List ByteArray) (e : S31), e ∈ edits a b → e.f1 ∈ a ∨ e.f1 ∈ b
  | [], [], e, he => by simp [edits_nil] at he
  | [], y :: b, e, he => by
    rw [edits_right] at he
    rcases List.mem_cons.1 he with rfl | he
    · simp
    · rcases edits_mem [] b e he with h | h
      · simp at h
      · exact Or.inr (List.mem_cons_of_mem _ h)
  | x :: a, [], e, he => by
    rw [edits_left] at he
    rcases List.mem_cons.1 he with rfl | he
    · simp
    · rcases edits_mem a [] e he with h | h
      · exact Or.inl (List.mem_cons_of_mem _ h)
      · simp at h
  | x :: a, y :: b, e, he => by
    rw [edits_cons] at he
    split at he
    · rcases List.mem_cons.1 he with rfl | he
      · simp
      · rcases edits_mem a b e he with h | h
        · exact Or.inl (List.mem_cons_of_mem _ h)
        · exact Or.inr (List.mem_cons_of_mem _ h)
    · split at he
      · rcases List.mem_cons.1 he with rfl | he
        · simp
        · rcases edits_mem a (y :: b) e he with h | h
          · exact Or.inl (List.mem_cons_of_mem _ h)
          · exact Or.inr h
      · rcases List.mem_cons.1 he with rfl | he
        · simp
        · rcases edits_mem (x :: a) b e he with h | h
          · exact Or.inl h
          · exact Or.inr (List.mem_cons_of_mem _ h)
termination_by a b => a.length + b.length
theorem editsL_sized (a b : List ByteArray) (ha : Sized a) (hb : Sized b) : ∀ x ∈ editsL a b, x.f1.size ≤ 140737488351232 := by
  intro x hx
  unfold editsL at hx
  split at hx
  · rcases edits_mem a b x hx with h | h
    · exact ha.2 _ h
    · exact hb.2 _ h
  · simp at hx
theorem spec_l04Two_ev (s : List Int) (i h : Int) (hi : 0 ≤ i) (hs : s.length ≤ 140737488351232) : ∃ a b i' h', Ev (fun k => spec_l04Two.f k s i h) (a, b, i', h') ∧ Sized a ∧ Sized b ∧ a.length ≤ 1000 ∧ b.length ≤ 1000 ∧ 0 ≤ i' := by
  simp only [spec_l04Two.f]
  have fill : ∀ (n : Nat) (a b : List ByteArray) (i h : Int), a.length + n = 301 → 0 ≤ i → Sized a → ∃ a' i' h', Ev (fun k => spec_l04Two.l0 k a b s i h) (a', b, i', h') ∧ Sized a' ∧ a'.length ≤ 1000 ∧ 0 ≤ i' := by
    intro n
    induction n with
    | zero =>
      intro a b i h hn hi ha
      obtain ⟨v, i', h', e, v0, v1, hi'⟩ := spec_l01Below_eq s i h 2 hi hs (by omega) (by omega)
      refine ⟨a, i', h', Ev.succ ?_, ha, by omega, hi'⟩
      simp only [spec_l04Two.l0]
      refine Ev.bnd0 e (Ev.neg ?_ (Ev.now _))
      simp only
      rw [show wrap64 (300 + v) = 300 + v from w64 (by omega) (by omega)]
      omega
    | succ n ih =>
      intro a b i h hn hi ha
      obtain ⟨v, i', h', e, v0, v1, hi'⟩ := spec_l01Below_eq s i h 2 hi hs (by omega) (by omega)
      have w : wrap64 (300 + v) = 300 + v := w64 (by omega) (by omega)
      by_cases c : (a.length : Int) < 300 + v
      · obtain ⟨x, i2, h2, e2, hx, hi2⟩ := spec_l03Line_eq s i' h' hi' hs
        obtain ⟨r, i3, h3, hr, hrs, hrl, hi3⟩ := ih (a ++ [x]) b i2 h2 (by simp; omega) hi2 (sized_snoc ha (by omega) (by have := lineOk_size hx; omega))
        refine ⟨r, i3, h3, Ev.succ ?_, hrs, hrl, hi3⟩
        simp only [spec_l04Two.l0]
        exact Ev.bnd0 e (Ev.pos (by simp only; rw [w]; exact c) (Ev.bnd0 e2 (Ev.pos (by omega) hr)))
      · refine ⟨a, i', h', Ev.succ ?_, ha, by omega, hi'⟩
        simp only [spec_l04Two.l0]
        exact Ev.bnd0 e (Ev.neg (by simp only; rw [w]; exact c) (Ev.now _))
  have rest : ∀ (a b : List ByteArray) (i h : Int), a.length ≤ 100 → b.length ≤ 100 → 0 ≤ i → Sized a → Sized b → ∃ a' b' i' h', Ev (fun k => spec_l04Two.j0 k a b s i h) (a', b', i', h') ∧ Sized a' ∧ Sized b' ∧ a'.length ≤ 1000 ∧ b'.length ≤ 1000 ∧ 0 ≤ i' := by
    intro a b i h la lb hi sa sb
    obtain ⟨v, i', h', e, v0, v1, hi'⟩ := spec_l01Below_eq s i h 60 hi hs (by omega) (by omega)
    by_cases c0 : v = 0
    · refine ⟨_, _, i', h', Ev.succ ?_, sized_snoc sa (by omega) (x := (⟨#[120, 10, 121]⟩ : ByteArray)) (by decide), sb, by simp; omega, by omega, hi'⟩
      simp only [spec_l04Two.j0]
      exact Ev.bnd0 e (Ev.pos c0 (Ev.pos (by omega) (Ev.now _)))
    by_cases c1 : v = 1
    · obtain ⟨t, ht, hz⟩ := spec_l01Long_ev 61 5 (by omega) (by omega)
      refine ⟨_, _, i', h', Ev.succ ?_, sa, sized_snoc sb (by omega) (x := t) (by omega), by omega, by simp; omega, hi'⟩
      simp only [spec_l04Two.j0]
      exact Ev.bnd0 e (Ev.neg c0 (Ev.pos c1 (Ev.bnd ht (Ev.pos (by omega) (Ev.now _)))))
    by_cases c2 : v = 2
    · obtain ⟨a', i2, h2, he, hsz, hl, hi2⟩ := fill (301 - a.length) a b i' h' (by omega) hi' sa
      refine ⟨a', b, i2, h2, Ev.succ ?_, hsz, sb, hl, by omega, hi2⟩
      simp only [spec_l04Two.j0]
      exact Ev.bnd0 e (Ev.neg c0 (Ev.neg c1 (Ev.pos c2 he)))
    · refine ⟨a, b, i', h', Ev.succ ?_, sa, sb, by omega, by omega, hi'⟩
      simp only [spec_l04Two.j0]
      exact Ev.bnd0 e (Ev.neg c0 (Ev.neg c1 (Ev.neg c2 (Ev.now _))))
  obtain ⟨a, i1, h1, e1, l1, o1, p1⟩ := spec_l03Lines_ev s i h 14 hi hs (by omega)
  obtain ⟨b, i2, h2, e2, l2, o2, p2⟩ := spec_l04Near_ev s i1 h1 a p1 hs (by omega) o1
  obtain ⟨c, i3, h3, e3, p3⟩ := spec_l01Once_eq s i2 h2 4 p2 hs (by omega) (by omega)
  by_cases hc : c = true
  · obtain ⟨d, i4, h4, e4, l4, o4, p4⟩ := spec_l03Lines_ev s i3 h3 12 p3 hs (by omega)
    obtain ⟨a', b', i5, h5, he, r1, r2, r3, r4, r5⟩ := rest a d i4 h4 (by omega) (by omega) p4 (sized_of (by omega) o1) (sized_of (by omega) o4)
    exact ⟨a', b', i5, h5, Ev.bnd e1 (Ev.bnd e2 (Ev.bnd0 e3 (Ev.pos hc (Ev.bnd e4 he)))), r1, r2, r3, r4, r5⟩
  · obtain ⟨a', b', i5, h5, he, r1, r2, r3, r4, r5⟩ := rest a b i3 h3 (by omega) (by omega) p3 (sized_of (by omega) o1) (sized_of (by omega) o2)
    exact ⟨a', b', i5, h5, Ev.bnd e1 (Ev.bnd e2 (Ev.bnd0 e3 (Ev.neg hc he))), r1, r2, r3, r4, r5⟩
/-- A list of lines and edits are drawn; the edits may be wrong ones. -/
theorem spec_DrawApply_ev (s : List Int) (hs : s.length ≤ 140737488351232) : ∃ a l, Ev (fun k => spec_DrawApply.f k s) (a, l) ∧ Sized a ∧ a.length ≤ 1000 ∧ l.length ≤ 10000 ∧ ∀ x ∈ l, x.f1.size ≤ 140737488351232 := by
  obtain ⟨h, hh⟩ := spec_l01New_ev s
  obtain ⟨a, b, i1, h1, e1, sa, sb, la, lb, p1⟩ := spec_l04Two_ev s 0 h (by omega) hs
  have hel := editsL_length a b
  have hes := editsL_sized a b sa sb
  obtain ⟨v, i2, h2, e2, v0, v1, p2⟩ := spec_l01Below_eq s i1 h1 24 p1 hs (by omega) (by omega)
  suffices h : ∃ l i' h', Ev (fun k => spec_l04Edits.f k s 0 h) (a, l, i', h') ∧ l.length ≤ 10000 ∧ ∀ x ∈ l, x.f1.size ≤ 140737488351232 by
    obtain ⟨l, i', h', he, r1, r2⟩ := h
    refine ⟨a, l, ?_, sa, la, r1, r2⟩
    simp only [spec_DrawApply.f]
    exact Ev.bnd hh (Ev.bnd he (Ev.now _))
  simp only [spec_l04Edits.f]
  have start : ∀ (r : List ByteArray × List S31 × Int × Int) {f : Nat → List S31 → Option (List ByteArray × List S31 × Int × Int)}, Ev (fun k => f k (editsL a b)) r → Ev (fun k => (spec_EditsOf.f k a b).bind (f k)) r := fun r f hf => Ev.bnd (spec_EditsOf_ev a b sa sb) hf
  have snoc : ∀ (l : List S31) (e : S31), (∀ x ∈ l, x.f1.size ≤ 140737488351232) → e.f1.size ≤ 140737488351232 → ∀ x ∈ l ++ [e], x.f1.size ≤ 140737488351232 := by
    intro l e hl he x hx
    rcases List.mem_append.1 hx with h | h
    · exact hl x h
    · rw [List.mem_singleton] at h
      subst h
      exact he
  by_cases c0 : v = 0
  · obtain ⟨w, i3, h3, e3, w0, w1, p3⟩ := spec_l01Below_eq s i2 h2 5 p2 hs (by omega) (by omega)
    obtain ⟨x, i4, h4, e4, hx, p4⟩ := spec_l03Line_eq s i3 h3 p3 hs
    refine ⟨editsL a b ++ [⟨w, x⟩], i4, h4, Ev.bnd e1 (start _ (Ev.bnd0 e2 (Ev.pos c0 (Ev.bnd0 e3 (Ev.bnd0 e4 (Ev.pos (by omega) (Ev.now _))))))), by simp; omega, snoc _ _ hes (by have := lineOk_size hx; simp only; omega)⟩
  by_cases c1 : v = 1
  · by_cases hg : ((editsL a b).length : Int) > 0
    · refine ⟨(editsL a b).drop 1, i2, h2, Ev.bnd e1 (start _ (Ev.bnd0 e2 (Ev.neg c0 (Ev.pos c1 (Ev.pos hg (Ev.pos (by omega) (Ev.now _))))))), by simp; omega, fun x hx => hes x (List.mem_of_mem_drop hx)⟩
    · exact ⟨editsL a b, i2, h2, Ev.bnd e1 (start _ (Ev.bnd0 e2 (Ev.neg c0 (Ev.pos c1 (Ev.neg hg (Ev.now _)))))), by omega, hes⟩
  by_cases c2 : v = 2
  · by_cases hg : ((editsL a b).length : Int) > 0
    · obtain ⟨w, i3, h3, e3, w0, w1, p3⟩ := spec_l01Below_big s i2 h2 ((editsL a b).length : Int) p2 hs (by omega)
      refine ⟨_, i3, h3, Ev.bnd e1 (start _ (Ev.bnd0 e2 (Ev.neg c0 (Ev.neg c1 (Ev.pos c2 (Ev.pos hg (Ev.bnd0 e3 (Ev.pos w0 (Ev.pos w1 (Ev.now _)))))))))), by rw [List.length_set]; omega, ?_⟩
      intro x hx
      rcases List.mem_or_eq_of_mem_set hx with h | h
      · exact hes x h
      · subst h
        exact show (⟨#[10]⟩ : ByteArray).size ≤ 140737488351232 by decide
    · exact ⟨editsL a b, i2, h2, Ev.bnd e1 (start _ (Ev.bnd0 e2 (Ev.neg c0 (Ev.neg c1 (Ev.pos c2 (Ev.neg hg (Ev.now _))))))), by omega, hes⟩
  by_cases c3 : v = 3
  · have fill : ∀ (n j : Nat) (l : List S31), j + n = 300 → l.length ≤ 2000 + j → (∀ x ∈ l, x.f1.size ≤ 140737488351232) → ∃ l', Ev (fun k => spec_l04Edits.l0 k a l (j : Int) s i2 h2) (a, l', i2, h2) ∧ l'.length ≤ 10000 ∧ ∀ x ∈ l', x.f1.size ≤ 140737488351232 := by
      intro n
      induction n with
      | zero =>
        intro j l hj hl hx
        refine ⟨l, Ev.succ ?_, by omega, hx⟩
        simp only [spec_l04Edits.l0]
        exact Ev.neg (by omega) (Ev.now _)
      | succ n ih =>
        intro j l hj hl hx
        obtain ⟨l', he, r1, r2⟩ := ih (j + 1) (l ++ [⟨3, (⟨#[122]⟩ : ByteArray)⟩]) (by omega) (by simp; omega) (snoc _ _ hx (by decide))
        refine ⟨l', Ev.succ ?_, r1, r2⟩
        simp only [spec_l04Edits.l0]
        rw [up1 j (by omega)]
        exact Ev.pos (by omega) (Ev.pos (by omega) he)
    obtain ⟨l', he, r1, r2⟩ := fill 300 0 (editsL a b) (by omega) (by omega) hes
    exact ⟨l', i2, h2, Ev.bnd e1 (start _ (Ev.bnd0 e2 (Ev.neg c0 (Ev.neg c1 (Ev.neg c2 (Ev.pos c3 he)))))), r1, r2⟩
  · exact ⟨editsL a b, i2, h2, Ev.bnd e1 (start _ (Ev.bnd0 e2 (Ev.neg c0 (Ev.neg c1 (Ev.neg c2 (Ev.neg c3 (Ev.now _))))))), by omega, hes⟩
/-- The edits done to a list: (what came out so far, what of the old list is left). -/
def applyGo : List S31 → List ByteArray → List ByteArray → List ByteArray × Bool
  | [], [], out => (out, true)
  | [], _ :: _, _ => ([], false)
  | e :: l, a, out => if e.f0 = 3 then applyGo l a (out ++ [e.f1]) else match a with
    | [] => ([], false)
    | x :: a => if x = e.f1 then applyGo l a (if e.f0 = 2 then out else out ++ [e.f1]) else ([], false)
theorem applyGo_end (out : List ByteArray) : applyGo [] [] out = (out, true) := by rw [applyGo]
theorem applyGo_more (x : ByteArray) (a out : List ByteArray) : applyGo [] (x :: a) out = ([], false) := by rw [applyGo]
theorem applyGo_3 (e : S31) (l : List S31) (a out : List ByteArray) (h : e.f0 = 3) : applyGo (e :: l) a out = applyGo l a (out ++ [e.f1]) := by cases a <;> simp [applyGo, h]
theorem applyGo_none (e : S31) (l : List S31) (out : List ByteArray) (h : ¬ e.f0 = 3) : applyGo (e :: l) [] out = ([], false) := by rw [applyGo, if_neg h]
theorem applyGo_some (e : S31) (l : List S31) (x : ByteArray) (a out : List ByteArray) (h : ¬ e.f0 = 3) : applyGo (e :: l) (x :: a) out = if x = e.f1 then applyGo l a (if e.f0 = 2 then out else out ++ [e.f1]) else ([], false) := by rw [applyGo, if_neg h]
theorem applyGo_length : ∀ (l : List S31) (a out : List ByteArray), (applyGo l a out).1.length ≤ out.length + l.length
  | [], [], out => by rw [applyGo_end]; simp
  | [], x :: a, out => by rw [applyGo_more]; simp
  | e :: l, a, out => by
    by_cases h : e.f0 = 3
    · rw [applyGo_3 e l a out h]
      have := applyGo_length l a (out ++ [e.f1])
      simp at *; omega
    · cases a with
      | nil => rw [applyGo_none e l out h]; simp
      | cons x a =>
        rw [applyGo_some e l x a out h]
        split
        · have := applyGo_length l a (if e.f0 = 2 then out else out ++ [e.f1])
          have h2 : (if e.f0 = 2 then out else out ++ [e.f1]).length ≤ out.length + 1 := by split <;> simp
          simp only [List.length_cons]
          omega
        · simp
def applyL (a : List ByteArray) (l : List S31) : List ByteArray × Bool := if linesOk 300 a = true ∧ editsOk (l.map pr) = true then applyGo l a [] else ([], false)
theorem applyL_length (a : List ByteArray) (l : List S31) : (applyL a l).1.length ≤ l.length := by
  unfold applyL
  split
  · have := applyGo_length l a []
    simpa using this
  · exact Nat.zero_le _
theorem drop_cons'' {α : Type} (l : List α) (i : Nat) (h : i < l.length) : l.drop i = l[i] :: l.drop (i + 1) := List.drop_eq_getElem_cons h
theorem bne_iff (a b : ByteArray) : ((a.toList != b.toList) = true) ↔ ¬ a = b := by
  rw [bne_iff_ne]
  exact ⟨fun h e => h (by rw [e]), fun h e => h ((toList_iff _ _).1 e)⟩
theorem spec_l01In_eq (a b c : Int) : spec_l01In.f a b c = some (decide (b ≤ a ∧ a ≤ c)) := by
  unfold spec_l01In.f
  by_cases h : a ≥ b
  · rw [if_pos h]; simp [h]
  · rw [if_neg h]; simp; omega
theorem ed_step (k : Int) (s : ByteArray) (l : List (Int × ByteArray)) (n m : Int) (h : 1 ≤ k ∧ k ≤ 3) (hs : lineOk s = true) : edGo ((k, s) :: l) n m = edGo l (if k = 3 then n else n + 1) (if k = 2 then m else m + 1) := by
  simp only [edGo]
  rw [if_pos ⟨h.1, h.2, hs⟩]
theorem spec_EditsOk_ev (l : List S31) (hl : l.length ≤ 140737488351232) (hx : ∀ x ∈ l, x.f1.size ≤ 140737488351232) : Ev (fun k => spec_EditsOk.f k l) (editsOk (l.map pr)) := by
  simp only [spec_EditsOk.f]
  have key : ∀ (d i : Nat) (n m : Int), i + d = l.length → 0 ≤ n → n ≤ i → 0 ≤ m → m ≤ i → Ev (fun k => spec_EditsOk.l0 k l n m (i : Int)) (edGo ((l.drop i).map pr) n m) := by
    intro d
    induction d with
    | zero =>
      intro i n m hi hn0 hn hm0 hm
      refine Ev.succ ?_
      simp only [spec_EditsOk.l0]
      rw [drop_end l i (by omega)]
      refine Ev.neg (by omega) ?_
      simp only [List.map_nil, edGo]
      by_cases h : n ≤ 300
      · exact Ev.pos h (Ev.some_ (by simp [h]))
      · exact Ev.neg h (Ev.some_ (by simp [h]))
    | succ d ih =>
      intro i n m hi hn0 hn hm0 hm
      refine Ev.succ ?_
      simp only [spec_EditsOk.l0]
      have hr := rdE_nat l i (by omega)
      have hs := hx _ (List.getElem_mem (show i < l.length by omega))
      rw [hr, List.drop_eq_getElem_cons (show i < l.length by omega), List.map_cons]
      refine Ev.pos (by omega) (Ev.pos (by omega) (Ev.bnd0 (spec_l01In_eq _ _ _) ?_))
      by_cases hk : 1 ≤ (l[i]'(by omega)).f0 ∧ (l[i]'(by omega)).f0 ≤ 3
      · refine Ev.pos (by simpa using hk) (Ev.bnd (spec_LineOk_ev _ hs) (Ev.succ ?_))
        simp only [spec_EditsOk.j1]
        by_cases ho : lineOk (l[i]'(by omega)).f1 = true
        · refine Ev.neg (by simp [ho]) (Ev.pos (by omega) (Ev.pos (by omega) ?_))
          have e1 : wrap64 (n + 1) = n + 1 := w64 (by omega) (by omega)
          have e2 : wrap64 (m + 1) = m + 1 := w64 (by omega) (by omega)
          rw [up1 i (by omega), e1, e2, hr]
          rw [show pr (l[i]'(by omega)) = ((l[i]'(by omega)).f0, (l[i]'(by omega)).f1) from rfl, ed_step _ _ _ _ _ hk ho]
          clear e1 e2
          by_cases h3 : (l[i]'(by omega)).f0 = 3
          · refine Ev.pos h3 (Ev.neg (by omega) ?_)
            rw [if_pos h3, if_neg (by omega)]
            exact ih (i + 1) n (m + 1) (by omega) (by omega) (by omega) (by omega) (by omega)
          · refine Ev.neg h3 ?_
            rw [if_neg h3]
            by_cases h2 : (l[i]'(by omega)).f0 = 2
            · refine Ev.pos h2 ?_
              rw [if_pos h2]
              exact ih (i + 1) (n + 1) m (by omega) (by omega) (by omega) (by omega) (by omega)
            · refine Ev.neg h2 ?_
              rw [if_neg h2]
              exact ih (i + 1) (n + 1) (m + 1) (by omega) (by omega) (by omega) (by omega) (by omega)
        · refine Ev.pos (by simp [ho]) (Ev.some_ ?_)
          rw [show pr (l[i]'(by omega)) = ((l[i]'(by omega)).f0, (l[i]'(by omega)).f1) from rfl, edGo, if_neg (fun h => ho h.2.2)]
      · refine Ev.neg (by simpa using hk) (Ev.succ ?_)
        simp only [spec_EditsOk.j1]
        refine Ev.pos trivial (Ev.some_ ?_)
        rw [show pr (l[i]'(by omega)) = ((l[i]'(by omega)).f0, (l[i]'(by omega)).f1) from rfl, edGo, if_neg (fun h => hk ⟨h.1, h.2.1⟩)]
  exact key l.length 0 0 0 (by omega) (by omega) (by omega) (by omega) (by omega)
section
variable (a : List ByteArray) (l : List S31) (ha : a.length ≤ 1000000) (hl : l.length ≤ 1000000000)
include ha hl
theorem spec_Apply_l0 : ∀ (n i j : Nat) (acc : List ByteArray), j + n = l.length → i ≤ a.length → acc.length ≤ j → Ev (fun k => spec_Apply.l0 k a l acc (i : Int) (j : Int)) (applyGo (l.drop j) (a.drop i) acc) := by
  intro n
  induction n with
  | zero =>
    intro i j acc hj hi hc
    have e2 : j = l.length := by omega
    subst e2
    refine Ev.succ ?_
    simp only [spec_Apply.l0]
    rw [List.drop_length]
    refine Ev.neg (by omega) ?_
    by_cases h : i < a.length
    · rw [drop_cons'' a i h, applyGo_more]
      exact Ev.neg (by omega) (Ev.some_ rfl)
    · have e1 : i = a.length := by omega
      subst e1
      rw [List.drop_length, applyGo_end]
      exact Ev.pos (by first | rfl | trivial) (Ev.some_ rfl)
  | succ n ih =>
    intro i j acc hj hi hc
    have hjl : j < l.length := by omega
    have hsz : ∀ e : ByteArray, (acc ++ [e]).length = acc.length + 1 := by intro e; simp
    refine Ev.succ ?_
    simp only [spec_Apply.l0]
    rw [up1 j (by omega), rdE_nat _ _ hjl, drop_cons'' l j hjl]
    refine Ev.pos (by omega) (Ev.pos (by omega) (?_))
    by_cases h3 : l[j].f0 = 3
    · rw [applyGo_3 _ _ _ _ h3]
      exact Ev.pos h3 (Ev.neg (by omega) (Ev.pos (by omega) (ih i (j + 1) (acc ++ [l[j].f1]) (by omega) hi (by rw [hsz]; omega))))
    · refine Ev.neg h3 ?_
      by_cases h : i < a.length
      · rw [drop_cons'' a i h, applyGo_some _ _ _ _ _ h3]
        refine Ev.neg (by omega) (Ev.pos (by omega) (Ev.pos (by omega) (Ev.succ ?_)))
        simp only [spec_Apply.j2]
        rw [up1 i (by omega), rdOf_nat _ _ _ h, up1 j (by omega)]
        by_cases he : a[i] = l[j].f1
        · rw [if_pos he]
          refine Ev.neg (fun h => (bne_iff _ _).1 h he) (Ev.pos (by omega) <| Ev.pos (by omega) <| (?_))
          by_cases h2 : l[j].f0 = 2
          · rw [if_pos h2]
            exact Ev.pos (by rw [rdE_nat _ _ hjl]; exact h2) (ih (i + 1) (j + 1) acc (by omega) (by omega) (by omega))
          · rw [if_neg h2]
            have := ih (i + 1) (j + 1) (acc ++ [l[j].f1]) (by omega) (by omega) (by rw [hsz]; omega)
            refine Ev.neg (by rw [rdE_nat _ _ hjl]; exact h2) (Ev.pos (by omega) ?_)
            rw [rdE_nat _ _ hjl]
            exact this
        · rw [if_neg he]
          exact Ev.pos ((bne_iff _ _).2 he) (Ev.some_ rfl)
      · have e1 : i = a.length := by omega
        subst e1
        rw [List.drop_length, applyGo_none _ _ _ h3]
        refine Ev.pos (by first | rfl | trivial) (Ev.succ ?_)
        simp only [spec_Apply.j2]
        exact Ev.pos (by first | rfl | trivial) (Ev.some_ rfl)
end
theorem spec_Apply_ev (a : List ByteArray) (l : List S31) (ha : Sized a) (hl : l.length ≤ 1000000000) (hx : ∀ x ∈ l, x.f1.size ≤ 140737488351232) : Ev (fun k => spec_Apply.f k a l) (applyL a l) := by
  simp only [spec_Apply.f]
  refine Ev.bnd (spec_l04Ok_ev a ha) ?_
  by_cases h1 : linesOk 300 a = true
  · refine Ev.pos h1 (Ev.bnd (spec_EditsOk_ev l (by omega) hx) (Ev.succ ?_))
    simp only [spec_Apply.j0]
    by_cases h2 : editsOk (l.map pr) = true
    · have l1 := linesOk_len h1
      refine Ev.neg (by rw [h2]; simp) ?_
      have := spec_Apply_l0 a l (by omega) hl l.length 0 0 [] (by omega) (by omega) (by simp)
      rw [applyL, if_pos ⟨h1, h2⟩]
      exact this
    · exact Ev.pos (by simp [h2]) (Ev.some_ (by rw [applyL, if_neg (fun h => h2 h.2)]))
  · refine Ev.neg h1 (Ev.succ ?_)
    simp only [spec_Apply.j0]
    exact Ev.pos (by first | rfl | trivial) (Ev.some_ (by rw [applyL, if_neg (fun h => h1 h.1)]))
theorem impl_inRange_eq (a b c : Int) : impl_inRange.f a b c = some (decide (b ≤ a ∧ a ≤ c)) := by
  unfold impl_inRange.f
  by_cases h : a ≥ b
  · rw [if_pos h]; simp [h]
  · rw [if_neg h]; simp; omega
theorem impl_EditsOk_ev (l : List S31) (hl : l.length ≤ 140737488351232) : Ev (fun k => impl_EditsOk.f k l) (editsOk (l.map pr)) := by
  simp only [impl_EditsOk.f]
  have key : ∀ (d i : Nat) (n m : Int), i + d = l.length → 0 ≤ n → n ≤ i → 0 ≤ m → m ≤ i → Ev (fun k => impl_EditsOk.l0 k n m l (l.length : Int) (i : Int)) (edGo ((l.drop i).map pr) n m) := by
    intro d
    induction d with
    | zero =>
      intro i n m hi hn0 hn hm0 hm
      refine Ev.succ ?_
      simp only [impl_EditsOk.l0]
      rw [drop_end l i (by omega)]
      refine Ev.neg (by omega) ?_
      simp only [List.map_nil, edGo]
      by_cases h : n ≤ 300
      · exact Ev.pos h (Ev.some_ (by simp [h]))
      · exact Ev.neg h (Ev.some_ (by simp [h]))
    | succ d ih =>
      intro i n m hi hn0 hn hm0 hm
      refine Ev.succ ?_
      simp only [impl_EditsOk.l0]
      have hr := rdE_nat l i (by omega)
      rw [hr, List.drop_eq_getElem_cons (show i < l.length by omega), List.map_cons]
      refine Ev.pos (by omega) (Ev.pos (by omega) (Ev.pos (by omega) (Ev.bnd0 (impl_inRange_eq _ _ _) ?_)))
      by_cases hk : 1 ≤ (l[i]'(by omega)).f0 ∧ (l[i]'(by omega)).f0 ≤ 3
      · refine Ev.pos (by simpa using hk) (Ev.bnd0 (impl_LineOk_eq _) (Ev.succ ?_))
        simp only [impl_EditsOk.j1]
        by_cases ho : lineOk (l[i]'(by omega)).f1 = true
        · refine Ev.neg (by simp [ho]) ?_
          have e1 : wrap64 (n + 1) = n + 1 := w64 (by omega) (by omega)
          have e2 : wrap64 (m + 1) = m + 1 := w64 (by omega) (by omega)
          rw [up1 i (by omega), e1, e2]
          rw [show pr (l[i]'(by omega)) = ((l[i]'(by omega)).f0, (l[i]'(by omega)).f1) from rfl, ed_step _ _ _ _ _ hk ho]
          clear e1 e2
          by_cases h3 : (l[i]'(by omega)).f0 = 3
          · refine Ev.pos h3 (Ev.neg (by omega) ?_)
            rw [if_pos h3, if_neg (by omega)]
            exact ih (i + 1) n (m + 1) (by omega) (by omega) (by omega) (by omega) (by omega)
          · refine Ev.neg h3 ?_
            rw [if_neg h3]
            by_cases h2 : (l[i]'(by omega)).f0 = 2
            · refine Ev.pos h2 ?_
              rw [if_pos h2]
              exact ih (i + 1) (n + 1) m (by omega) (by omega) (by omega) (by omega) (by omega)
            · refine Ev.neg h2 ?_
              rw [if_neg h2]
              exact ih (i + 1) (n + 1) (m + 1) (by omega) (by omega) (by omega) (by omega) (by omega)
        · refine Ev.pos (by simp [ho]) (Ev.some_ ?_)
          rw [show pr (l[i]'(by omega)) = ((l[i]'(by omega)).f0, (l[i]'(by omega)).f1) from rfl, edGo, if_neg (fun h => ho h.2.2)]
      · refine Ev.neg (by simpa using hk) (Ev.succ ?_)
        simp only [impl_EditsOk.j1]
        refine Ev.pos trivial (Ev.some_ ?_)
        rw [show pr (l[i]'(by omega)) = ((l[i]'(by omega)).f0, (l[i]'(by omega)).f1) from rfl, edGo, if_neg (fun h => hk ⟨h.1, h.2.1⟩)]
  exact key l.length 0 0 0 (by omega) (by omega) (by omega) (by omega) (by omega)
section
variable (a : List ByteArray) (l : List S31) (ha : a.length ≤ 1000000) (hl : l.length ≤ 1000000000)
include ha hl
theorem impl_Apply_l0 : ∀ (n i j : Nat) (acc : List ByteArray), j + n = l.length → i ≤ a.length → acc.length ≤ j → Ev (fun k => impl_Apply.l0 k a acc (i : Int) l (l.length : Int) (j : Int)) (applyGo (l.drop j) (a.drop i) acc) := by
  intro n
  induction n with
  | zero =>
    intro i j acc hj hi hc
    have e2 : j = l.length := by omega
    subst e2
    refine Ev.succ ?_
    simp only [impl_Apply.l0]
    rw [List.drop_length]
    refine Ev.neg (by omega) ?_
    by_cases h : i < a.length
    · rw [drop_cons'' a i h, applyGo_more]
      exact Ev.pos (by omega) (Ev.some_ rfl)
    · have e1 : i = a.length := by omega
      subst e1
      rw [List.drop_length, applyGo_end]
      exact Ev.neg (by omega) (Ev.some_ rfl)
  | succ n ih =>
    intro i j acc hj hi hc
    have hjl : j < l.length := by omega
    have hsz : ∀ e : ByteArray, (acc ++ [e]).length = acc.length + 1 := by intro e; simp
    refine Ev.succ ?_
    simp only [impl_Apply.l0]
    rw [up1 j (by omega), rdE_nat _ _ hjl, drop_cons'' l j hjl]
    refine Ev.pos (by omega) (Ev.pos (by omega) (Ev.pos (by omega) <| ?_))
    by_cases h3 : l[j].f0 = 3
    · rw [applyGo_3 _ _ _ _ h3]
      exact Ev.pos h3 (Ev.neg (by omega) (Ev.pos (by omega) (ih i (j + 1) (acc ++ [l[j].f1]) (by omega) hi (by rw [hsz]; omega))))
    · refine Ev.neg h3 ?_
      by_cases h : i < a.length
      · rw [drop_cons'' a i h, applyGo_some _ _ _ _ _ h3]
        refine Ev.neg (by omega) (Ev.pos (by omega) (Ev.pos (by omega) (Ev.succ ?_)))
        simp only [impl_Apply.j2]
        rw [up1 i (by omega), rdOf_nat _ _ _ h, up1 j (by omega)]
        by_cases he : a[i] = l[j].f1
        · rw [if_pos he]
          refine Ev.neg (fun h => (bne_iff _ _).1 h he) ((?_))
          by_cases h2 : l[j].f0 = 2
          · rw [if_pos h2]
            exact Ev.pos h2 (ih (i + 1) (j + 1) acc (by omega) (by omega) (by omega))
          · rw [if_neg h2]
            have := ih (i + 1) (j + 1) (acc ++ [l[j].f1]) (by omega) (by omega) (by rw [hsz]; omega)
            refine Ev.neg h2 (Ev.pos (by omega) ?_)
            
            exact this
        · rw [if_neg he]
          exact Ev.pos ((bne_iff _ _).2 he) (Ev.some_ rfl)
      · have e1 : i = a.length := by omega
        subst e1
        rw [List.drop_length, applyGo_none _ _ _ h3]
        refine Ev.pos (by first | rfl | trivial) (Ev.succ ?_)
        simp only [impl_Apply.j2]
        exact Ev.pos (by first | rfl | trivial) (Ev.some_ rfl)
end
theorem impl_Apply_ev (a : List ByteArray) (l : List S31) (ha : Sized a) (hl : l.length ≤ 1000000000) : Ev (fun k => impl_Apply.f k a l) (applyL a l) := by
  simp only [impl_Apply.f]
  refine Ev.bnd (impl_canAlign_ev a ha) ?_
  by_cases h1 : linesOk 300 a = true
  · refine Ev.pos h1 (Ev.bnd (impl_EditsOk_ev l (by omega)) (Ev.succ ?_))
    simp only [impl_Apply.j0]
    by_cases h2 : editsOk (l.map pr) = true
    · have l1 := linesOk_len h1
      refine Ev.neg (by rw [h2]; simp) ?_
      have := impl_Apply_l0 a l (by omega) hl l.length 0 0 [] (by omega) (by omega) (by simp)
      rw [applyL, if_pos ⟨h1, h2⟩]
      exact this
    · exact Ev.pos (by simp [h2]) (Ev.some_ (by rw [applyL, if_neg (fun h => h2 h.2)]))
  · refine Ev.neg h1 (Ev.succ ?_)
    simp only [impl_Apply.j0]
    exact Ev.pos (by first | rfl | trivial) (Ev.some_ (by rw [applyL, if_neg (fun h => h1 h.1)]))
def back1 (e : S31) : S31 := if e.f0 = 2 then ⟨3, e.f1⟩ else if e.f0 = 3 then ⟨2, e.f1⟩ else e
def backL (l : List S31) : List S31 := if editsOk (l.map pr) = true then l.map back1 else []
theorem edGo_kinds : ∀ (l : List (Int × ByteArray)) (n m : Int), edGo l n m = true → ∀ e ∈ l, 1 ≤ e.1 ∧ e.1 ≤ 3 ∧ lineOk e.2 = true
  | [], _, _, _ => by simp
  | (k, s) :: l, n, m, h => by
    simp only [edGo] at h
    split at h
    · rename_i hk
      intro e he
      rcases List.mem_cons.1 he with rfl | he
      · exact hk
      · exact edGo_kinds l _ _ h e he
    · cases h
theorem backL_length (l : List S31) : (backL l).length ≤ l.length := by
  unfold backL
  split <;> simp
/-- Back of right edits is right: the two numbers change places. -/
theorem back_ok : ∀ (l : List S31) (n m : Int), edGo (l.map pr) n m = true → edGo ((l.map back1).map pr) m n = true
  | [], n, m, h => by
    simp only [List.map_nil, edGo] at *
    rw [Bool.and_comm]; exact h
  | e :: l, n, m, h => by
    simp only [List.map_cons, pr, edGo] at h ⊢
    split at h
    · rename_i hk
      by_cases h2 : e.f0 = 2
      · rw [h2, if_neg (by decide), if_pos rfl] at h
        have hb : back1 e = ⟨3, e.f1⟩ := by simp [back1, h2]
        rw [hb]
        rw [if_pos ⟨show (1 : Int) ≤ 3 by decide, show (3 : Int) ≤ 3 by decide, hk.2.2⟩, if_pos rfl, if_neg (show ¬ (3 : Int) = 2 by decide)]
        exact back_ok l _ _ h
      · by_cases h3 : e.f0 = 3
        · rw [h3, if_pos rfl, if_neg (by decide)] at h
          have hb : back1 e = ⟨2, e.f1⟩ := by simp [back1, h3]
          rw [hb]
          rw [if_pos ⟨show (1 : Int) ≤ 2 by decide, show (2 : Int) ≤ 3 by decide, hk.2.2⟩, if_neg (show ¬ (2 : Int) = 3 by decide), if_pos rfl]
          exact back_ok l _ _ h
        · rw [if_neg h3, if_neg h2] at h
          have hb : back1 e = e := by simp [back1, h2, h3]
          rw [hb, if_pos hk, if_neg h3, if_neg h2]
          exact back_ok l _ _ h
    · cases h
theorem impl_Back_ev (l : List S31) (hl : l.length ≤ 100000000) : Ev (fun k => impl_Back.f k l) (backL l) := by
  simp only [impl_Back.f]
  refine Ev.bnd (impl_EditsOk_ev l (by omega)) ?_
  unfold backL
  by_cases h : editsOk (l.map pr) = true
  · rw [if_pos h]
    refine Ev.pos h ?_
    have key : ∀ (n i : Nat) (x : List S31), i + n = l.length → x = (l.take i).map back1 → Ev (fun k => impl_Back.l0 k x l (l.length : Int) (i : Int)) (l.map back1) := by
      intro n
      induction n with
      | zero =>
        intro i x hi hx
        refine Ev.succ ?_
        simp only [impl_Back.l0]
        exact Ev.neg (by omega) (Ev.some_ (by rw [hx, List.take_of_length_le (by omega)]))
      | succ n ih =>
        intro i x hi hx
        refine Ev.succ ?_
        simp only [impl_Back.l0]
        have hr := rdE_nat l i (by omega)
        have hxl : x.length = i := by rw [hx]; simp; omega
        rw [hr, up1 i (by omega)]
        have hnext : ∀ e, e = back1 (l[i]'(by omega)) → x ++ [e] = (l.take (i + 1)).map back1 := by
          intro e he
          rw [List.take_succ_eq_append_getElem (by omega), List.map_append, ← hx, he]
          rfl
        refine Ev.pos (by omega) (Ev.pos (by omega) (Ev.pos (by omega) ?_))
        by_cases h2 : (l[i]'(by omega)).f0 = 2
        · exact Ev.pos h2 (Ev.pos (by omega) (ih (i + 1) _ (by omega) (hnext _ (by unfold back1; rw [if_pos h2]))))
        · refine Ev.neg h2 ?_
          by_cases h3 : (l[i]'(by omega)).f0 = 3
          · exact Ev.pos h3 (Ev.pos (by omega) (ih (i + 1) _ (by omega) (hnext _ (by unfold back1; rw [if_neg h2, if_pos h3]))))
          · exact Ev.neg h3 (Ev.pos (by omega) (ih (i + 1) _ (by omega) (hnext _ (by unfold back1; rw [if_neg h2, if_neg h3]))))
    exact key l.length 0 [] (by omega) rfl
  · rw [if_neg h]
    exact Ev.neg h (Ev.now _)
def lcsLen (a b : List ByteArray) : Int := if linesOk 300 a = true ∧ linesOk 300 b = true then (lcs a b : Int) else 0
theorem TT_00 (a b : List ByteArray) : TT a b 0 0 = lcs a b := by simp [TT]
def distance (a b : List ByteArray) : Int := if linesOk 300 a = true ∧ linesOk 300 b = true then (a.length : Int) + b.length - 2 * (lcs a b : Int) else -1
theorem impl_Distance_ev (a b : List ByteArray) (ha : Sized a) (hb : Sized b) : Ev (fun k => impl_Distance.f k a b) (distance a b) := by
  simp only [impl_Distance.f]
  refine Ev.bnd (impl_canAlign_ev a ha) ?_
  by_cases h1 : linesOk 300 a = true
  · refine Ev.pos h1 (Ev.bnd (impl_canAlign_ev b hb) ?_)
    by_cases h2 : linesOk 300 b = true
    · have l1 := linesOk_len h1
      have l2 := linesOk_len h2
      obtain ⟨x, hx, ht⟩ := impl_commonFrom_ev a b (by omega) (by omega)
      have hl := tab_len ht 0 (by omega)
      have hv : rd (rd_L3 x 0) 0 = (lcs a b : Int) := by rw [← TT_00]; exact tab_at ht 0 0 (by omega) (by omega)
      have hxl := ht.1
      have hle := lcs_le_left a b
      refine Ev.pos h2 (Ev.bnd hx (Ev.pos (by omega) (Ev.pos ?_ (Ev.some_ ?_))))
      · have : (rd_L3 x 0).length = b.length + 1 := hl
        omega
      · rw [distance, if_pos ⟨h1, h2⟩, hv, show wrap64 ((a.length : Int) + (b.length : Int)) = (a.length : Int) + b.length from w64 (by omega) (by omega), show wrap64 (2 * (lcs a b : Int)) = 2 * (lcs a b : Int) from w64 (by omega) (by omega)]
        exact w64 (by omega) (by omega)
    · exact Ev.neg h2 (Ev.some_ (by rw [distance, if_neg (fun h => h2 h.2)]))
  · exact Ev.neg h1 (Ev.some_ (by rw [distance, if_neg (fun h => h1 h.1)]))
theorem laws_sameTexts_refl (l : List ByteArray) (hl : l.length ≤ 140737488351232) : Ev (fun k => laws_sameTexts.f k l l) true := by
  simp only [laws_sameTexts.f]
  refine Ev.pos (by first | rfl | trivial) ?_
  have key : ∀ (n i : Nat), i + n = l.length → Ev (fun k => laws_sameTexts.l0 k l l (i : Int)) true := by
    intro n
    induction n with
    | zero =>
      intro i hi
      refine Ev.succ ?_
      simp only [laws_sameTexts.l0]
      exact Ev.neg (by omega) (Ev.now _)
    | succ n ih =>
      intro i hi
      refine Ev.succ ?_
      simp only [laws_sameTexts.l0]
      have e : wrap64 ((i : Int) + 1) = ((i + 1 : Nat) : Int) := by rw [w64 (by omega) (by omega)]; omega
      rw [e]
      exact Ev.pos (by omega) (Ev.pos (by omega) (Ev.pos (by omega) (Ev.pos (by first | rfl | trivial) (ih (i + 1) (by omega)))))
  exact key l.length 0 (by omega)
theorem laws_sameEdits_refl (l : List S31) (hl : l.length ≤ 140737488351232) : Ev (fun k => laws_sameEdits.f k l l) true := by
  simp only [laws_sameEdits.f]
  refine Ev.pos (by first | rfl | trivial) ?_
  have key : ∀ (n i : Nat), i + n = l.length → Ev (fun k => laws_sameEdits.l0 k l l (i : Int)) true := by
    intro n
    induction n with
    | zero =>
      intro i hi
      refine Ev.succ ?_
      simp only [laws_sameEdits.l0]
      exact Ev.neg (by omega) (Ev.now _)
    | succ n ih =>
      intro i hi
      refine Ev.succ ?_
      simp only [laws_sameEdits.l0]
      rw [up1 i (by omega)]
      exact Ev.pos (by omega) (Ev.pos (by omega) (Ev.pos (by omega) (Ev.neg (by simp) (ih (i + 1) (by omega)))))
  exact key l.length 0 (by omega)
/-- How many are not kept. -/
def moves : List S31 → Nat
  | [] => 0
  | e :: l => if e.f0 = 1 then moves l else moves l + 1
/-- What edits make of a list is as far from it, at the most, as the edits that do not keep; and it has right lines. -/
theorem apply_far : ∀ (l : List S31) (a out r : List ByteArray) (n m : Int), edGo (l.map pr) n m = true → applyGo l a out = (r, true) → ∃ b, r = out ++ b ∧ allOk b = true ∧ m + b.length ≤ 300 ∧ a.length + b.length ≤ moves l + 2 * lcs a b
  | [], [], out, r, n, m, hk, h => by
    rw [applyGo_end] at h
    simp only [List.map_nil, edGo, Bool.and_eq_true, decide_eq_true_eq] at hk
    exact ⟨[], by rw [List.append_nil]; exact (Prod.mk.inj h).1.symm, rfl, by simp; omega, by simp [moves]⟩
  | [], x :: a, out, r, n, m, hk, h => by
    rw [applyGo_more] at h
    exact absurd (Prod.mk.inj h).2 (by decide)
  | e :: l, a, out, r, n, m, hk, h => by
    simp only [List.map_cons, pr, edGo] at hk
    split at hk
    · rename_i hkk
      by_cases h3 : e.f0 = 3
      · rw [applyGo_3 _ _ _ _ h3] at h
        rw [if_pos h3, if_neg (by omega)] at hk
        obtain ⟨b, hb, ob, lb, fb⟩ := apply_far l a _ r _ _ hk h
        refine ⟨e.f1 :: b, by rw [hb, List.append_assoc]; rfl, by simp only [allOk, List.all_cons, Bool.and_eq_true]; exact ⟨hkk.2.2, ob⟩, by simp only [List.length_cons]; omega, ?_⟩
        have := lcs_mono_right a b e.f1
        simp only [moves, List.length_cons]
        rw [if_neg (by omega)]
        omega
      · rw [if_neg h3] at hk
        cases a with
        | nil =>
          rw [applyGo_none _ _ _ h3] at h
          exact absurd (Prod.mk.inj h).2 (by decide)
        | cons x a =>
          rw [applyGo_some _ _ _ _ _ h3] at h
          by_cases hx : x = e.f1
          · rw [if_pos hx] at h
            by_cases h2 : e.f0 = 2
            · rw [if_pos h2] at h hk
              obtain ⟨b, hb, ob, lb, fb⟩ := apply_far l a _ r _ _ hk h
              refine ⟨b, hb, ob, lb, ?_⟩
              have := lcs_mono_left a b x
              simp only [moves, List.length_cons]
              rw [if_neg (by omega)]
              omega
            · rw [if_neg h2] at h hk
              obtain ⟨b, hb, ob, lb, fb⟩ := apply_far l a _ r _ _ hk h
              refine ⟨e.f1 :: b, by rw [hb, List.append_assoc]; rfl, by simp only [allOk, List.all_cons, Bool.and_eq_true]; exact ⟨hkk.2.2, ob⟩, by simp only [List.length_cons]; omega, ?_⟩
              rw [lcs_cons, if_pos hx]
              simp only [moves, List.length_cons]
              rw [if_pos (by omega)]
              omega
          · rw [if_neg hx] at h
            exact absurd (Prod.mk.inj h).2 (by decide)
    · cases hk
theorem back_back (l : List S31) (n m : Int) (h : edGo (l.map pr) n m = true) : (l.map back1).map back1 = l := by
  rw [List.map_map]
  conv => rhs; rw [← List.map_id l]
  apply List.map_congr_left
  intro e he
  have hk := edGo_kinds _ _ _ h (pr e) (List.mem_map_of_mem he)
  simp only [pr] at hk
  cases e with
  | mk k s =>
    by_cases h2 : k = 2
    · subst h2; simp [back1]
    · by_cases h3 : k = 3
      · subst h3; simp [back1]
      · simp [back1, h2, h3]
theorem moves_le : ∀ l : List S31, moves l ≤ l.length
  | [] => by simp [moves]
  | e :: l => by
    have := moves_le l
    simp only [moves, List.length_cons]
    split <;> omega
theorem laws_FnLeast_key (a : List ByteArray) (l : List S31) (b : List ByteArray) (ha : Sized a) (hl : l.length ≤ 10000) (hok : applyL a l = (b, true)) : Ev (fun k => laws_FnLeast.j0 k a l b) true := by
  have hc : linesOk 300 a = true ∧ editsOk (l.map pr) = true := by
    by_cases h : linesOk 300 a = true ∧ editsOk (l.map pr) = true
    · exact h
    · rw [applyL, if_neg h] at hok
      exact absurd (Prod.mk.inj hok).2 (by decide)
  have hok' := hok
  rw [applyL, if_pos hc] at hok'
  obtain ⟨b', hb, ob, lb, fb⟩ := apply_far l a [] b 0 0 hc.2 hok'
  rw [List.nil_append] at hb
  subst hb
  have hb3 : linesOk 300 b = true := by
    rw [linesOk, ob, Bool.and_true, decide_eq_true_eq]
    omega
  have sb : Sized b := by
    refine ⟨by omega, fun x hx => ?_⟩
    have := lineOk_size (List.all_eq_true.1 ob x hx)
    omega
  have hdi : distance a b = (a.length : Int) + b.length - 2 * (lcs a b : Int) := by rw [distance, if_pos ⟨hc.1, hb3⟩]
  have hle := lcs_le_left a b
  have hle' := lcs_le_right a b
  have hm := moves_le l
  have hb1 : backL l = l.map back1 := by rw [backL, if_pos hc.2]
  have hk2 : editsOk ((l.map back1).map pr) = true := back_ok l 0 0 hc.2
  have hb2 : backL (l.map back1) = l := by rw [backL, if_pos hk2, back_back l 0 0 hc.2]
  refine Ev.succ ?_
  simp only [laws_FnLeast.j0]
  have key : ∀ (n j c : Nat), j + n = l.length → c + moves (l.drop j) = moves l → Ev (fun k => laws_FnLeast.l0 k a l b (c : Int) (j : Int)) true := by
    intro n
    induction n with
    | zero =>
      intro j c hj hcm
      refine Ev.succ ?_
      simp only [laws_FnLeast.l0]
      rw [List.drop_eq_nil_of_le (by omega)] at hcm
      simp only [moves] at hcm
      refine Ev.neg (by omega) (Ev.bnd (impl_Apply_ev a l ha (by omega)) (Ev.bnd (impl_Distance_ev a b ha sb) ?_))
      rw [hok]
      refine Ev.pos (by first | rfl | trivial) (Ev.bnd (laws_sameTexts_refl b sb.1) (Ev.pos (by first | rfl | trivial) (Ev.pos (by rw [hdi]; omega) (Ev.pos (by rw [hdi]; omega) (Ev.bnd (impl_Back_ev l (by omega)) ?_)))))
      rw [hb1]
      refine Ev.bnd (impl_Back_ev _ (by rw [List.length_map]; omega)) ?_
      rw [hb2]
      exact Ev.bnd (laws_sameEdits_refl l (by omega)) (Ev.now _)
    | succ n ih =>
      intro j c hj hcm
      have hjl : j < l.length := by omega
      refine Ev.succ ?_
      simp only [laws_FnLeast.l0]
      rw [drop_cons'' l j hjl] at hcm
      simp only [moves] at hcm
      rw [rdE_nat _ _ hjl, up1 j (by omega)]
      refine Ev.pos (by omega) (Ev.pos (by omega) ?_)
      by_cases h : l[j].f0 = 1
      · rw [if_pos h] at hcm
        exact Ev.pos h (ih (j + 1) c (by omega) hcm)
      · rw [if_neg h] at hcm
        rw [up1 c (by omega)]
        exact Ev.neg h (ih (j + 1) (c + 1) (by omega) (by omega))
  exact key l.length 0 0 (by omega) (by rw [List.drop_zero]; omega)
theorem FnLeast : laws_FnLeast.Pure := by
  intro l hl
  refine Ev.rounds (r := true) ?_
  simp only [laws_FnLeast.f]
  refine Ev.bnd0 (laws_big_eq l) ?_
  by_cases hb : decide ((l.length : Int) > 1048576) = true
  · exact Ev.pos hb (Ev.now _)
  refine Ev.neg hb ?_
  obtain ⟨a, e, hd, sa, la, le, he⟩ := spec_DrawApply_ev l (by omega)
  refine Ev.bnd hd (Ev.bnd (spec_Apply_ev a e sa (by omega) he) ?_)
  by_cases h : (applyL a e).2 = true
  · refine Ev.pos h (laws_FnLeast_key a e _ sa le ?_)
    exact Prod.ext rfl h
  · refine Ev.neg h (laws_FnLeast_key _ _ _ (sized_of (by simp) (by decide)) (by simp) ?_)
    decide

end Go.Proofs.Ytjdjcbjeklliaaa.Pure
