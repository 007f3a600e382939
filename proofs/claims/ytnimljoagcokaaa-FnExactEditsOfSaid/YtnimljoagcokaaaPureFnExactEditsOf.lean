/- The program's EditsOf returns what the reference's returns, for any two lists of texts that the row reads; the lists are left as they were, and the answer shares nothing with them or with a later answer. -/
import Derived.Test.YtnimljoagcokaaaPFnExactEditsOfx9
import Derived.Test.YtnimljoagcokaaaLcs
import Derived.Test.YtnimljoagcokaaaGen
namespace Go.Proofs.Ytnimljoagcokaaa.Pure
open Go.RowKit Go.Proofs.Ytnimljoagcokaaa.PFnExactEditsOf Go.Proofs.YtnimljoagcokaaaW.PrintWords Go.Proofs.YtnimljoagcokaaaW.PrintLast Go.Proofs.YtnimljoagcokaaaG Go.Proofs.YtnimljoagcokaaaL

theorem laws_szStringS_ev (l : List ByteArray) (m : Int) (hm0 : 0 ≤ m) (hm : m ≤ 140737488351232) (hl : l.length ≤ 140737488351232) (hx : ∀ x ∈ l, x.size ≤ 140737488351232) : ∃ r, Ev (fun k => laws_szStringS.f k l m) r ∧ (0 ≤ r → (l.length : Int) + r ≤ m ∧ ∀ x ∈ l, ((x.size : Nat) : Int) ≤ m) := by
  have key : ∀ (n i : Nat) (c : Int), i + n = l.length → 0 ≤ c → c ≤ 140737488351232 → ∃ r, Ev (fun k => laws_szStringS.l0 k l c (i : Int)) r ∧ (0 ≤ r → r ≤ c ∧ ∀ x ∈ l.drop i, ((x.size : Nat) : Int) ≤ c) := by
    intro n
    induction n with
    | zero =>
      intro i c hi hc0 hc
      refine ⟨c, Ev.succ ?_, fun _ => ⟨Int.le_refl _, ?_⟩⟩
      · simp only [laws_szStringS.l0]
        exact Ev.neg (by omega) (Ev.now _)
      · rw [drop_end l i (by omega)]
        simp
    | succ n ih =>
      intro i c hi hc0 hc
      have hr : rdOf ByteArray.empty l (i : Int) = l[i]'(by omega) := by simp [rdOf, List.getD, List.getElem?_eq_getElem (show i < l.length by omega)]
      have hs := hx _ (List.getElem_mem (show i < l.length by omega))
      have hd : l.drop i = l[i]'(by omega) :: l.drop (i + 1) := List.drop_eq_getElem_cons (by omega)
      have hw : wrap64 (c - (((rdOf ByteArray.empty l (i : Int)).size : Nat) : Int)) = c - (((l[i]'(by omega)).size : Nat) : Int) := by rw [hr]; exact w64 (by omega) (by omega)
      by_cases h : c - (((l[i]'(by omega)).size : Nat) : Int) < 0
      · refine ⟨-1, Ev.succ ?_, fun h => absurd h (by omega)⟩
        simp only [laws_szStringS.l0]
        exact Ev.pos (by omega) (Ev.pos (by omega) (Ev.pos (by rw [hw]; exact h) (Ev.now _)))
      · obtain ⟨r, hev, hp⟩ := ih (i + 1) (c - (((l[i]'(by omega)).size : Nat) : Int)) (by omega) (by omega) (by omega)
        refine ⟨r, Ev.succ ?_, fun h0 => ?_⟩
        · simp only [laws_szStringS.l0]
          refine Ev.pos (by omega) (Ev.pos (by omega) (Ev.neg (by rw [hw]; exact h) ?_))
          rw [up1 i (by omega), hw]
          exact hev
        · obtain ⟨p1, p2⟩ := hp h0
          refine ⟨by omega, fun x hx => ?_⟩
          rw [hd] at hx
          rcases List.mem_cons.1 hx with rfl | hx
          · omega
          · have := p2 x hx
            omega
  simp only [laws_szStringS.f]
  by_cases h : wrap64 (m - (l.length : Int)) < 0
  · exact ⟨-1, Ev.pos h (Ev.now _), fun h => absurd h (by omega)⟩
  · have h1 : ¬ (m - (l.length : Int) < 0) := by rw [w64 (by omega) (by omega)] at h; exact h
    obtain ⟨r, hr, hp⟩ := key l.length 0 (m - (l.length : Int)) (by omega) (by omega) (by omega)
    refine ⟨r, Ev.neg h ?_, fun h0 => ?_⟩
    · rw [w64 (by omega) (by omega)]
      exact hr
    · obtain ⟨p1, p2⟩ := hp h0
      refine ⟨by omega, fun x hx => ?_⟩
      have := p2 x (by simpa using hx)
      omega
theorem laws_toStringS_l0 (l : List ByteArray) (hl : l.length ≤ 140737488351232) : ∀ (n i : Nat) (x : List ByteArray), i + n = l.length → x.length = l.length → (∀ j, j < i → x[j]? = l[j]?) → Ev (fun k => laws_toStringS.l0 k l x (i : Int)) l := by
  intro n
  induction n with
  | zero =>
    intro i x hi hx hj
    refine Ev.succ ?_
    simp only [laws_toStringS.l0]
    refine Ev.neg (by omega) (Ev.some_ ?_)
    apply List.ext_getElem?
    intro j
    by_cases h : j < i
    · exact hj j h
    · rw [List.getElem?_eq_none (by omega), List.getElem?_eq_none (by omega)]
  | succ n ih =>
    intro i x hi hx hj
    refine Ev.succ ?_
    simp only [laws_toStringS.l0]
    refine Ev.pos (by omega) (Ev.pos (by omega) (Ev.pos (by omega) ?_))
    have e : wrap64 ((i : Int) + 1) = ((i + 1 : Nat) : Int) := by rw [w64 (by omega) (by omega)]; omega
    have e2 : ((i : Int)).toNat = i := by omega
    rw [e, e2]
    refine ih (i + 1) _ (by omega) (by rw [List.length_set]; exact hx) ?_
    intro j hj'
    by_cases h : j = i
    · subst h
      rw [List.getElem?_set_self (by omega)]
      simp [rdOf, List.getD, List.getElem?_eq_getElem (show j < l.length by omega)]
    · rw [List.getElem?_set_ne (by omega)]
      exact hj j (by omega)
theorem laws_toStringS_ev (l : List ByteArray) (hl : l.length ≤ 17592186044416) : Ev (fun k => laws_toStringS.f k l) l := by
  simp only [laws_toStringS.f]
  refine Ev.pos (by omega) (Ev.pos (by omega) ?_)
  exact laws_toStringS_l0 l (by omega) l.length 0 _ (by omega) (by simp) (fun j h => absurd h (by omega))
theorem laws_eqStringS_refl (l : List ByteArray) (hl : l.length ≤ 140737488351232) : Ev (fun k => laws_eqStringS.f k l l) true := by
  simp only [laws_eqStringS.f]
  refine Ev.pos (by first | rfl | trivial) ?_
  have key : ∀ (n i : Nat), i + n = l.length → Ev (fun k => laws_eqStringS.l0 k l l (i : Int)) true := by
    intro n
    induction n with
    | zero =>
      intro i hi
      refine Ev.succ ?_
      simp only [laws_eqStringS.l0]
      exact Ev.neg (by omega) (Ev.now _)
    | succ n ih =>
      intro i hi
      refine Ev.succ ?_
      simp only [laws_eqStringS.l0]
      have e : wrap64 ((i : Int) + 1) = ((i + 1 : Nat) : Int) := by rw [w64 (by omega) (by omega)]; omega
      rw [e]
      exact Ev.pos (by omega) (Ev.pos (by omega) (Ev.pos (by omega) (Ev.pos (by first | rfl | trivial) (ih (i + 1) (by omega)))))
  exact key l.length 0 (by omega)
/-! edits: kinds and lines -/
def edGo : List (Int × ByteArray) → Int → Int → Bool
  | [], n, m => decide (n ≤ 300) && decide (m ≤ 300)
  | (k, s) :: l, n, m => if 1 ≤ k ∧ k ≤ 3 ∧ lineOk s = true then edGo l (if k = 3 then n else n + 1) (if k = 2 then m else m + 1) else false
def editsOk (l : List (Int × ByteArray)) : Bool := edGo l 0 0
def pr (e : S57) : Int × ByteArray := (e.f0, e.f1)
theorem rdE_nat (l : List S57) (i : Nat) (h : i < l.length) : rd_T57 l (i : Int) = l[i] := by
  simp [rd_T57, List.getD, List.getElem?_eq_getElem h]
theorem laws_eqEditS_refl (l : List S57) (hl : l.length ≤ 140737488351232) : Ev (fun k => laws_eqEditS.f k l l) true := by
  simp only [laws_eqEditS.f]
  refine Ev.pos (by first | rfl | trivial) ?_
  have key : ∀ (n i : Nat), i + n = l.length → Ev (fun k => laws_eqEditS.l0 k l l (i : Int)) true := by
    intro n
    induction n with
    | zero =>
      intro i hi
      refine Ev.succ ?_
      simp only [laws_eqEditS.l0]
      exact Ev.neg (by omega) (Ev.now _)
    | succ n ih =>
      intro i hi
      refine Ev.succ ?_
      simp only [laws_eqEditS.l0]
      refine Ev.pos (by omega) (Ev.pos (by omega) (Ev.pos (by omega) ?_))
      rw [up1 i (by omega)]
      exact Ev.bnd0 (a := true) (by simp [laws_eqEdit.f]) (Ev.pos rfl (ih (i + 1) (by omega)))
  exact key l.length 0 (by omega)
/-! the laws' marks as texts -/
def mtGo : Nat → Int → ByteArray → ByteArray
  | 0, _, s => (⟨#[109]⟩ : ByteArray) ++ s
  | f + 1, n, s => if n > 0 then mtGo f (n / 10) (strOfNums [48 + n % 10] ++ s) else (⟨#[109]⟩ : ByteArray) ++ s
def mt (n : Int) : ByteArray := if n ≤ 0 then (⟨#[109, 48]⟩ : ByteArray) else mtGo 13 n (⟨#[]⟩ : ByteArray)
def FitsT : Nat → Int → Prop
  | 0, n => n ≤ 0
  | f + 1, n => FitsT f (n / 10)
theorem fitsT {n : Int} (h : n ≤ 1000000000000) : FitsT 13 n := by
  simp only [FitsT]
  omega
theorem laws_markText_l0 : ∀ (f : Nat) (n : Int) (s : ByteArray), FitsT f n → n ≤ 1000000000000 → s.size + f < 1000 → Ev (fun k => laws_markText.l0 k n s) (mtGo f n s) := by
  intro f
  induction f with
  | zero =>
    intro n s hf hn hs
    simp only [FitsT] at hf
    refine Ev.succ ?_
    simp only [laws_markText.l0]
    exact Ev.neg (by omega) (Ev.pos (by omega) (Ev.some_ rfl))
  | succ f ih =>
    intro n s hf hn hs
    simp only [FitsT] at hf
    refine Ev.succ ?_
    simp only [laws_markText.l0]
    by_cases h : n > 0
    · rw [Int.tmod_eq_emod_of_nonneg (show 0 ≤ n by omega), Int.tdiv_eq_ediv_of_nonneg (show 0 ≤ n by omega)]
      rw [show wrap64 (48 + n % 10) = 48 + n % 10 from w64 (by omega) (by omega), show wrap64 (n / 10) = n / 10 from w64 (by omega) (by omega), show (48 + n % 10) % 256 = 48 + n % 10 from by omega]
      have hz : (strOfNums [48 + n % 10]).size = 1 := by rw [strOfNums_size]; rfl
      refine Ev.pos h (Ev.bnd0 rfl (Ev.pos (by omega) ?_))
      have := ih (n / 10) (strOfNums [48 + n % 10] ++ s) hf (by omega) (by rw [size_append]; omega)
      simp only [mtGo]
      rw [if_pos h]
      exact this
    · simp only [mtGo]
      rw [if_neg h]
      exact Ev.neg h (Ev.pos (by omega) (Ev.some_ rfl))
theorem laws_markText_ev (n : Int) (hn : n ≤ 1000000000000) : Ev (fun k => laws_markText.f k n) (mt n) := by
  simp only [laws_markText.f]
  unfold mt
  by_cases h : n ≤ 0
  · rw [if_pos h]
    exact Ev.pos h (Ev.now _)
  · rw [if_neg h]
    exact Ev.neg h (laws_markText_l0 13 n _ (fitsT hn) hn (by decide))
theorem laws_markStringS_ev (l : List ByteArray) (m : Int) (hl : l.length ≤ 100000000) (hm0 : 0 ≤ m) (hm : m ≤ 100000000) : Ev (fun k => laws_markStringS.f k l m) (m + l.length, markL mt m l.length) := by
  simp only [laws_markStringS.f]
  have key : ∀ (n i : Nat) (x : List ByteArray) (c : Int), i + n = l.length → x.length = l.length → c = m + i → (∀ j, j < i → x[j]? = (markL mt m l.length)[j]?) → Ev (fun k => laws_markStringS.l0 k x c (i : Int)) (m + l.length, markL mt m l.length) := by
    intro n
    induction n with
    | zero =>
      intro i x c hi hx hc hj
      refine Ev.succ ?_
      simp only [laws_markStringS.l0]
      refine Ev.neg (by omega) (Ev.some_ ?_)
      have : x = markL mt m l.length := by
        apply List.ext_getElem?
        intro j
        by_cases h : j < i
        · exact hj j h
        · rw [List.getElem?_eq_none (by omega), List.getElem?_eq_none (by rw [markL_length]; omega)]
      rw [this, hc, show i = l.length by omega]
    | succ n ih =>
      intro i x c hi hx hc hj
      refine Ev.succ ?_
      simp only [laws_markStringS.l0]
      refine Ev.pos (by omega) (Ev.bnd (laws_markText_ev _ (by omega)) (Ev.pos (by omega) ?_))
      have e : wrap64 ((i : Int) + 1) = ((i + 1 : Nat) : Int) := by rw [w64 (by omega) (by omega)]; omega
      have e1 : wrap64 (c + 1) = c + 1 := w64 (by omega) (by omega)
      have e2 : ((i : Int)).toNat = i := by omega
      rw [e, e1, e2]
      refine ih (i + 1) _ _ (by omega) (by rw [List.length_set]; exact hx) (by omega) ?_
      intro j hj'
      by_cases h : j = i
      · subst h
        rw [List.getElem?_set_self (by omega), markL_get _ _ _ _ (by omega), hc]
      · rw [List.getElem?_set_ne (by omega)]
        exact hj j (by omega)
  exact key l.length 0 l m (by omega) rfl (by omega) (fun j h => absurd h (by omega))
def mkE (m : Int) (n : Nat) : List S57 := (List.range n).map fun i => ⟨m + 2 * (i : Nat), mt (m + 2 * (i : Nat) + 1)⟩
theorem mkE_length (m : Int) (n : Nat) : (mkE m n).length = n := by simp [mkE]
theorem mkE_get (m : Int) (n j : Nat) (h : j < n) : (mkE m n)[j]? = some ⟨m + 2 * (j : Nat), mt (m + 2 * (j : Nat) + 1)⟩ := by simp [mkE, h]
theorem laws_markEditS_ev (l : List S57) (m : Int) (hl : l.length ≤ 100000000) (hm0 : 0 ≤ m) (hm : m ≤ 100000000) : Ev (fun k => laws_markEditS.f k l m) (m + 2 * (l.length : Int), mkE m l.length) := by
  simp only [laws_markEditS.f]
  have key : ∀ (n i : Nat) (x : List S57), i + n = l.length → x.length = l.length → (∀ j, j < i → x[j]? = (mkE m l.length)[j]?) → Ev (fun k => laws_markEditS.l0 k x (m + 2 * (i : Int)) (i : Int)) (m + 2 * (l.length : Int), mkE m l.length) := by
    intro n
    induction n with
    | zero =>
      intro i x hi hx hj
      refine Ev.succ ?_
      simp only [laws_markEditS.l0]
      refine Ev.neg (by omega) (Ev.some_ ?_)
      have : x = mkE m l.length := by
        apply List.ext_getElem?
        intro j
        by_cases h : j < i
        · exact hj j h
        · rw [List.getElem?_eq_none (by omega), List.getElem?_eq_none (by rw [mkE_length]; omega)]
      rw [this, show i = l.length by omega]
    | succ n ih =>
      intro i x hi hx hj
      refine Ev.succ ?_
      simp only [laws_markEditS.l0]
      refine Ev.pos (by omega) (Ev.pos (by omega) (Ev.bnd0 rfl ?_))
      rw [show wrap64 (m + 2 * (i : Int) + 1) = m + 2 * (i : Int) + 1 from w64 (by omega) (by omega), show wrap64 (m + 2 * (i : Int) + 1 + 1) = m + 2 * ((i + 1 : Nat) : Int) from by rw [w64 (by omega) (by omega)]; omega, up1 i (by omega), Int.toNat_natCast]
      refine Ev.bnd (laws_markText_ev _ (by omega)) ?_
      have hrd : ∀ y : List S57, y.length = l.length → ∀ e, (rd_T57 (y.set i e) (i : Int)) = e := by
        intro y hy e
        rw [rdE_nat _ i (by rw [List.length_set]; omega), List.getElem_set_self]
      rw [hrd x hx, List.set_set]
      refine ih (i + 1) _ (by omega) (by rw [List.length_set]; exact hx) ?_
      intro j hj'
      by_cases h : j = i
      · subst h
        rw [List.getElem?_set_self (by omega), mkE_get _ _ _ (by omega)]
      · rw [List.getElem?_set_ne (by omega)]
        exact hj j (by omega)
  have := key l.length 0 l (by omega) rfl (fun j h => absurd h (by omega))
  have e : m + 2 * ((0 : Nat) : Int) = m := by omega
  rw [e] at this
  exact this
theorem laws_heldEditS_ev (m : Int) (n0 : Nat) (hl : n0 ≤ 100000000) (hm0 : 0 ≤ m) (hm : m ≤ 100000000) : Ev (fun k => laws_heldEditS.f k (mkE m n0) m) (m + 2 * (n0 : Int)) := by
  simp only [laws_heldEditS.f]
  have key : ∀ (n i : Nat), i + n = n0 → Ev (fun k => laws_heldEditS.l0 k (mkE m n0) (m + 2 * (i : Int)) (i : Int)) (m + 2 * (n0 : Int)) := by
    intro n
    induction n with
    | zero =>
      intro i hi
      refine Ev.succ ?_
      simp only [laws_heldEditS.l0]
      exact Ev.neg (by rw [mkE_length]; omega) (Ev.some_ (by omega))
    | succ n ih =>
      intro i hi
      refine Ev.succ ?_
      simp only [laws_heldEditS.l0]
      have hlt : i < (mkE m n0).length := by rw [mkE_length]; omega
      have hg := mkE_get m n0 i (by omega)
      rw [List.getElem?_eq_getElem hlt] at hg
      have hg' := Option.some.inj hg
      rw [rdE_nat _ i hlt, hg']
      rw [show wrap64 (m + 2 * (i : Int) + 1) = m + 2 * (i : Int) + 1 from w64 (by omega) (by omega), show wrap64 (m + 2 * (i : Int) + 1 + 1) = m + 2 * ((i + 1 : Nat) : Int) from by rw [w64 (by omega) (by omega)]; omega, up1 i (by omega)]
      exact Ev.pos (by omega) (Ev.pos (by omega) (Ev.pos (by first | rfl | trivial) (Ev.bnd (laws_markText_ev _ (by omega)) (Ev.pos (by first | rfl | trivial) (ih (i + 1) (by omega))))))
  have := key n0 0 (by omega)
  have e : m + 2 * ((0 : Nat) : Int) = m := by omega
  rw [e] at this
  exact this
theorem spec_LineOk_ev (s : ByteArray) (hs : s.size ≤ 140737488351232) : Ev (fun k => spec_LineOk.f k s) (lineOk s) := by
  simp only [spec_LineOk.f]
  have key : ∀ (n i : Nat), i + n = s.size → Ev (fun k => spec_LineOk.l0 k s (i : Int)) (decide ((10 : Int) ∉ (bytesOf s).drop i ∧ s.size ≤ 60)) := by
    intro n
    induction n with
    | zero =>
      intro i hi
      refine Ev.succ ?_
      simp only [spec_LineOk.l0]
      refine Ev.neg (by omega) (Ev.some_ ?_)
      rw [drop_end _ _ (by rw [bytesOf_length]; omega)]
      simp
      omega
    | succ n ih =>
      intro i hi
      refine Ev.succ ?_
      simp only [spec_LineOk.l0]
      refine Ev.pos (by omega) (Ev.pos (by omega) ?_)
      rw [up1 i (by omega), drop_bt s i (by omega)]
      by_cases h : bt s (i : Int) = 10
      · exact Ev.pos h (Ev.some_ (by simp [h]))
      · refine Ev.neg h (Ev_eq (ih (i + 1) (by omega)) ?_)
        have : ((10 : Int) ∉ bt s (i : Int) :: (bytesOf s).drop (i + 1)) ↔ ((10 : Int) ∉ (bytesOf s).drop (i + 1)) := by
          rw [List.mem_cons]
          constructor
          · intro h1 h2; exact h1 (.inr h2)
          · intro h1 h2
            rcases h2 with h2 | h2
            · exact h h2.symm
            · exact h1 h2
        simp only [this]
  exact key s.size 0 (by omega)
theorem spec_l03All_ev (l : List ByteArray) (m : Int) (hl : Sized l) : Ev (fun k => spec_l03All.f k l m) (linesOk m l) := by
  simp only [spec_l03All.f]
  by_cases h : (l.length : Int) > m
  · refine Ev.pos h (Ev.some_ ?_)
    simp only [linesOk]
    rw [show decide ((l.length : Int) ≤ m) = false from by simp; omega]
    rfl
  refine Ev.neg h ?_
  have key : ∀ (n i : Nat), i + n = l.length → Ev (fun k => spec_l03All.l0 k l (i : Int)) (allOk (l.drop i)) := by
    intro n
    induction n with
    | zero =>
      intro i hi
      refine Ev.succ ?_
      simp only [spec_l03All.l0]
      refine Ev.neg (by omega) (Ev.some_ ?_)
      rw [drop_end l i (by omega)]
      rfl
    | succ n ih =>
      intro i hi
      refine Ev.succ ?_
      simp only [spec_l03All.l0]
      have hlt := hl.1
      refine Ev.pos (by omega) (Ev.pos (by omega) (Ev.bnd (spec_LineOk_ev _ (hl.2 _ (rdOf_mem _ l i (by omega)))) ?_))
      rw [up1 i (by omega), drop_rdOf ByteArray.empty l i (by omega)]
      by_cases hx : lineOk (rdOf ByteArray.empty l (i : Int)) = true
      · refine Ev.pos hx (Ev_eq (ih (i + 1) (by omega)) ?_)
        simp only [allOk, List.all_cons, hx, Bool.true_and]
      · refine Ev.neg hx (Ev.some_ ?_)
        simp only [allOk, List.all_cons, Bool.not_eq_true _ ▸ hx]
        simp
  refine Ev_eq (key l.length 0 (by omega)) ?_
  simp only [linesOk, List.drop_zero]
  rw [show decide ((l.length : Int) ≤ m) = true from by simp; omega]
  rfl
theorem impl_LineOk_eq (s : ByteArray) : impl_LineOk.f s = some (lineOk s) := by
  simp only [impl_LineOk.f]
  by_cases h : (s.size : Int) ≤ 60
  · rw [if_pos h]
    simp only [strings_Contains.f]
    rw [if_pos (by rfl)]
    simp only [Option.bind_some]
    congr 1
    have h1 := indexByte_mem 10 s.data.toList
    have h2 := byte_mem s 10
    simp only [lineOk]
    rw [← decide_not]
    congr 1
    rw [show (⟨#[10]⟩ : ByteArray).data.toList.headD 0 = (10 : UInt8) from rfl, h1, h2]
    simp only [eq_iff_iff]
    constructor
    · intro h3; exact ⟨h3, by omega⟩
    · intro h3; exact h3.1
  · rw [if_neg h]
    congr 1
    simp only [lineOk]
    symm
    rw [decide_eq_false_iff_not]
    omega
theorem impl_areLines_ev (l : List ByteArray) (hl : l.length ≤ 140737488351232) : Ev (fun k => impl_areLines.f k l) (allOk l) := by
  simp only [impl_areLines.f]
  have key : ∀ (n i : Nat), i + n = l.length → Ev (fun k => impl_areLines.l0 k l (l.length : Int) (i : Int)) (allOk (l.drop i)) := by
    intro n
    induction n with
    | zero =>
      intro i hi
      refine Ev.succ ?_
      simp only [impl_areLines.l0]
      refine Ev.neg (by omega) (Ev.some_ ?_)
      rw [drop_end l i (by omega)]
      rfl
    | succ n ih =>
      intro i hi
      refine Ev.succ ?_
      simp only [impl_areLines.l0]
      refine Ev.pos (by omega) (Ev.pos (by omega) (Ev.pos (by omega) (Ev.bnd0 (impl_LineOk_eq _) ?_)))
      rw [up1 i (by omega), drop_rdOf ByteArray.empty l i (by omega)]
      by_cases hx : lineOk (rdOf ByteArray.empty l (i : Int)) = true
      · refine Ev.pos hx (Ev_eq (ih (i + 1) (by omega)) ?_)
        simp only [allOk, List.all_cons, hx, Bool.true_and]
      · refine Ev.neg hx (Ev.some_ ?_)
        simp only [allOk, List.all_cons]
        simp [Bool.eq_false_iff.2 hx]
  exact key l.length 0 (by omega)
theorem spec_l04Ok_ev (l : List ByteArray) (hl : Sized l) : Ev (fun k => spec_l04Ok.f k l) (linesOk 300 l) := by
  simp only [spec_l04Ok.f]
  exact Ev.bnd (spec_l03All_ev l 300 hl) (Ev.now _)
theorem impl_canAlign_ev (l : List ByteArray) (hl : Sized l) : Ev (fun k => impl_canAlign.f k l) (linesOk 300 l) := by
  simp only [impl_canAlign.f]
  by_cases h : (l.length : Int) ≤ 300
  · exact Ev.pos h (Ev.bnd (impl_areLines_ev l hl.1) (Ev.some_ (by simp [linesOk, h])))
  · exact Ev.neg h (Ev.some_ (by simp [linesOk, h]))
theorem linesOk_len {m : Int} {l : List ByteArray} (h : linesOk m l = true) : (l.length : Int) ≤ m := by
  simp only [linesOk, Bool.and_eq_true, decide_eq_true_eq] at h
  exact h.1
/-! the table of the longest common parts -/
def TT (a b : List ByteArray) (i j : Nat) : Nat := lcs (a.drop i) (b.drop j)
theorem TT_right (a b : List ByteArray) (i : Nat) : TT a b i b.length = 0 := by
  unfold TT
  rw [List.drop_length, lcs_nil_right]
theorem TT_left (a b : List ByteArray) (j : Nat) : TT a b a.length j = 0 := by
  unfold TT
  rw [List.drop_length, lcs_nil_left]
theorem TT_step (a b : List ByteArray) (i j : Nat) (hi : i < a.length) (hj : j < b.length) : TT a b i j = if a[i] = b[j] then TT a b (i + 1) (j + 1) + 1 else max (TT a b (i + 1) j) (TT a b i (j + 1)) := by
  have ha : a.drop i = a[i] :: a.drop (i + 1) := List.drop_eq_getElem_cons hi
  have hb : b.drop j = b[j] :: b.drop (j + 1) := List.drop_eq_getElem_cons hj
  unfold TT
  rw [ha, hb, lcs_cons]
theorem TT_le (a b : List ByteArray) (i j : Nat) : TT a b i j ≤ a.length := by
  have := lcs_le_left (a.drop i) (b.drop j)
  rw [List.length_drop] at this
  unfold TT
  omega
theorem rdT_nat (x : List (List Int)) (i : Nat) : rd_L4 x (i : Int) = x.getD i [] := by
  simp [rd_L4]
theorem rd_getD (r : List Int) (j : Nat) : rd r (j : Int) = r.getD j 0 := by simp [rd]
/-- Row i of a table is right from column j on. -/
def rowOk (a b : List ByteArray) (x : List (List Int)) (i j : Nat) : Prop := (x.getD i []).length = b.length + 1 ∧ ∀ k, j ≤ k → k ≤ b.length → (x.getD i []).getD k 0 = (TT a b i k : Int)
/-- A table is right from row i on. -/
def tabOk (a b : List ByteArray) (x : List (List Int)) (i : Nat) : Prop := x.length = a.length + 1 ∧ ∀ k, i ≤ k → k ≤ a.length → rowOk a b x k 0
theorem getD_set_ne' (x : List (List Int)) (i k : Nat) (r : List Int) (h : k ≠ i) : (x.set i r).getD k [] = x.getD k [] := by
  simp [List.getD, List.getElem?_set_ne (Ne.symm h)]
theorem getD_set_eq' (x : List (List Int)) (i : Nat) (r : List Int) (h : i < x.length) : (x.set i r).getD i [] = r := by
  simp [List.getD, List.getElem?_set_self h]
theorem rowOk_other {a b : List ByteArray} {x : List (List Int)} {i k j : Nat} {r : List Int} (h : k ≠ i) (hr : rowOk a b x k j) : rowOk a b (x.set i r) k j := by
  unfold rowOk at *
  rw [getD_set_ne' x i k r h]
  exact hr
theorem rowOk_put {a b : List ByteArray} {x : List (List Int)} {i j : Nat} {v : Int} (hx : i < x.length) (h : rowOk a b x i (j + 1)) (hj : j ≤ b.length) (hv : v = (TT a b i j : Int)) : rowOk a b (x.set i ((x.getD i []).set j v)) i j := by
  unfold rowOk at *
  rw [getD_set_eq' x i _ hx]
  generalize x.getD i [] = row at h ⊢
  refine ⟨by rw [List.length_set]; exact h.1, fun k hk hk2 => ?_⟩
  by_cases e : k = j
  · subst e
    simp only [List.getD, List.getElem?_set_self (show k < row.length by omega), hv, Option.getD_some]
  · have := h.2 k (by omega) hk2
    simp only [List.getD] at this ⊢
    rw [List.getElem?_set_ne (Ne.symm e)]
    exact this
theorem tabOk_row {a b : List ByteArray} {x : List (List Int)} {i : Nat} (h : tabOk a b x (i + 1)) (hr : rowOk a b x i 0) : tabOk a b x i :=
  ⟨h.1, fun k hk hk2 => by
    by_cases e : k = i
    · subst e; exact hr
    · exact h.2 k (by omega) hk2⟩
theorem tabOk_put {a b : List ByteArray} {x : List (List Int)} {i j : Nat} {r : List Int} (h : tabOk a b x j) (hij : i < j) : tabOk a b (x.set i r) j :=
  ⟨by rw [List.length_set]; exact h.1, fun k hk hk2 => rowOk_other (by omega) (h.2 k hk hk2)⟩
theorem zeroRow {a b : List ByteArray} {x : List (List Int)} {i : Nat} (h : x.getD i [] = List.replicate (b.length + 1) 0) (hT : TT a b i b.length = 0) : rowOk a b x i b.length := by
  unfold rowOk
  rw [h]
  refine ⟨by simp, fun k hk hk2 => ?_⟩
  have : k = b.length := by omega
  subst this
  rw [hT]
  simp [List.getD]
theorem mxI (p q : Nat) : ((max p q : Nat) : Int) = if (p : Int) < (q : Int) then (q : Int) else (p : Int) := by
  split <;> omega
section
variable (a b : List ByteArray) (ha : a.length ≤ 1000000) (hb : b.length ≤ 1000000)
include ha hb
theorem spec_l04Table_l1 (i : Nat) (hi : i ≤ a.length) (Q : List (List Int) → Prop) (hQ : ∀ y, tabOk a b y i → ∃ r, Ev (fun k => spec_l04Table.l0 k a b y ((i : Int) - 1)) r ∧ Q r) :
    ∀ (j : Nat) (x : List (List Int)), j ≤ b.length → tabOk a b x (i + 1) → x.length = a.length + 1 → rowOk a b x i (if i < a.length then j else 0) → ∃ r, Ev (fun k => spec_l04Table.l1 k a b x (i : Int) ((j : Int) - 1)) r ∧ Q r := by
  intro j
  induction j with
  | zero =>
    intro x hj ht hxl hr
    have hr0 : rowOk a b x i 0 := by
      split at hr <;> exact hr
    obtain ⟨r, hev, hq⟩ := hQ x (tabOk_row ht hr0)
    refine ⟨r, Ev.succ ?_, hq⟩
    simp only [spec_l04Table.l1]
    refine Ev.neg (by omega) (Ev.succ ?_)
    simp only [spec_l04Table.j2]
    rw [show wrap64 ((i : Int) - 1) = (i : Int) - 1 from w64 (by omega) (by omega)]
    exact Ev.neg (by simp) hev
  | succ j ih =>
    intro x hj ht hxl hr
    by_cases hia : i < a.length
    · rw [if_pos hia] at hr
      have hr1 := ht.2 (i + 1) (by omega) (by omega)
      have hl0 : (rd_L4 x (i : Int)).length = b.length + 1 := by rw [rdT_nat]; exact hr.1
      have hl1 : (rd_L4 x ((i + 1 : Nat) : Int)).length = b.length + 1 := by rw [rdT_nat]; exact hr1.1
      have v1 : rd (rd_L4 x ((i + 1 : Nat) : Int)) (j : Int) = (TT a b (i + 1) j : Int) := by rw [rdT_nat, rd_getD]; exact hr1.2 j (by omega) (by omega)
      have v2 : rd (rd_L4 x ((i + 1 : Nat) : Int)) ((j + 1 : Nat) : Int) = (TT a b (i + 1) (j + 1) : Int) := by rw [rdT_nat, rd_getD]; exact hr1.2 (j + 1) (by omega) (by omega)
      have v3 : rd (rd_L4 x (i : Int)) ((j + 1 : Nat) : Int) = (TT a b i (j + 1) : Int) := by rw [rdT_nat, rd_getD]; exact hr.2 (j + 1) (by omega) (by omega)
      have hst := TT_step a b i j hia (by omega)
      have hle := TT_le a b (i + 1) (j + 1)
      have sa : rdOf ByteArray.empty a (i : Int) = a[i] := rdOf_nat _ _ _ hia
      have sb : rdOf ByteArray.empty b (j : Int) = b[j]'(by omega) := rdOf_nat _ _ _ (by omega)
      have e1 : (((j + 1 : Nat) : Int) - 1) = (j : Int) := by omega
      rw [e1]
      have next : ∀ v : Int, v = (TT a b i j : Int) → ∃ r, Ev (fun k => spec_l04Table.l1 k a b (x.set i ((rd_L4 x (i : Int)).set j v)) (i : Int) ((j : Int) - 1)) r ∧ Q r := by
        intro v hv
        rw [rdT_nat]
        refine ih _ (by omega) (tabOk_put ht (by omega)) (by rw [List.length_set]; exact hxl) ?_
        rw [if_pos hia]
        exact rowOk_put (by omega) hr (by omega) hv
      have main : ∀ v : Int, v = (TT a b i j : Int) → (∀ r, Ev (fun k => spec_l04Table.l1 k a b (x.set i ((rd_L4 x (i : Int)).set j v)) (i : Int) ((j : Int) - 1)) r → Ev (fun k => spec_l04Table.j2 k a b x (i : Int) (j : Int) true) r) → ∃ r, Ev (fun k => spec_l04Table.l1 k a b x (i : Int) (j : Int)) r ∧ Q r := by
        intro v hv hm
        obtain ⟨r, hev, hq⟩ := next v hv
        refine ⟨r, Ev.succ ?_, hq⟩
        simp only [spec_l04Table.l1]
        refine Ev.pos (by omega) ?_
        rw [show decide ((i : Int) < (a.length : Int)) = true from by simp; omega]
        exact hm r hev
      by_cases he : a[i] = b[j]'(by omega)
      · rw [if_pos he] at hst
        refine main (TT a b (i + 1) (j + 1) + 1 : Int) (by rw [hst]; omega) (fun r hev => Ev.succ ?_)
        simp only [spec_l04Table.j2]
        rw [up1 i (by omega), up1 j (by omega), v1, v2, v3, sa, sb]
        rw [show wrap64 ((TT a b (i + 1) (j + 1) : Int) + 1) = (TT a b (i + 1) (j + 1) : Int) + 1 from w64 (by omega) (by omega), show wrap64 ((j : Int) - 1) = (j : Int) - 1 from w64 (by omega) (by omega), Int.toNat_natCast, Int.toNat_natCast]
        refine Ev.pos trivial (Ev.pos (by omega) (Ev.pos (by omega) (Ev.pos (by omega) (Ev.pos (by omega) (Ev.pos (by omega) (Ev.pos (by omega) (Ev.pos (by omega) (Ev.pos (by omega) ?_))))))))
        by_cases hgt : (TT a b i (j + 1) : Int) > (TT a b (i + 1) j : Int)
        · exact Ev.pos hgt (Ev.pos (by omega) (Ev.pos (by omega) (Ev.pos ((toList_iff _ _).2 he) (Ev.pos (by omega) (Ev.pos (by omega) hev)))))
        · exact Ev.neg hgt (Ev.pos (by omega) (Ev.pos (by omega) (Ev.pos ((toList_iff _ _).2 he) (Ev.pos (by omega) (Ev.pos (by omega) hev)))))
      · rw [if_neg he] at hst
        by_cases hgt : (TT a b i (j + 1) : Int) > (TT a b (i + 1) j : Int)
        · refine main (TT a b i (j + 1) : Int) (by rw [hst]; omega) (fun r hev => Ev.succ ?_)
          simp only [spec_l04Table.j2]
          rw [up1 i (by omega), up1 j (by omega), v1, v3, sa, sb]
          rw [show wrap64 ((j : Int) - 1) = (j : Int) - 1 from w64 (by omega) (by omega), Int.toNat_natCast, Int.toNat_natCast]
          exact Ev.pos trivial (Ev.pos (by omega) (Ev.pos (by omega) (Ev.pos (by omega) (Ev.pos (by omega) (Ev.pos (by omega) (Ev.pos (by omega) (Ev.pos (by omega) (Ev.pos (by omega) (Ev.pos hgt (Ev.pos (by omega) (Ev.pos (by omega) (Ev.neg (fun h => he ((toList_iff _ _).1 h)) (Ev.pos (by omega) hev)))))))))))))
        · refine main (TT a b (i + 1) j : Int) (by rw [hst]; omega) (fun r hev => Ev.succ ?_)
          simp only [spec_l04Table.j2]
          rw [up1 i (by omega), up1 j (by omega), v1, v3, sa, sb]
          rw [show wrap64 ((j : Int) - 1) = (j : Int) - 1 from w64 (by omega) (by omega), Int.toNat_natCast, Int.toNat_natCast]
          exact Ev.pos trivial (Ev.pos (by omega) (Ev.pos (by omega) (Ev.pos (by omega) (Ev.pos (by omega) (Ev.pos (by omega) (Ev.pos (by omega) (Ev.pos (by omega) (Ev.pos (by omega) (Ev.neg hgt (Ev.pos (by omega) (Ev.pos (by omega) (Ev.neg (fun h => he ((toList_iff _ _).1 h)) (Ev.pos (by omega) hev)))))))))))))
    · rw [if_neg hia] at hr
      obtain ⟨r, hev, hq⟩ := hQ x (tabOk_row ht hr)
      refine ⟨r, Ev.succ ?_, hq⟩
      simp only [spec_l04Table.l1]
      refine Ev.pos (by omega) ?_
      rw [show decide ((i : Int) < (a.length : Int)) = false from by simp; omega]
      refine Ev.succ ?_
      simp only [spec_l04Table.j2]
      rw [show wrap64 ((i : Int) - 1) = (i : Int) - 1 from w64 (by omega) (by omega)]
      exact Ev.neg (by simp) hev
theorem spec_l04Table_l0 : ∀ (i : Nat) (x : List (List Int)), i ≤ a.length + 1 → tabOk a b x i → ∃ r, Ev (fun k => spec_l04Table.l0 k a b x ((i : Int) - 1)) r ∧ tabOk a b r 0 := by
  intro i
  induction i with
  | zero =>
    intro x hi ht
    refine ⟨x, Ev.succ ?_, ht⟩
    simp only [spec_l04Table.l0]
    exact Ev.neg (by omega) (Ev.now _)
  | succ i ih =>
    intro x hi ht
    have e1 : (((i + 1 : Nat) : Int) - 1) = (i : Int) := by omega
    rw [e1]
    have hxl := ht.1
    have hz : (x.set i (List.replicate (b.length + 1) 0)).getD i [] = List.replicate (b.length + 1) 0 := getD_set_eq' x i _ (by omega)
    obtain ⟨r, hev, hq⟩ := spec_l04Table_l1 a b ha hb i (by omega) _ (fun y hy => ih y (by omega) hy) b.length (x.set i (List.replicate (b.length + 1) 0)) (Nat.le_refl _) (tabOk_put ht (by omega)) (by rw [List.length_set]; exact hxl) (by
      have h1 := zeroRow (a := a) (i := i) hz (TT_right a b i)
      by_cases hia : i < a.length
      · rw [if_pos hia]; exact h1
      · rw [if_neg hia]
        have : i = a.length := by omega
        subst this
        refine ⟨h1.1, fun k _ hk => ?_⟩
        rw [hz, TT_left]
        simp only [List.getD, List.getElem?_replicate]
        split <;> rfl)
    refine ⟨r, Ev.succ ?_, hq⟩
    simp only [spec_l04Table.l0]
    rw [show wrap64 ((b.length : Int) + 1) = ((b.length + 1 : Nat) : Int) from up1 _ (by omega), show wrap64 ((b.length : Int) - 1) = (b.length : Int) - 1 from w64 (by omega) (by omega), Int.toNat_natCast, Int.toNat_natCast]
    exact Ev.pos (by omega) (Ev.pos (by omega) (Ev.pos (by omega) (Ev.pos (by omega) (Ev.pos (by omega) hev))))
theorem spec_l04Table_ev : ∃ x, Ev (fun k => spec_l04Table.f k a b) x ∧ tabOk a b x 0 := by
  obtain ⟨r, hev, hq⟩ := spec_l04Table_l0 a b ha hb (a.length + 1) (List.replicate (a.length + 1) []) (Nat.le_refl _) ⟨by simp, fun k h1 h2 => absurd h1 (by omega)⟩
  refine ⟨r, ?_, hq⟩
  simp only [spec_l04Table.f]
  rw [show wrap64 ((a.length : Int) + 1) = ((a.length + 1 : Nat) : Int) from up1 _ (by omega), Int.toNat_natCast]
  refine Ev.pos (by omega) (Ev.pos (by omega) ?_)
  have e1 : (((a.length + 1 : Nat) : Int) - 1) = (a.length : Int) := by omega
  rw [e1] at hev
  exact hev
end
theorem mx_max (p q : Nat) : mx (p : Int) (q : Int) = ((max p q : Nat) : Int) := by
  unfold mx
  split <;> omega
section
variable (a b : List ByteArray) (ha : a.length ≤ 1000000) (hb : b.length ≤ 1000000)
include ha hb
theorem impl_commonFrom_l2 (i : Nat) (hi : i < a.length) (Q : List (List Int) → Prop) (hQ : ∀ y, tabOk a b y i → (∀ k, k < i → y.getD k [] = List.replicate (b.length + 1) 0) → ∃ r, Ev (fun k => impl_commonFrom.l1 k a b y ((i : Int) - 1)) r ∧ Q r) :
    ∀ (j : Nat) (x : List (List Int)), j ≤ b.length → tabOk a b x (i + 1) → (∀ k, k < i → x.getD k [] = List.replicate (b.length + 1) 0) → rowOk a b x i j → ∃ r, Ev (fun k => impl_commonFrom.l2 k a b x (i : Int) ((j : Int) - 1)) r ∧ Q r := by
  intro j
  induction j with
  | zero =>
    intro x hj ht hz hr
    obtain ⟨r, hev, hq⟩ := hQ x (tabOk_row ht hr) hz
    refine ⟨r, Ev.succ ?_, hq⟩
    simp only [impl_commonFrom.l2]
    rw [show wrap64 ((i : Int) - 1) = (i : Int) - 1 from w64 (by omega) (by omega)]
    exact Ev.neg (by omega) hev
  | succ j ih =>
    intro x hj ht hz hr
    have hxl := ht.1
    have hr1 := ht.2 (i + 1) (by omega) (by omega)
    have hl0 : (rd_L4 x (i : Int)).length = b.length + 1 := by rw [rdT_nat]; exact hr.1
    have hl1 : (rd_L4 x ((i + 1 : Nat) : Int)).length = b.length + 1 := by rw [rdT_nat]; exact hr1.1
    have v1 : rd (rd_L4 x ((i + 1 : Nat) : Int)) (j : Int) = (TT a b (i + 1) j : Int) := by rw [rdT_nat, rd_getD]; exact hr1.2 j (by omega) (by omega)
    have v2 : rd (rd_L4 x ((i + 1 : Nat) : Int)) ((j + 1 : Nat) : Int) = (TT a b (i + 1) (j + 1) : Int) := by rw [rdT_nat, rd_getD]; exact hr1.2 (j + 1) (by omega) (by omega)
    have v3 : rd (rd_L4 x (i : Int)) ((j + 1 : Nat) : Int) = (TT a b i (j + 1) : Int) := by rw [rdT_nat, rd_getD]; exact hr.2 (j + 1) (by omega) (by omega)
    have hst := TT_step a b i j hi (by omega)
    have hle := TT_le a b (i + 1) (j + 1)
    have sa : rdOf ByteArray.empty a (i : Int) = a[i] := rdOf_nat _ _ _ hi
    have sb : rdOf ByteArray.empty b (j : Int) = b[j]'(by omega) := rdOf_nat _ _ _ (by omega)
    have e1 : (((j + 1 : Nat) : Int) - 1) = (j : Int) := by omega
    rw [e1]
    have next : ∀ v : Int, v = (TT a b i j : Int) → ∃ r, Ev (fun k => impl_commonFrom.l2 k a b (x.set i ((rd_L4 x (i : Int)).set j v)) (i : Int) ((j : Int) - 1)) r ∧ Q r := by
      intro v hv
      rw [rdT_nat]
      exact ih _ (by omega) (tabOk_put ht (by omega)) (fun k hk => by rw [getD_set_ne' x i k _ (by omega)]; exact hz k hk) (rowOk_put (by omega) hr (by omega) hv)
    by_cases he : a[i] = b[j]'(by omega)
    · rw [if_pos he] at hst
      obtain ⟨r, hev, hq⟩ := next (TT a b (i + 1) (j + 1) + 1 : Int) (by rw [hst]; omega)
      refine ⟨r, Ev.succ ?_, hq⟩
      simp only [impl_commonFrom.l2]
      rw [up1 i (by omega), up1 j (by omega), v2, sa, sb]
      rw [show wrap64 ((TT a b (i + 1) (j + 1) : Int) + 1) = (TT a b (i + 1) (j + 1) : Int) + 1 from w64 (by omega) (by omega), show wrap64 ((j : Int) - 1) = (j : Int) - 1 from w64 (by omega) (by omega), Int.toNat_natCast, Int.toNat_natCast]
      exact Ev.pos (by omega) (Ev.pos (by omega) (Ev.pos (by omega) (Ev.pos (by omega) (Ev.pos (by omega) (Ev.pos ((toList_iff _ _).2 he) (Ev.pos (by omega) (Ev.pos (by omega) (Ev.pos (by omega) (Ev.pos (by omega) (Ev.pos (by omega) (Ev.pos (by omega) hev)))))))))))
    · rw [if_neg he] at hst
      obtain ⟨r, hev, hq⟩ := next ((max (TT a b (i + 1) j) (TT a b i (j + 1)) : Nat) : Int) (by rw [hst])
      refine ⟨r, Ev.succ ?_, hq⟩
      simp only [impl_commonFrom.l2]
      rw [up1 i (by omega), up1 j (by omega), v1, v3, sa, sb, mx_max]
      rw [show wrap64 ((j : Int) - 1) = (j : Int) - 1 from w64 (by omega) (by omega), Int.toNat_natCast, Int.toNat_natCast]
      exact Ev.pos (by omega) (Ev.pos (by omega) (Ev.pos (by omega) (Ev.pos (by omega) (Ev.pos (by omega) (Ev.neg (fun h => he ((toList_iff _ _).1 h)) (Ev.pos (by omega) (Ev.pos (by omega) (Ev.pos (by omega) (Ev.pos (by omega) (Ev.pos (by omega) (Ev.pos (by omega) (Ev.pos (by omega) hev))))))))))))
theorem impl_commonFrom_l1 : ∀ (i : Nat) (x : List (List Int)), i ≤ a.length → tabOk a b x i → (∀ k, k < i → x.getD k [] = List.replicate (b.length + 1) 0) → ∃ r, Ev (fun k => impl_commonFrom.l1 k a b x ((i : Int) - 1)) r ∧ tabOk a b r 0 := by
  intro i
  induction i with
  | zero =>
    intro x hi ht hz
    refine ⟨x, Ev.succ ?_, ht⟩
    simp only [impl_commonFrom.l1]
    exact Ev.neg (by omega) (Ev.now _)
  | succ i ih =>
    intro x hi ht hz
    have e1 : (((i + 1 : Nat) : Int) - 1) = (i : Int) := by omega
    rw [e1]
    obtain ⟨r, hev, hq⟩ := impl_commonFrom_l2 a b ha hb i (by omega) _ (fun y hy hy2 => ih y (by omega) hy hy2) b.length x (Nat.le_refl _) ht (fun k hk => hz k (by omega)) (zeroRow (hz i (by omega)) (TT_right a b i))
    refine ⟨r, Ev.succ ?_, hq⟩
    simp only [impl_commonFrom.l1]
    refine Ev.pos (by omega) ?_
    rw [show wrap64 ((b.length : Int) - 1) = (b.length : Int) - 1 from w64 (by omega) (by omega)]
    exact hev
theorem impl_commonFrom_ev : ∃ x, Ev (fun k => impl_commonFrom.f k a b) x ∧ tabOk a b x 0 := by
  have key : ∀ (n i : Nat) (x : List (List Int)), i + n = a.length + 1 → x.length = a.length + 1 → (∀ k, k < i → x.getD k [] = List.replicate (b.length + 1) 0) → ∃ r, Ev (fun k => impl_commonFrom.l0 k a b x ((a.length + 1 : Nat) : Int) (i : Int)) r ∧ tabOk a b r 0 := by
    intro n
    induction n with
    | zero =>
      intro i x hi hl hz
      obtain ⟨r, hev, hq⟩ := impl_commonFrom_l1 a b ha hb a.length x (Nat.le_refl _) ⟨hl, fun k h1 h2 => by
        have : k = a.length := by omega
        subst this
        unfold rowOk
        rw [hz a.length (by omega)]
        refine ⟨by simp, fun k _ hk => ?_⟩
        rw [TT_left]
        simp only [List.getD, List.getElem?_replicate]
        split <;> rfl⟩ (fun k hk => hz k (by omega))
      refine ⟨r, Ev.succ ?_, hq⟩
      simp only [impl_commonFrom.l0]
      refine Ev.neg (by omega) ?_
      rw [show wrap64 ((a.length : Int) - 1) = (a.length : Int) - 1 from w64 (by omega) (by omega)]
      exact hev
    | succ n ih =>
      intro i x hi hl hz
      obtain ⟨r, hev, hq⟩ := ih (i + 1) (x.set i (List.replicate (b.length + 1) 0)) (by omega) (by rw [List.length_set]; exact hl) (fun k hk => by
        by_cases e : k = i
        · subst e; exact getD_set_eq' x k _ (by omega)
        · rw [getD_set_ne' x i k _ e]; exact hz k (by omega))
      refine ⟨r, Ev.succ ?_, hq⟩
      simp only [impl_commonFrom.l0]
      rw [show wrap64 ((b.length : Int) + 1) = ((b.length + 1 : Nat) : Int) from up1 _ (by omega), up1 i (by omega), Int.toNat_natCast, Int.toNat_natCast]
      exact Ev.pos (by omega) (Ev.pos (by omega) (Ev.pos (by omega) (Ev.pos (by omega) (Ev.pos (by omega) hev))))
  obtain ⟨r, hev, hq⟩ := key (a.length + 1) 0 (List.replicate (a.length + 1) []) (by omega) (by simp) (fun k hk => absurd hk (by omega))
  refine ⟨r, ?_, hq⟩
  simp only [impl_commonFrom.f]
  rw [show wrap64 ((a.length : Int) + 1) = ((a.length + 1 : Nat) : Int) from up1 _ (by omega), Int.toNat_natCast]
  refine Ev.pos (by omega) (Ev.pos (by omega) (Ev.bnd0 rfl ?_))
  rw [List.length_replicate]
  exact hev
end
theorem tab_at {a b : List ByteArray} {x : List (List Int)} (h : tabOk a b x 0) (i j : Nat) (hi : i ≤ a.length) (hj : j ≤ b.length) : rd (rd_L4 x (i : Int)) (j : Int) = (TT a b i j : Int) := by
  rw [rdT_nat, rd_getD]
  exact (h.2 i (Nat.zero_le _) hi).2 j (Nat.zero_le _) hj
theorem tab_len {a b : List ByteArray} {x : List (List Int)} (h : tabOk a b x 0) (i : Nat) (hi : i ≤ a.length) : (rd_L4 x (i : Int)).length = b.length + 1 := by
  rw [rdT_nat]
  exact (h.2 i (Nat.zero_le _) hi).1
/-- Of each of b its place in a; none where a list cannot be aligned. -/
def alignL (a b : List ByteArray) : List Int := if linesOk 300 a = true ∧ linesOk 300 b = true then pairs 0 a b else []
theorem alignL_length (a b : List ByteArray) : (alignL a b).length ≤ b.length := by
  unfold alignL
  split
  · rw [pairs_length]; exact Nat.le_refl _
  · exact Nat.zero_le _
theorem toList_ne {a b : ByteArray} (h : ¬ a = b) : ¬ a.toList = b.toList := fun e => h ((toList_iff _ _).1 e)
theorem drop_cons' {α : Type} (l : List α) (i : Nat) (h : i < l.length) : l.drop i = l[i] :: l.drop (i + 1) := List.drop_eq_getElem_cons h
/-- The edits that turn a into b. -/
def edits : List ByteArray → List ByteArray → List S57
  | [], [] => []
  | [], y :: b => ⟨3, y⟩ :: edits [] b
  | x :: a, [] => ⟨2, x⟩ :: edits a []
  | x :: a, y :: b => if x = y then ⟨1, x⟩ :: edits a b else if lcs a (y :: b) ≥ lcs (x :: a) b then ⟨2, x⟩ :: edits a (y :: b) else ⟨3, y⟩ :: edits (x :: a) b
termination_by a b => a.length + b.length
theorem edits_nil : edits [] [] = [] := by rw [edits]
theorem edits_right (y : ByteArray) (b : List ByteArray) : edits [] (y :: b) = ⟨3, y⟩ :: edits [] b := by rw [edits]
theorem edits_left (x : ByteArray) (a : List ByteArray) : edits (x :: a) [] = ⟨2, x⟩ :: edits a [] := by rw [edits]
theorem edits_cons (x y : ByteArray) (a b : List ByteArray) : edits (x :: a) (y :: b) = if x = y then ⟨1, x⟩ :: edits a b else if lcs a (y :: b) ≥ lcs (x :: a) b then ⟨2, x⟩ :: edits a (y :: b) else ⟨3, y⟩ :: edits (x :: a) b := by rw [edits]
theorem edits_length : ∀ (a b : List ByteArray), (edits a b).length ≤ a.length + b.length
  | [], [] => by simp [edits_nil]
  | [], y :: b => by
    have := edits_length [] b
    rw [edits_right]; simp at *; omega
  | x :: a, [] => by
    have := edits_length a []
    rw [edits_left]; simp at *; omega
  | x :: a, y :: b => by
    have h1 := edits_length a b
    have h2 := edits_length a (y :: b)
    have h3 := edits_length (x :: a) b
    rw [edits_cons]
    simp only [List.length_cons] at *
    split
    · simp only [List.length_cons]; omega
    · split <;> (simp only [List.length_cons]; omega)
termination_by a b => a.length + b.length
def editsL (a b : List ByteArray) : List S57 := if linesOk 300 a = true ∧ linesOk 300 b = true then edits a b else []
theorem editsL_length (a b : List ByteArray) : (editsL a b).length ≤ a.length + b.length := by
  unfold editsL
  split
  · exact edits_length a b
  · exact Nat.zero_le _
section
variable (a b : List ByteArray) (t : List (List Int)) (ht : tabOk a b t 0) (ha : a.length ≤ 1000000) (hb : b.length ≤ 1000000)
include ht ha hb
theorem spec_EditsOf_l0 : ∀ (n i j : Nat) (acc : List S57), i ≤ a.length → j ≤ b.length → (a.length - i) + (b.length - j) ≤ n → acc.length ≤ i + j → Ev (fun k => spec_EditsOf.l0 k a b acc t (i : Int) (j : Int)) (acc ++ edits (a.drop i) (b.drop j)) := by
  intro n
  induction n with
  | zero =>
    intro i j acc hi hj hn hl
    have e1 : i = a.length := by omega
    have e2 : j = b.length := by omega
    subst e1; subst e2
    refine Ev.succ ?_
    simp only [spec_EditsOf.l0]
    refine Ev.neg (by omega) (Ev.succ ?_)
    simp only [spec_EditsOf.j2]
    exact Ev.neg (by simp) (Ev.some_ (by rw [List.drop_length, List.drop_length, edits_nil, List.append_nil]))
  | succ n ih =>
    intro i j acc hi hj hn hl
    have snoc : ∀ (e : S57) (r : List S57), (acc ++ [e]) ++ r = acc ++ e :: r := by
      intro e r; rw [List.append_assoc, List.singleton_append]
    have hsz : ∀ e : S57, (acc ++ [e]).length = acc.length + 1 := by intro e; simp
    refine Ev.succ ?_
    simp only [spec_EditsOf.l0]
    by_cases hia : i < a.length
    · refine Ev.pos (by omega) (Ev.succ ?_)
      simp only [spec_EditsOf.j2]
      by_cases hjb : j < b.length
      · refine Ev.pos (by first | rfl | trivial) (Ev.pos (by omega) (Ev.pos (by omega) (Ev.pos (by omega) (Ev.pos (by omega) (Ev.succ ?_)))))
        simp only [spec_EditsOf.j3]
        have hl0 := tab_len ht i (by omega)
        have hl1 := tab_len ht (i + 1) (by omega)
        have v1 := tab_at ht (i + 1) j (by omega) (by omega)
        have v2 := tab_at ht i (j + 1) (by omega) (by omega)
        have hxl := ht.1
        rw [up1 i (by omega), up1 j (by omega), v1, v2, rdOf_nat _ _ _ hia, rdOf_nat _ _ _ hjb]
        rw [drop_cons' a i hia, drop_cons' b j hjb, edits_cons]
        by_cases he : a[i] = b[j]
        · rw [if_pos he]
          refine Ev.pos (beq_iff_eq.2 ((toList_iff _ _).2 he)) (Ev.pos (by omega) (Ev.pos (by omega) (Ev.pos (by omega) ?_)))
          have := ih (i + 1) (j + 1) (acc ++ [⟨1, a[i]⟩]) (by omega) (by omega) (by omega) (by rw [hsz]; omega)
          rw [snoc] at this
          exact this
        · rw [if_neg he]
          refine Ev.neg (fun h => he ((toList_iff _ _).1 (beq_iff_eq.1 h))) (Ev.neg (by omega) (Ev.pos (by omega) (Ev.pos (by omega) (Ev.pos (by omega) (Ev.pos (by omega) (Ev.pos (by omega) (Ev.pos (by omega) (Ev.pos (by omega) (Ev.pos (by omega) (Ev.pos (by omega) ?_))))))))))
          have c1 : TT a b (i + 1) j = lcs (a.drop (i + 1)) (b[j] :: b.drop (j + 1)) := by rw [TT, drop_cons' b j hjb]
          have c2 : TT a b i (j + 1) = lcs (a[i] :: a.drop (i + 1)) (b.drop (j + 1)) := by rw [TT, drop_cons' a i hia]
          rw [← c1, ← c2]
          by_cases hge : TT a b (i + 1) j ≥ TT a b i (j + 1)
          · rw [if_pos hge]
            refine Ev.pos (by omega) (Ev.pos (by omega) ?_)
            have := ih (i + 1) j (acc ++ [⟨2, a[i]⟩]) (by omega) (by omega) (by omega) (by rw [hsz]; omega)
            rw [snoc, drop_cons' b j hjb] at this
            exact this
          · rw [if_neg hge]
            refine Ev.neg (by omega) (Ev.pos (by omega) (Ev.pos (by omega) ?_))
            have := ih i (j + 1) (acc ++ [⟨3, b[j]⟩]) (by omega) (by omega) (by omega) (by rw [hsz]; omega)
            rw [snoc, drop_cons' a i hia] at this
            exact this
      · have e2 : j = b.length := by omega
        subst e2
        refine Ev.pos (by first | rfl | trivial) (Ev.pos (by omega) (Ev.neg (by omega) (Ev.succ ?_)))
        simp only [spec_EditsOf.j3]
        rw [up1 i (by omega), rdOf_nat _ _ _ hia, drop_cons' a i hia, List.drop_length, edits_left]
        refine Ev.neg (by simp) (Ev.pos (by first | rfl | trivial) (Ev.pos (by omega) (Ev.pos (by omega) (Ev.pos (by omega) ?_))))
        have := ih (i + 1) b.length (acc ++ [⟨2, a[i]⟩]) (by omega) (by omega) (by omega) (by rw [hsz]; omega)
        rw [snoc, List.drop_length] at this
        exact this
    · have e1 : i = a.length := by omega
      subst e1
      refine Ev.neg (by omega) ?_
      by_cases hjb : j < b.length
      · rw [show decide ((j : Int) < (b.length : Int)) = true from by simp; omega]
        refine Ev.succ ?_
        simp only [spec_EditsOf.j2]
        refine Ev.pos (by first | rfl | trivial) (Ev.neg (by omega) (Ev.succ ?_))
        simp only [spec_EditsOf.j3]
        rw [up1 j (by omega), rdOf_nat _ _ _ hjb, drop_cons' b j hjb, List.drop_length, edits_right]
        refine Ev.neg (by simp) (Ev.neg (by omega) (Ev.neg (by omega) (Ev.pos (by omega) (Ev.pos (by omega) (Ev.pos (by omega) ?_)))))
        have := ih a.length (j + 1) (acc ++ [⟨3, b[j]⟩]) (by omega) (by omega) (by omega) (by rw [hsz]; omega)
        rw [snoc, List.drop_length] at this
        exact this
      · have e2 : j = b.length := by omega
        subst e2
        rw [show decide (((b.length : Nat) : Int) < (b.length : Int)) = false from by simp]
        refine Ev.succ ?_
        simp only [spec_EditsOf.j2]
        exact Ev.neg (by simp) (Ev.some_ (by rw [List.drop_length, List.drop_length, edits_nil, List.append_nil]))
end
theorem spec_EditsOf_ev (a b : List ByteArray) (ha : Sized a) (hb : Sized b) : Ev (fun k => spec_EditsOf.f k a b) (editsL a b) := by
  simp only [spec_EditsOf.f]
  refine Ev.bnd0 rfl (Ev.bnd (spec_l04Ok_ev a ha) ?_)
  by_cases h1 : linesOk 300 a = true
  · refine Ev.pos h1 (Ev.bnd (spec_l04Ok_ev b hb) (Ev.succ ?_))
    simp only [spec_EditsOf.j0]
    by_cases h2 : linesOk 300 b = true
    · have l1 := linesOk_len h1
      have l2 := linesOk_len h2
      obtain ⟨x, hx, ht⟩ := spec_l04Table_ev a b (by omega) (by omega)
      refine Ev.neg (by rw [h2]; simp) (Ev.bnd hx ?_)
      have := spec_EditsOf_l0 a b x ht (by omega) (by omega) _ 0 0 [] (by omega) (by omega) (Nat.le_refl _) (by simp)
      rw [editsL, if_pos ⟨h1, h2⟩]
      exact this
    · exact Ev.pos (by simp [h2]) (Ev.some_ (by rw [editsL, if_neg (fun h => h2 h.2)]))
  · refine Ev.neg h1 (Ev.succ ?_)
    simp only [spec_EditsOf.j0]
    exact Ev.pos (by first | rfl | trivial) (Ev.some_ (by rw [editsL, if_neg (fun h => h1 h.1)]))
section
variable (a b : List ByteArray) (t : List (List Int)) (ht : tabOk a b t 0) (ha : a.length ≤ 1000000) (hb : b.length ≤ 1000000)
include ht ha hb
theorem impl_EditsOf_l0 : ∀ (n i j : Nat) (acc : List S57), i ≤ a.length → j ≤ b.length → (a.length - i) + (b.length - j) ≤ n → acc.length ≤ i + j → Ev (fun k => impl_EditsOf.l0 k a b t acc (i : Int) (j : Int)) (acc ++ edits (a.drop i) (b.drop j)) := by
  intro n
  induction n with
  | zero =>
    intro i j acc hi hj hn hl
    have e1 : i = a.length := by omega
    have e2 : j = b.length := by omega
    subst e1; subst e2
    refine Ev.succ ?_
    simp only [impl_EditsOf.l0]
    refine Ev.neg (by omega) (Ev.succ ?_)
    simp only [impl_EditsOf.j2]
    exact Ev.neg (by simp) (Ev.some_ (by rw [List.drop_length, List.drop_length, edits_nil, List.append_nil]))
  | succ n ih =>
    intro i j acc hi hj hn hl
    have snoc : ∀ (e : S57) (r : List S57), (acc ++ [e]) ++ r = acc ++ e :: r := by
      intro e r; rw [List.append_assoc, List.singleton_append]
    have hsz : ∀ e : S57, (acc ++ [e]).length = acc.length + 1 := by intro e; simp
    refine Ev.succ ?_
    simp only [impl_EditsOf.l0]
    by_cases hia : i < a.length
    · refine Ev.pos (by omega) (Ev.succ ?_)
      simp only [impl_EditsOf.j2]
      by_cases hjb : j < b.length
      · refine Ev.pos (by first | rfl | trivial) (Ev.pos (by omega) (Ev.pos (by omega) (Ev.pos (by omega) (Ev.pos (by omega) (Ev.succ ?_)))))
        simp only [impl_EditsOf.j3]
        have hl0 := tab_len ht i (by omega)
        have hl1 := tab_len ht (i + 1) (by omega)
        have v1 := tab_at ht (i + 1) j (by omega) (by omega)
        have v2 := tab_at ht i (j + 1) (by omega) (by omega)
        have hxl := ht.1
        rw [up1 i (by omega), up1 j (by omega), v1, v2, rdOf_nat _ _ _ hia, rdOf_nat _ _ _ hjb]
        rw [drop_cons' a i hia, drop_cons' b j hjb, edits_cons]
        by_cases he : a[i] = b[j]
        · rw [if_pos he]
          refine Ev.pos (beq_iff_eq.2 ((toList_iff _ _).2 he)) (Ev.pos (by omega) (Ev.pos (by omega) (Ev.pos (by omega) ?_)))
          have := ih (i + 1) (j + 1) (acc ++ [⟨1, a[i]⟩]) (by omega) (by omega) (by omega) (by rw [hsz]; omega)
          rw [snoc] at this
          exact this
        · rw [if_neg he]
          refine Ev.neg (fun h => he ((toList_iff _ _).1 (beq_iff_eq.1 h))) (Ev.neg (by omega) (Ev.pos (by omega) (Ev.pos (by omega) (Ev.pos (by omega) (Ev.pos (by omega) (Ev.pos (by omega) (Ev.pos (by omega) (Ev.pos (by omega) (Ev.pos (by omega) (Ev.pos (by omega) ?_))))))))))
          have c1 : TT a b (i + 1) j = lcs (a.drop (i + 1)) (b[j] :: b.drop (j + 1)) := by rw [TT, drop_cons' b j hjb]
          have c2 : TT a b i (j + 1) = lcs (a[i] :: a.drop (i + 1)) (b.drop (j + 1)) := by rw [TT, drop_cons' a i hia]
          rw [← c1, ← c2]
          by_cases hge : TT a b (i + 1) j ≥ TT a b i (j + 1)
          · rw [if_pos hge]
            refine Ev.pos (by omega) (Ev.pos (by omega) ?_)
            have := ih (i + 1) j (acc ++ [⟨2, a[i]⟩]) (by omega) (by omega) (by omega) (by rw [hsz]; omega)
            rw [snoc, drop_cons' b j hjb] at this
            exact this
          · rw [if_neg hge]
            refine Ev.neg (by omega) (Ev.pos (by omega) (Ev.pos (by omega) ?_))
            have := ih i (j + 1) (acc ++ [⟨3, b[j]⟩]) (by omega) (by omega) (by omega) (by rw [hsz]; omega)
            rw [snoc, drop_cons' a i hia] at this
            exact this
      · have e2 : j = b.length := by omega
        subst e2
        refine Ev.pos (by first | rfl | trivial) (Ev.pos (by omega) (Ev.neg (by omega) (Ev.succ ?_)))
        simp only [impl_EditsOf.j3]
        rw [up1 i (by omega), rdOf_nat _ _ _ hia, drop_cons' a i hia, List.drop_length, edits_left]
        refine Ev.neg (by simp) (Ev.pos (by first | rfl | trivial) (Ev.pos (by omega) (Ev.pos (by omega) (Ev.pos (by omega) ?_))))
        have := ih (i + 1) b.length (acc ++ [⟨2, a[i]⟩]) (by omega) (by omega) (by omega) (by rw [hsz]; omega)
        rw [snoc, List.drop_length] at this
        exact this
    · have e1 : i = a.length := by omega
      subst e1
      refine Ev.neg (by omega) ?_
      by_cases hjb : j < b.length
      · rw [show decide ((j : Int) < (b.length : Int)) = true from by simp; omega]
        refine Ev.succ ?_
        simp only [impl_EditsOf.j2]
        refine Ev.pos (by first | rfl | trivial) (Ev.neg (by omega) (Ev.succ ?_))
        simp only [impl_EditsOf.j3]
        rw [up1 j (by omega), rdOf_nat _ _ _ hjb, drop_cons' b j hjb, List.drop_length, edits_right]
        refine Ev.neg (by simp) (Ev.neg (by omega) (Ev.neg (by omega) (Ev.pos (by omega) (Ev.pos (by omega) (Ev.pos (by omega) ?_)))))
        have := ih a.length (j + 1) (acc ++ [⟨3, b[j]⟩]) (by omega) (by omega) (by omega) (by rw [hsz]; omega)
        rw [snoc, List.drop_length] at this
        exact this
      · have e2 : j = b.length := by omega
        subst e2
        rw [show decide (((b.length : Nat) : Int) < (b.length : Int)) = false from by simp]
        refine Ev.succ ?_
        simp only [impl_EditsOf.j2]
        exact Ev.neg (by simp) (Ev.some_ (by rw [List.drop_length, List.drop_length, edits_nil, List.append_nil]))
end
theorem impl_EditsOf_ev (a b : List ByteArray) (ha : Sized a) (hb : Sized b) : Ev (fun k => impl_EditsOf.f k a b) (editsL a b) := by
  simp only [impl_EditsOf.f]
  refine (Ev.bnd (impl_canAlign_ev a ha) ?_)
  by_cases h1 : linesOk 300 a = true
  · refine Ev.pos h1 (Ev.bnd (impl_canAlign_ev b hb) (Ev.succ ?_))
    simp only [impl_EditsOf.j0]
    by_cases h2 : linesOk 300 b = true
    · have l1 := linesOk_len h1
      have l2 := linesOk_len h2
      obtain ⟨x, hx, ht⟩ := impl_commonFrom_ev a b (by omega) (by omega)
      refine Ev.neg (by rw [h2]; simp) (Ev.bnd hx ?_)
      have := impl_EditsOf_l0 a b x ht (by omega) (by omega) _ 0 0 [] (by omega) (by omega) (Nat.le_refl _) (by simp)
      rw [editsL, if_pos ⟨h1, h2⟩]
      exact this
    · exact Ev.pos (by simp [h2]) (Ev.some_ (by rw [editsL, if_neg (fun h => h2 h.2)]))
  · refine Ev.neg h1 (Ev.succ ?_)
    simp only [impl_EditsOf.j0]
    exact Ev.pos (by first | rfl | trivial) (Ev.some_ (by rw [editsL, if_neg (fun h => h1 h.1)]))
theorem FnExactEditsOf : laws_FnExactEditsOf.Pure := by
  intro a b ha hb
  refine Ev.rounds (r := true) ?_
  simp only [laws_FnExactEditsOf.f]
  obtain ⟨r, hr, hp⟩ := laws_szStringS_ev a 1048576 (by omega) (by omega) (by omega) ha.2
  refine Ev.bnd hr ?_
  by_cases h : r < 0
  · exact Ev.pos h (Ev.now _)
  have p1 := (hp (by omega)).1
  obtain ⟨q, hq, hp2⟩ := laws_szStringS_ev b r (by omega) (by omega) (by omega) hb.2
  refine Ev.neg h (Ev.bnd hq ?_)
  by_cases h' : q < 0
  · exact Ev.pos h' (Ev.now _)
  have p2 := (hp2 (by omega)).1
  have sa : Sized a := ⟨by omega, ha.2⟩
  have sb : Sized b := ⟨by omega, hb.2⟩
  have ta := laws_toStringS_ev a (by omega)
  have tb := laws_toStringS_ev b (by omega)
  have hl := editsL_length a b
  refine Ev.neg h' (Ev.bnd ta (Ev.bnd tb (Ev.bnd (spec_EditsOf_ev a b sa sb) (Ev.bnd ta (Ev.bnd tb (Ev.bnd (impl_EditsOf_ev a b sa sb) (Ev.bnd (laws_eqEditS_refl _ (by omega)) (Ev.pos rfl (Ev.bnd ta (Ev.bnd (laws_eqStringS_refl a sa.1) (Ev.pos rfl (Ev.bnd tb (Ev.bnd (laws_eqStringS_refl b sb.1) (Ev.pos rfl (Ev.bnd (laws_markStringS_ev a 1 (by omega) (by omega) (by omega)) (Ev.bnd (laws_markStringS_ev b _ (by omega) (by simp only; omega) (by simp only; omega)) (Ev.neg (by simp only; omega) (Ev.bnd (laws_eqEditS_refl _ (by omega)) ?_))))))))))))))))))
  simp only [Bool.not_true]
  refine Ev.succ ?_
  simp only [laws_FnExactEditsOf.j0]
  exact Ev.neg (by simp) (Ev.bnd (laws_markEditS_ev _ 1 (by omega) (by omega) (by omega)) (Ev.bnd (laws_heldEditS_ev 1 _ (by omega) (by omega) (by omega)) (Ev.neg (by omega) (Ev.pos (by first | rfl | trivial) (Ev.bnd ta (Ev.bnd tb (Ev.bnd (impl_EditsOf_ev a b sa sb) (Ev.bnd (laws_eqEditS_refl _ (by omega)) (Ev.pos (by first | rfl | trivial) (Ev.bnd (laws_heldEditS_ev 1 _ (by omega) (by omega) (by omega)) (Ev.neg (by omega) (Ev.pos (by first | rfl | trivial) (Ev.now _)))))))))))))

end Go.Proofs.Ytnimljoagcokaaa.Pure
