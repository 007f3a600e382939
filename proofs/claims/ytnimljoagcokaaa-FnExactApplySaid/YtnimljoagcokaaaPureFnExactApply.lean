/- The program's Apply returns what the reference's returns, for every list of texts and of edits that the row reads; both are left as they were, and the answer shares nothing with them or with a later answer. -/
import Derived.Test.YtnimljoagcokaaaPFnExactApplyx7
import Derived.Test.YtnimljoagcokaaaGen
namespace Go.Proofs.Ytnimljoagcokaaa.Pure
open Go.RowKit Go.Proofs.Ytnimljoagcokaaa.PFnExactApply Go.Proofs.YtnimljoagcokaaaW.PrintWords Go.Proofs.YtnimljoagcokaaaW.PrintLast Go.Proofs.YtnimljoagcokaaaG

theorem laws_szStringS_ev (l : List ByteArray) (m : Int) (hm0 : 0 ≤ m) (hm : m ≤ 140737488351232) (hl : l.length ≤ 140737488351232) (hx : ∀ x ∈ l, x.size ≤ 140737488351232) : ∃ r, Ev (fun k => laws_szStringS.f k l m) r ∧ (0 ≤ r → (l.length : Int) + r ≤ m ∧ ∀ x ∈ l, ((x.size : Nat) : Int) ≤ m) := by
  have key : ∀ (n i : Nat) (c : Int), i + n = l.length → 0 ≤ c → c ≤ 140737488351232 → ∃ r, Ev (fun k => laws_szStringS.l0 k l c (i : Int)) r ∧ (0 ≤ r → r ≤ c ∧ ∀ x ∈ l.drop i, ((x.size : Nat) : Int) ≤ c) := by
    intro n
    induction n with
    | zero =>
      intro i c hi hc0 hc
      refine ⟨c, Ev.succ ?_, fun _ => ⟨Int.le_refl _, ?_⟩⟩
      · simp only [laws_szStringS.l0]
        exact Ev.neg (by omega) (Ev.now _)
      · rw [drop_end l i (by omega)]
        simp
    | succ n ih =>
      intro i c hi hc0 hc
      have hr : rdOf ByteArray.empty l (i : Int) = l[i]'(by omega) := by simp [rdOf, List.getD, List.getElem?_eq_getElem (show i < l.length by omega)]
      have hs := hx _ (List.getElem_mem (show i < l.length by omega))
      have hd : l.drop i = l[i]'(by omega) :: l.drop (i + 1) := List.drop_eq_getElem_cons (by omega)
      have hw : wrap64 (c - (((rdOf ByteArray.empty l (i : Int)).size : Nat) : Int)) = c - (((l[i]'(by omega)).size : Nat) : Int) := by rw [hr]; exact w64 (by omega) (by omega)
      by_cases h : c - (((l[i]'(by omega)).size : Nat) : Int) < 0
      · refine ⟨-1, Ev.succ ?_, fun h => absurd h (by omega)⟩
        simp only [laws_szStringS.l0]
        exact Ev.pos (by omega) (Ev.pos (by omega) (Ev.pos (by rw [hw]; exact h) (Ev.now _)))
      · obtain ⟨r, hev, hp⟩ := ih (i + 1) (c - (((l[i]'(by omega)).size : Nat) : Int)) (by omega) (by omega) (by omega)
        refine ⟨r, Ev.succ ?_, fun h0 => ?_⟩
        · simp only [laws_szStringS.l0]
          refine Ev.pos (by omega) (Ev.pos (by omega) (Ev.neg (by rw [hw]; exact h) ?_))
          rw [up1 i (by omega), hw]
          exact hev
        · obtain ⟨p1, p2⟩ := hp h0
          refine ⟨by omega, fun x hx => ?_⟩
          rw [hd] at hx
          rcases List.mem_cons.1 hx with rfl | hx
          · omega
          · have := p2 x hx
            omega
  simp only [laws_szStringS.f]
  by_cases h : wrap64 (m - (l.length : Int)) < 0
  · exact ⟨-1, Ev.pos h (Ev.now _), fun h => absurd h (by omega)⟩
  · have h1 : ¬ (m - (l.length : Int) < 0) := by rw [w64 (by omega) (by omega)] at h; exact h
    obtain ⟨r, hr, hp⟩ := key l.length 0 (m - (l.length : Int)) (by omega) (by omega) (by omega)
    refine ⟨r, Ev.neg h ?_, fun h0 => ?_⟩
    · rw [w64 (by omega) (by omega)]
      exact hr
    · obtain ⟨p1, p2⟩ := hp h0
      refine ⟨by omega, fun x hx => ?_⟩
      have := p2 x (by simpa using hx)
      omega
theorem laws_toStringS_l0 (l : List ByteArray) (hl : l.length ≤ 140737488351232) : ∀ (n i : Nat) (x : List ByteArray), i + n = l.length → x.length = l.length → (∀ j, j < i → x[j]? = l[j]?) → Ev (fun k => laws_toStringS.l0 k l x (i : Int)) l := by
  intro n
  induction n with
  | zero =>
    intro i x hi hx hj
    refine Ev.succ ?_
    simp only [laws_toStringS.l0]
    refine Ev.neg (by omega) (Ev.some_ ?_)
    apply List.ext_getElem?
    intro j
    by_cases h : j < i
    · exact hj j h
    · rw [List.getElem?_eq_none (by omega), List.getElem?_eq_none (by omega)]
  | succ n ih =>
    intro i x hi hx hj
    refine Ev.succ ?_
    simp only [laws_toStringS.l0]
    refine Ev.pos (by omega) (Ev.pos (by omega) (Ev.pos (by omega) ?_))
    have e : wrap64 ((i : Int) + 1) = ((i + 1 : Nat) : Int) := by rw [w64 (by omega) (by omega)]; omega
    have e2 : ((i : Int)).toNat = i := by omega
    rw [e, e2]
    refine ih (i + 1) _ (by omega) (by rw [List.length_set]; exact hx) ?_
    intro j hj'
    by_cases h : j = i
    · subst h
      rw [List.getElem?_set_self (by omega)]
      simp [rdOf, List.getD, List.getElem?_eq_getElem (show j < l.length by omega)]
    · rw [List.getElem?_set_ne (by omega)]
      exact hj j (by omega)
theorem laws_toStringS_ev (l : List ByteArray) (hl : l.length ≤ 17592186044416) : Ev (fun k => laws_toStringS.f k l) l := by
  simp only [laws_toStringS.f]
  refine Ev.pos (by omega) (Ev.pos (by omega) ?_)
  exact laws_toStringS_l0 l (by omega) l.length 0 _ (by omega) (by simp) (fun j h => absurd h (by omega))
theorem laws_eqStringS_refl (l : List ByteArray) (hl : l.length ≤ 140737488351232) : Ev (fun k => laws_eqStringS.f k l l) true := by
  simp only [laws_eqStringS.f]
  refine Ev.pos (by first | rfl | trivial) ?_
  have key : ∀ (n i : Nat), i + n = l.length → Ev (fun k => laws_eqStringS.l0 k l l (i : Int)) true := by
    intro n
    induction n with
    | zero =>
      intro i hi
      refine Ev.succ ?_
      simp only [laws_eqStringS.l0]
      exact Ev.neg (by omega) (Ev.now _)
    | succ n ih =>
      intro i hi
      refine Ev.succ ?_
      simp only [laws_eqStringS.l0]
      have e : wrap64 ((i : Int) + 1) = ((i + 1 : Nat) : Int) := by rw [w64 (by omega) (by omega)]; omega
      rw [e]
      exact Ev.pos (by omega) (Ev.pos (by omega) (Ev.pos (by omega) (Ev.pos (by first | rfl | trivial) (ih (i + 1) (by omega)))))
  exact key l.length 0 (by omega)
/-! edits: kinds and lines -/
def edGo : List (Int × ByteArray) → Int → Int → Bool
  | [], n, m => decide (n ≤ 300) && decide (m ≤ 300)
  | (k, s) :: l, n, m => if 1 ≤ k ∧ k ≤ 3 ∧ lineOk s = true then edGo l (if k = 3 then n else n + 1) (if k = 2 then m else m + 1) else false
def editsOk (l : List (Int × ByteArray)) : Bool := edGo l 0 0
def pr (e : S57) : Int × ByteArray := (e.f0, e.f1)
theorem rdE_nat (l : List S57) (i : Nat) (h : i < l.length) : rd_T57 l (i : Int) = l[i] := by
  simp [rd_T57, List.getD, List.getElem?_eq_getElem h]
theorem laws_eqEditS_refl (l : List S57) (hl : l.length ≤ 140737488351232) : Ev (fun k => laws_eqEditS.f k l l) true := by
  simp only [laws_eqEditS.f]
  refine Ev.pos (by first | rfl | trivial) ?_
  have key : ∀ (n i : Nat), i + n = l.length → Ev (fun k => laws_eqEditS.l0 k l l (i : Int)) true := by
    intro n
    induction n with
    | zero =>
      intro i hi
      refine Ev.succ ?_
      simp only [laws_eqEditS.l0]
      exact Ev.neg (by omega) (Ev.now _)
    | succ n ih =>
      intro i hi
      refine Ev.succ ?_
      simp only [laws_eqEditS.l0]
      refine Ev.pos (by omega) (Ev.pos (by omega) (Ev.pos (by omega) ?_))
      rw [up1 i (by omega)]
      exact Ev.bnd0 (a := true) (by simp [laws_eqEdit.f]) (Ev.pos rfl (ih (i + 1) (by omega)))
  exact key l.length 0 (by omega)
def conv (e : S60) : S57 := ⟨e.f0, e.f1⟩
theorem rdA_nat (l : List S60) (i : Nat) (h : i < l.length) : rd_T60 l (i : Int) = l[i] := by
  simp [rd_T60, List.getD, List.getElem?_eq_getElem h]
theorem laws_szEditS_ev (l : List S60) (m : Int) (hm0 : 0 ≤ m) (hm : m ≤ 140737488351232) (hl : l.length ≤ 140737488351232) (hx : ∀ x ∈ l, x.f1.size ≤ 140737488351232) : ∃ r, Ev (fun k => laws_szEditS.f k l m) r ∧ (0 ≤ r → (l.length : Int) ≤ m) := by
  have key : ∀ (n i : Nat) (c : Int), i + n = l.length → 0 ≤ c → c ≤ 140737488351232 → ∃ r, Ev (fun k => laws_szEditS.l0 k l c (i : Int)) r := by
    intro n
    induction n with
    | zero =>
      intro i c hi hc0 hc
      refine ⟨c, Ev.succ ?_⟩
      simp only [laws_szEditS.l0]
      exact Ev.neg (by omega) (Ev.now _)
    | succ n ih =>
      intro i c hi hc0 hc
      have hs := hx _ (List.getElem_mem (show i < l.length by omega))
      have hr := rdA_nat l i (by omega)
      have hw : wrap64 (c - (((l[i]'(by omega)).f1.size : Nat) : Int)) = c - (((l[i]'(by omega)).f1.size : Nat) : Int) := w64 (by omega) (by omega)
      by_cases h : c - (((l[i]'(by omega)).f1.size : Nat) : Int) < 0
      · refine ⟨-1, Ev.succ ?_⟩
        simp only [laws_szEditS.l0]
        rw [hr]
        exact Ev.pos (by omega) (Ev.pos (by omega) (Ev.bnd0 (a := -1) (by simp only [laws_szEdit.f]; rw [if_pos (by rw [hw]; exact h)]) (Ev.pos (by omega) (Ev.now _))))
      · obtain ⟨r, hev⟩ := ih (i + 1) (c - (((l[i]'(by omega)).f1.size : Nat) : Int)) (by omega) (by omega) (by omega)
        refine ⟨r, Ev.succ ?_⟩
        simp only [laws_szEditS.l0]
        rw [hr, up1 i (by omega)]
        exact Ev.pos (by omega) (Ev.pos (by omega) (Ev.bnd0 (a := c - (((l[i]'(by omega)).f1.size : Nat) : Int)) (by simp only [laws_szEdit.f]; rw [if_neg (by rw [hw]; exact h), hw]) (Ev.neg h hev)))
  simp only [laws_szEditS.f]
  by_cases h : wrap64 (m - (l.length : Int)) < 0
  · exact ⟨-1, Ev.pos h (Ev.now _), fun h => absurd h (by omega)⟩
  · have h1 : ¬ (m - (l.length : Int) < 0) := by rw [w64 (by omega) (by omega)] at h; exact h
    obtain ⟨r, hr⟩ := key l.length 0 (m - (l.length : Int)) (by omega) (by omega) (by omega)
    refine ⟨r, Ev.neg h ?_, fun _ => by omega⟩
    rw [w64 (by omega) (by omega)]
    exact hr
theorem laws_toEditS_ev (l : List S60) (hl : l.length ≤ 11728124029610) : Ev (fun k => laws_toEditS.f k l) (l.map conv) := by
  simp only [laws_toEditS.f]
  refine Ev.pos (by omega) (Ev.pos (by omega) ?_)
  have key : ∀ (n i : Nat) (x : List S57), i + n = l.length → x.length = l.length → (∀ j, j < i → x[j]? = (l.map conv)[j]?) → Ev (fun k => laws_toEditS.l0 k l x (i : Int)) (l.map conv) := by
    intro n
    induction n with
    | zero =>
      intro i x hi hx hj
      refine Ev.succ ?_
      simp only [laws_toEditS.l0]
      refine Ev.neg (by omega) (Ev.some_ ?_)
      apply List.ext_getElem?
      intro j
      by_cases h : j < i
      · exact hj j h
      · rw [List.getElem?_eq_none (by omega), List.getElem?_eq_none (by rw [List.length_map]; omega)]
    | succ n ih =>
      intro i x hi hx' hj
      refine Ev.succ ?_
      simp only [laws_toEditS.l0]
      have hr := rdA_nat l i (by omega)
      rw [up1 i (by omega), hr]
      refine Ev.pos (by omega) (Ev.pos (by omega) (Ev.bnd0 (a := ((l[i]'(by omega)).f0, (l[i]'(by omega)).f1)) rfl (Ev.pos (by omega) ?_)))
      have e2 : ((i : Int)).toNat = i := by omega
      rw [e2]
      refine ih (i + 1) _ (by omega) (by rw [List.length_set]; exact hx') ?_
      intro j hj'
      by_cases h : j = i
      · subst h
        rw [List.getElem?_set_self (by omega), List.getElem?_map, List.getElem?_eq_getElem (show j < l.length by omega)]
        rfl
      · rw [List.getElem?_set_ne (by omega)]
        exact hj j (by omega)
  exact key l.length 0 _ (by omega) (by simp) (fun j h => absurd h (by omega))
/-! the laws' marks as texts -/
def mtGo : Nat → Int → ByteArray → ByteArray
  | 0, _, s => (⟨#[109]⟩ : ByteArray) ++ s
  | f + 1, n, s => if n > 0 then mtGo f (n / 10) (strOfNums [48 + n % 10] ++ s) else (⟨#[109]⟩ : ByteArray) ++ s
def mt (n : Int) : ByteArray := if n ≤ 0 then (⟨#[109, 48]⟩ : ByteArray) else mtGo 13 n (⟨#[]⟩ : ByteArray)
def FitsT : Nat → Int → Prop
  | 0, n => n ≤ 0
  | f + 1, n => FitsT f (n / 10)
theorem fitsT {n : Int} (h : n ≤ 1000000000000) : FitsT 13 n := by
  simp only [FitsT]
  omega
theorem laws_markText_l0 : ∀ (f : Nat) (n : Int) (s : ByteArray), FitsT f n → n ≤ 1000000000000 → s.size + f < 1000 → Ev (fun k => laws_markText.l0 k n s) (mtGo f n s) := by
  intro f
  induction f with
  | zero =>
    intro n s hf hn hs
    simp only [FitsT] at hf
    refine Ev.succ ?_
    simp only [laws_markText.l0]
    exact Ev.neg (by omega) (Ev.pos (by omega) (Ev.some_ rfl))
  | succ f ih =>
    intro n s hf hn hs
    simp only [FitsT] at hf
    refine Ev.succ ?_
    simp only [laws_markText.l0]
    by_cases h : n > 0
    · rw [Int.tmod_eq_emod_of_nonneg (show 0 ≤ n by omega), Int.tdiv_eq_ediv_of_nonneg (show 0 ≤ n by omega)]
      rw [show wrap64 (48 + n % 10) = 48 + n % 10 from w64 (by omega) (by omega), show wrap64 (n / 10) = n / 10 from w64 (by omega) (by omega), show (48 + n % 10) % 256 = 48 + n % 10 from by omega]
      have hz : (strOfNums [48 + n % 10]).size = 1 := by rw [strOfNums_size]; rfl
      refine Ev.pos h (Ev.bnd0 rfl (Ev.pos (by omega) ?_))
      have := ih (n / 10) (strOfNums [48 + n % 10] ++ s) hf (by omega) (by rw [size_append]; omega)
      simp only [mtGo]
      rw [if_pos h]
      exact this
    · simp only [mtGo]
      rw [if_neg h]
      exact Ev.neg h (Ev.pos (by omega) (Ev.some_ rfl))
theorem laws_markText_ev (n : Int) (hn : n ≤ 1000000000000) : Ev (fun k => laws_markText.f k n) (mt n) := by
  simp only [laws_markText.f]
  unfold mt
  by_cases h : n ≤ 0
  · rw [if_pos h]
    exact Ev.pos h (Ev.now _)
  · rw [if_neg h]
    exact Ev.neg h (laws_markText_l0 13 n _ (fitsT hn) hn (by decide))
theorem laws_markStringS_ev (l : List ByteArray) (m : Int) (hl : l.length ≤ 100000000) (hm0 : 0 ≤ m) (hm : m ≤ 100000000) : Ev (fun k => laws_markStringS.f k l m) (m + l.length, markL mt m l.length) := by
  simp only [laws_markStringS.f]
  have key : ∀ (n i : Nat) (x : List ByteArray) (c : Int), i + n = l.length → x.length = l.length → c = m + i → (∀ j, j < i → x[j]? = (markL mt m l.length)[j]?) → Ev (fun k => laws_markStringS.l0 k x c (i : Int)) (m + l.length, markL mt m l.length) := by
    intro n
    induction n with
    | zero =>
      intro i x c hi hx hc hj
      refine Ev.succ ?_
      simp only [laws_markStringS.l0]
      refine Ev.neg (by omega) (Ev.some_ ?_)
      have : x = markL mt m l.length := by
        apply List.ext_getElem?
        intro j
        by_cases h : j < i
        · exact hj j h
        · rw [List.getElem?_eq_none (by omega), List.getElem?_eq_none (by rw [markL_length]; omega)]
      rw [this, hc, show i = l.length by omega]
    | succ n ih =>
      intro i x c hi hx hc hj
      refine Ev.succ ?_
      simp only [laws_markStringS.l0]
      refine Ev.pos (by omega) (Ev.bnd (laws_markText_ev _ (by omega)) (Ev.pos (by omega) ?_))
      have e : wrap64 ((i : Int) + 1) = ((i + 1 : Nat) : Int) := by rw [w64 (by omega) (by omega)]; omega
      have e1 : wrap64 (c + 1) = c + 1 := w64 (by omega) (by omega)
      have e2 : ((i : Int)).toNat = i := by omega
      rw [e, e1, e2]
      refine ih (i + 1) _ _ (by omega) (by rw [List.length_set]; exact hx) (by omega) ?_
      intro j hj'
      by_cases h : j = i
      · subst h
        rw [List.getElem?_set_self (by omega), markL_get _ _ _ _ (by omega), hc]
      · rw [List.getElem?_set_ne (by omega)]
        exact hj j (by omega)
  exact key l.length 0 l m (by omega) rfl (by omega) (fun j h => absurd h (by omega))
theorem laws_heldStringS_ev (m : Int) (n0 : Nat) (hl : n0 ≤ 100000000) (hm0 : 0 ≤ m) (hm : m ≤ 100000000) : Ev (fun k => laws_heldStringS.f k (markL mt m n0) m) (m + n0) := by
  simp only [laws_heldStringS.f]
  have key : ∀ (n i : Nat) (c : Int), i + n = n0 → c = m + i → Ev (fun k => laws_heldStringS.l0 k (markL mt m n0) c (i : Int)) (m + n0) := by
    intro n
    induction n with
    | zero =>
      intro i c hi hc
      refine Ev.succ ?_
      simp only [laws_heldStringS.l0]
      exact Ev.neg (by rw [markL_length]; omega) (Ev.some_ (by omega))
    | succ n ih =>
      intro i c hi hc
      refine Ev.succ ?_
      simp only [laws_heldStringS.l0]
      have e : wrap64 ((i : Int) + 1) = ((i + 1 : Nat) : Int) := by rw [w64 (by omega) (by omega)]; omega
      have e1 : wrap64 (c + 1) = c + 1 := w64 (by omega) (by omega)
      rw [e, e1]
      refine Ev.pos (by rw [markL_length]; omega) (Ev.pos (by omega) (Ev.bnd (laws_markText_ev _ (by omega)) (Ev.pos ?_ (ih (i + 1) _ (by omega) (by omega)))))
      have hlt : i < (markL mt m n0).length := by rw [markL_length]; omega
      have := markL_get mt m n0 i (by omega)
      rw [List.getElem?_eq_getElem hlt] at this
      rw [rdOf_nat _ _ _ hlt, Option.some.inj this, hc]
  exact key n0 0 m (by omega) (by omega)
def mkE (m : Int) (n : Nat) : List S57 := (List.range n).map fun i => ⟨m + 2 * (i : Nat), mt (m + 2 * (i : Nat) + 1)⟩
theorem mkE_length (m : Int) (n : Nat) : (mkE m n).length = n := by simp [mkE]
theorem mkE_get (m : Int) (n j : Nat) (h : j < n) : (mkE m n)[j]? = some ⟨m + 2 * (j : Nat), mt (m + 2 * (j : Nat) + 1)⟩ := by simp [mkE, h]
theorem laws_markEditS_ev (l : List S57) (m : Int) (hl : l.length ≤ 100000000) (hm0 : 0 ≤ m) (hm : m ≤ 100000000) : Ev (fun k => laws_markEditS.f k l m) (m + 2 * (l.length : Int), mkE m l.length) := by
  simp only [laws_markEditS.f]
  have key : ∀ (n i : Nat) (x : List S57), i + n = l.length → x.length = l.length → (∀ j, j < i → x[j]? = (mkE m l.length)[j]?) → Ev (fun k => laws_markEditS.l0 k x (m + 2 * (i : Int)) (i : Int)) (m + 2 * (l.length : Int), mkE m l.length) := by
    intro n
    induction n with
    | zero =>
      intro i x hi hx hj
      refine Ev.succ ?_
      simp only [laws_markEditS.l0]
      refine Ev.neg (by omega) (Ev.some_ ?_)
      have : x = mkE m l.length := by
        apply List.ext_getElem?
        intro j
        by_cases h : j < i
        · exact hj j h
        · rw [List.getElem?_eq_none (by omega), List.getElem?_eq_none (by rw [mkE_length]; omega)]
      rw [this, show i = l.length by omega]
    | succ n ih =>
      intro i x hi hx hj
      refine Ev.succ ?_
      simp only [laws_markEditS.l0]
      refine Ev.pos (by omega) (Ev.pos (by omega) (Ev.bnd0 rfl ?_))
      rw [show wrap64 (m + 2 * (i : Int) + 1) = m + 2 * (i : Int) + 1 from w64 (by omega) (by omega), show wrap64 (m + 2 * (i : Int) + 1 + 1) = m + 2 * ((i + 1 : Nat) : Int) from by rw [w64 (by omega) (by omega)]; omega, up1 i (by omega), Int.toNat_natCast]
      refine Ev.bnd (laws_markText_ev _ (by omega)) ?_
      have hrd : ∀ y : List S57, y.length = l.length → ∀ e, (rd_T57 (y.set i e) (i : Int)) = e := by
        intro y hy e
        rw [rdE_nat _ i (by rw [List.length_set]; omega), List.getElem_set_self]
      rw [hrd x hx, List.set_set]
      refine ih (i + 1) _ (by omega) (by rw [List.length_set]; exact hx) ?_
      intro j hj'
      by_cases h : j = i
      · subst h
        rw [List.getElem?_set_self (by omega), mkE_get _ _ _ (by omega)]
      · rw [List.getElem?_set_ne (by omega)]
        exact hj j (by omega)
  have := key l.length 0 l (by omega) rfl (fun j h => absurd h (by omega))
  have e : m + 2 * ((0 : Nat) : Int) = m := by omega
  rw [e] at this
  exact this
theorem spec_LineOk_ev (s : ByteArray) (hs : s.size ≤ 140737488351232) : Ev (fun k => spec_LineOk.f k s) (lineOk s) := by
  simp only [spec_LineOk.f]
  have key : ∀ (n i : Nat), i + n = s.size → Ev (fun k => spec_LineOk.l0 k s (i : Int)) (decide ((10 : Int) ∉ (bytesOf s).drop i ∧ s.size ≤ 60)) := by
    intro n
    induction n with
    | zero =>
      intro i hi
      refine Ev.succ ?_
      simp only [spec_LineOk.l0]
      refine Ev.neg (by omega) (Ev.some_ ?_)
      rw [drop_end _ _ (by rw [bytesOf_length]; omega)]
      simp
      omega
    | succ n ih =>
      intro i hi
      refine Ev.succ ?_
      simp only [spec_LineOk.l0]
      refine Ev.pos (by omega) (Ev.pos (by omega) ?_)
      rw [up1 i (by omega), drop_bt s i (by omega)]
      by_cases h : bt s (i : Int) = 10
      · exact Ev.pos h (Ev.some_ (by simp [h]))
      · refine Ev.neg h (Ev_eq (ih (i + 1) (by omega)) ?_)
        have : ((10 : Int) ∉ bt s (i : Int) :: (bytesOf s).drop (i + 1)) ↔ ((10 : Int) ∉ (bytesOf s).drop (i + 1)) := by
          rw [List.mem_cons]
          constructor
          · intro h1 h2; exact h1 (.inr h2)
          · intro h1 h2
            rcases h2 with h2 | h2
            · exact h h2.symm
            · exact h1 h2
        simp only [this]
  exact key s.size 0 (by omega)
theorem spec_l03All_ev (l : List ByteArray) (m : Int) (hl : Sized l) : Ev (fun k => spec_l03All.f k l m) (linesOk m l) := by
  simp only [spec_l03All.f]
  by_cases h : (l.length : Int) > m
  · refine Ev.pos h (Ev.some_ ?_)
    simp only [linesOk]
    rw [show decide ((l.length : Int) ≤ m) = false from by simp; omega]
    rfl
  refine Ev.neg h ?_
  have key : ∀ (n i : Nat), i + n = l.length → Ev (fun k => spec_l03All.l0 k l (i : Int)) (allOk (l.drop i)) := by
    intro n
    induction n with
    | zero =>
      intro i hi
      refine Ev.succ ?_
      simp only [spec_l03All.l0]
      refine Ev.neg (by omega) (Ev.some_ ?_)
      rw [drop_end l i (by omega)]
      rfl
    | succ n ih =>
      intro i hi
      refine Ev.succ ?_
      simp only [spec_l03All.l0]
      have hlt := hl.1
      refine Ev.pos (by omega) (Ev.pos (by omega) (Ev.bnd (spec_LineOk_ev _ (hl.2 _ (rdOf_mem _ l i (by omega)))) ?_))
      rw [up1 i (by omega), drop_rdOf ByteArray.empty l i (by omega)]
      by_cases hx : lineOk (rdOf ByteArray.empty l (i : Int)) = true
      · refine Ev.pos hx (Ev_eq (ih (i + 1) (by omega)) ?_)
        simp only [allOk, List.all_cons, hx, Bool.true_and]
      · refine Ev.neg hx (Ev.some_ ?_)
        simp only [allOk, List.all_cons, Bool.not_eq_true _ ▸ hx]
        simp
  refine Ev_eq (key l.length 0 (by omega)) ?_
  simp only [linesOk, List.drop_zero]
  rw [show decide ((l.length : Int) ≤ m) = true from by simp; omega]
  rfl
theorem impl_LineOk_eq (s : ByteArray) : impl_LineOk.f s = some (lineOk s) := by
  simp only [impl_LineOk.f]
  by_cases h : (s.size : Int) ≤ 60
  · rw [if_pos h]
    simp only [strings_Contains.f]
    rw [if_pos (by rfl)]
    simp only [Option.bind_some]
    congr 1
    have h1 := indexByte_mem 10 s.data.toList
    have h2 := byte_mem s 10
    simp only [lineOk]
    rw [← decide_not]
    congr 1
    rw [show (⟨#[10]⟩ : ByteArray).data.toList.headD 0 = (10 : UInt8) from rfl, h1, h2]
    simp only [eq_iff_iff]
    constructor
    · intro h3; exact ⟨h3, by omega⟩
    · intro h3; exact h3.1
  · rw [if_neg h]
    congr 1
    simp only [lineOk]
    symm
    rw [decide_eq_false_iff_not]
    omega
theorem impl_areLines_ev (l : List ByteArray) (hl : l.length ≤ 140737488351232) : Ev (fun k => impl_areLines.f k l) (allOk l) := by
  simp only [impl_areLines.f]
  have key : ∀ (n i : Nat), i + n = l.length → Ev (fun k => impl_areLines.l0 k l (l.length : Int) (i : Int)) (allOk (l.drop i)) := by
    intro n
    induction n with
    | zero =>
      intro i hi
      refine Ev.succ ?_
      simp only [impl_areLines.l0]
      refine Ev.neg (by omega) (Ev.some_ ?_)
      rw [drop_end l i (by omega)]
      rfl
    | succ n ih =>
      intro i hi
      refine Ev.succ ?_
      simp only [impl_areLines.l0]
      refine Ev.pos (by omega) (Ev.pos (by omega) (Ev.pos (by omega) (Ev.bnd0 (impl_LineOk_eq _) ?_)))
      rw [up1 i (by omega), drop_rdOf ByteArray.empty l i (by omega)]
      by_cases hx : lineOk (rdOf ByteArray.empty l (i : Int)) = true
      · refine Ev.pos hx (Ev_eq (ih (i + 1) (by omega)) ?_)
        simp only [allOk, List.all_cons, hx, Bool.true_and]
      · refine Ev.neg hx (Ev.some_ ?_)
        simp only [allOk, List.all_cons]
        simp [Bool.eq_false_iff.2 hx]
  exact key l.length 0 (by omega)
theorem spec_l04Ok_ev (l : List ByteArray) (hl : Sized l) : Ev (fun k => spec_l04Ok.f k l) (linesOk 300 l) := by
  simp only [spec_l04Ok.f]
  exact Ev.bnd (spec_l03All_ev l 300 hl) (Ev.now _)
theorem impl_canAlign_ev (l : List ByteArray) (hl : Sized l) : Ev (fun k => impl_canAlign.f k l) (linesOk 300 l) := by
  simp only [impl_canAlign.f]
  by_cases h : (l.length : Int) ≤ 300
  · exact Ev.pos h (Ev.bnd (impl_areLines_ev l hl.1) (Ev.some_ (by simp [linesOk, h])))
  · exact Ev.neg h (Ev.some_ (by simp [linesOk, h]))
theorem linesOk_len {m : Int} {l : List ByteArray} (h : linesOk m l = true) : (l.length : Int) ≤ m := by
  simp only [linesOk, Bool.and_eq_true, decide_eq_true_eq] at h
  exact h.1
theorem spec_l01In_eq (a b c : Int) : spec_l01In.f a b c = some (decide (b ≤ a ∧ a ≤ c)) := by
  unfold spec_l01In.f
  by_cases h : a ≥ b
  · rw [if_pos h]; simp [h]
  · rw [if_neg h]; simp; omega
theorem impl_inRange_eq (a b c : Int) : impl_inRange.f a b c = some (decide (b ≤ a ∧ a ≤ c)) := by
  unfold impl_inRange.f
  by_cases h : a ≥ b
  · rw [if_pos h]; simp [h]
  · rw [if_neg h]; simp; omega
theorem ed_step (k : Int) (s : ByteArray) (l : List (Int × ByteArray)) (n m : Int) (h : 1 ≤ k ∧ k ≤ 3) (hs : lineOk s = true) : edGo ((k, s) :: l) n m = edGo l (if k = 3 then n else n + 1) (if k = 2 then m else m + 1) := by
  simp only [edGo]
  rw [if_pos ⟨h.1, h.2, hs⟩]
theorem spec_EditsOk_ev (l : List S57) (hl : l.length ≤ 140737488351232) (hx : ∀ x ∈ l, x.f1.size ≤ 140737488351232) : Ev (fun k => spec_EditsOk.f k l) (editsOk (l.map pr)) := by
  simp only [spec_EditsOk.f]
  have key : ∀ (d i : Nat) (n m : Int), i + d = l.length → 0 ≤ n → n ≤ i → 0 ≤ m → m ≤ i → Ev (fun k => spec_EditsOk.l0 k l n m (i : Int)) (edGo ((l.drop i).map pr) n m) := by
    intro d
    induction d with
    | zero =>
      intro i n m hi hn0 hn hm0 hm
      refine Ev.succ ?_
      simp only [spec_EditsOk.l0]
      rw [drop_end l i (by omega)]
      refine Ev.neg (by omega) ?_
      simp only [List.map_nil, edGo]
      by_cases h : n ≤ 300
      · exact Ev.pos h (Ev.some_ (by simp [h]))
      · exact Ev.neg h (Ev.some_ (by simp [h]))
    | succ d ih =>
      intro i n m hi hn0 hn hm0 hm
      refine Ev.succ ?_
      simp only [spec_EditsOk.l0]
      have hr := rdE_nat l i (by omega)
      have hs := hx _ (List.getElem_mem (show i < l.length by omega))
      rw [hr, List.drop_eq_getElem_cons (show i < l.length by omega), List.map_cons]
      refine Ev.pos (by omega) (Ev.pos (by omega) (Ev.bnd0 (spec_l01In_eq _ _ _) ?_))
      by_cases hk : 1 ≤ (l[i]'(by omega)).f0 ∧ (l[i]'(by omega)).f0 ≤ 3
      · refine Ev.pos (by simpa using hk) (Ev.bnd (spec_LineOk_ev _ hs) (Ev.succ ?_))
        simp only [spec_EditsOk.j1]
        by_cases ho : lineOk (l[i]'(by omega)).f1 = true
        · refine Ev.neg (by simp [ho]) (Ev.pos (by omega) (Ev.pos (by omega) ?_))
          have e1 : wrap64 (n + 1) = n + 1 := w64 (by omega) (by omega)
          have e2 : wrap64 (m + 1) = m + 1 := w64 (by omega) (by omega)
          rw [up1 i (by omega), e1, e2, hr]
          rw [show pr (l[i]'(by omega)) = ((l[i]'(by omega)).f0, (l[i]'(by omega)).f1) from rfl, ed_step _ _ _ _ _ hk ho]
          clear e1 e2
          by_cases h3 : (l[i]'(by omega)).f0 = 3
          · refine Ev.pos h3 (Ev.neg (by omega) ?_)
            rw [if_pos h3, if_neg (by omega)]
            exact ih (i + 1) n (m + 1) (by omega) (by omega) (by omega) (by omega) (by omega)
          · refine Ev.neg h3 ?_
            rw [if_neg h3]
            by_cases h2 : (l[i]'(by omega)).f0 = 2
            · refine Ev.pos h2 ?_
              rw [if_pos h2]
              exact ih (i + 1) (n + 1) m (by omega) (by omega) (by omega) (by omega) (by omega)
            · refine Ev.neg h2 ?_
              rw [if_neg h2]
              exact ih (i + 1) (n + 1) (m + 1) (by omega) (by omega) (by omega) (by omega) (by omega)
        · refine Ev.pos (by simp [ho]) (Ev.some_ ?_)
          rw [show pr (l[i]'(by omega)) = ((l[i]'(by omega)).f0, (l[i]'(by omega)).f1) from rfl, edGo, if_neg (fun h => ho h.2.2)]
      · refine Ev.neg (by simpa using hk) (Ev.succ ?_)
        simp only [spec_EditsOk.j1]
        refine Ev.pos trivial (Ev.some_ ?_)
        rw [show pr (l[i]'(by omega)) = ((l[i]'(by omega)).f0, (l[i]'(by omega)).f1) from rfl, edGo, if_neg (fun h => hk ⟨h.1, h.2.1⟩)]
  exact key l.length 0 0 0 (by omega) (by omega) (by omega) (by omega) (by omega)
theorem impl_EditsOk_ev (l : List S57) (hl : l.length ≤ 140737488351232) : Ev (fun k => impl_EditsOk.f k l) (editsOk (l.map pr)) := by
  simp only [impl_EditsOk.f]
  have key : ∀ (d i : Nat) (n m : Int), i + d = l.length → 0 ≤ n → n ≤ i → 0 ≤ m → m ≤ i → Ev (fun k => impl_EditsOk.l0 k n m l (l.length : Int) (i : Int)) (edGo ((l.drop i).map pr) n m) := by
    intro d
    induction d with
    | zero =>
      intro i n m hi hn0 hn hm0 hm
      refine Ev.succ ?_
      simp only [impl_EditsOk.l0]
      rw [drop_end l i (by omega)]
      refine Ev.neg (by omega) ?_
      simp only [List.map_nil, edGo]
      by_cases h : n ≤ 300
      · exact Ev.pos h (Ev.some_ (by simp [h]))
      · exact Ev.neg h (Ev.some_ (by simp [h]))
    | succ d ih =>
      intro i n m hi hn0 hn hm0 hm
      refine Ev.succ ?_
      simp only [impl_EditsOk.l0]
      have hr := rdE_nat l i (by omega)
      rw [hr, List.drop_eq_getElem_cons (show i < l.length by omega), List.map_cons]
      refine Ev.pos (by omega) (Ev.pos (by omega) (Ev.pos (by omega) (Ev.bnd0 (impl_inRange_eq _ _ _) ?_)))
      by_cases hk : 1 ≤ (l[i]'(by omega)).f0 ∧ (l[i]'(by omega)).f0 ≤ 3
      · refine Ev.pos (by simpa using hk) (Ev.bnd0 (impl_LineOk_eq _) (Ev.succ ?_))
        simp only [impl_EditsOk.j1]
        by_cases ho : lineOk (l[i]'(by omega)).f1 = true
        · refine Ev.neg (by simp [ho]) ?_
          have e1 : wrap64 (n + 1) = n + 1 := w64 (by omega) (by omega)
          have e2 : wrap64 (m + 1) = m + 1 := w64 (by omega) (by omega)
          rw [up1 i (by omega), e1, e2]
          rw [show pr (l[i]'(by omega)) = ((l[i]'(by omega)).f0, (l[i]'(by omega)).f1) from rfl, ed_step _ _ _ _ _ hk ho]
          clear e1 e2
          by_cases h3 : (l[i]'(by omega)).f0 = 3
          · refine Ev.pos h3 (Ev.neg (by omega) ?_)
            rw [if_pos h3, if_neg (by omega)]
            exact ih (i + 1) n (m + 1) (by omega) (by omega) (by omega) (by omega) (by omega)
          · refine Ev.neg h3 ?_
            rw [if_neg h3]
            by_cases h2 : (l[i]'(by omega)).f0 = 2
            · refine Ev.pos h2 ?_
              rw [if_pos h2]
              exact ih (i + 1) (n + 1) m (by omega) (by omega) (by omega) (by omega) (by omega)
            · refine Ev.neg h2 ?_
              rw [if_neg h2]
              exact ih (i + 1) (n + 1) (m + 1) (by omega) (by omega) (by omega) (by omega) (by omega)
        · refine Ev.pos (by simp [ho]) (Ev.some_ ?_)
          rw [show pr (l[i]'(by omega)) = ((l[i]'(by omega)).f0, (l[i]'(by omega)).f1) from rfl, edGo, if_neg (fun h => ho h.2.2)]
      · refine Ev.neg (by simpa using hk) (Ev.succ ?_)
        simp only [impl_EditsOk.j1]
        refine Ev.pos trivial (Ev.some_ ?_)
        rw [show pr (l[i]'(by omega)) = ((l[i]'(by omega)).f0, (l[i]'(by omega)).f1) from rfl, edGo, if_neg (fun h => hk ⟨h.1, h.2.1⟩)]
  exact key l.length 0 0 0 (by omega) (by omega) (by omega) (by omega) (by omega)
/-- The edits done to a list: (what came out so far, what of the old list is left). -/
def applyGo : List S57 → List ByteArray → List ByteArray → List ByteArray × Bool
  | [], [], out => (out, true)
  | [], _ :: _, _ => ([], false)
  | e :: l, a, out => if e.f0 = 3 then applyGo l a (out ++ [e.f1]) else match a with
    | [] => ([], false)
    | x :: a => if x = e.f1 then applyGo l a (if e.f0 = 2 then out else out ++ [e.f1]) else ([], false)
theorem applyGo_end (out : List ByteArray) : applyGo [] [] out = (out, true) := by rw [applyGo]
theorem applyGo_more (x : ByteArray) (a out : List ByteArray) : applyGo [] (x :: a) out = ([], false) := by rw [applyGo]
theorem applyGo_3 (e : S57) (l : List S57) (a out : List ByteArray) (h : e.f0 = 3) : applyGo (e :: l) a out = applyGo l a (out ++ [e.f1]) := by cases a <;> simp [applyGo, h]
theorem applyGo_none (e : S57) (l : List S57) (out : List ByteArray) (h : ¬ e.f0 = 3) : applyGo (e :: l) [] out = ([], false) := by rw [applyGo, if_neg h]
theorem applyGo_some (e : S57) (l : List S57) (x : ByteArray) (a out : List ByteArray) (h : ¬ e.f0 = 3) : applyGo (e :: l) (x :: a) out = if x = e.f1 then applyGo l a (if e.f0 = 2 then out else out ++ [e.f1]) else ([], false) := by rw [applyGo, if_neg h]
theorem applyGo_length : ∀ (l : List S57) (a out : List ByteArray), (applyGo l a out).1.length ≤ out.length + l.length
  | [], [], out => by rw [applyGo_end]; simp
  | [], x :: a, out => by rw [applyGo_more]; simp
  | e :: l, a, out => by
    by_cases h : e.f0 = 3
    · rw [applyGo_3 e l a out h]
      have := applyGo_length l a (out ++ [e.f1])
      simp at *; omega
    · cases a with
      | nil => rw [applyGo_none e l out h]; simp
      | cons x a =>
        rw [applyGo_some e l x a out h]
        split
        · have := applyGo_length l a (if e.f0 = 2 then out else out ++ [e.f1])
          have h2 : (if e.f0 = 2 then out else out ++ [e.f1]).length ≤ out.length + 1 := by split <;> simp
          simp only [List.length_cons]
          omega
        · simp
def applyL (a : List ByteArray) (l : List S57) : List ByteArray × Bool := if linesOk 300 a = true ∧ editsOk (l.map pr) = true then applyGo l a [] else ([], false)
theorem applyL_length (a : List ByteArray) (l : List S57) : (applyL a l).1.length ≤ l.length := by
  unfold applyL
  split
  · have := applyGo_length l a []
    simpa using this
  · exact Nat.zero_le _
theorem drop_cons'' {α : Type} (l : List α) (i : Nat) (h : i < l.length) : l.drop i = l[i] :: l.drop (i + 1) := List.drop_eq_getElem_cons h
theorem bne_iff (a b : ByteArray) : ((a.toList != b.toList) = true) ↔ ¬ a = b := by
  rw [bne_iff_ne]
  exact ⟨fun h e => h (by rw [e]), fun h e => h ((toList_iff _ _).1 e)⟩
section
variable (a : List ByteArray) (l : List S57) (ha : a.length ≤ 1000000) (hl : l.length ≤ 1000000000)
include ha hl
theorem spec_Apply_l0 : ∀ (n i j : Nat) (acc : List ByteArray), j + n = l.length → i ≤ a.length → acc.length ≤ j → Ev (fun k => spec_Apply.l0 k a l acc (i : Int) (j : Int)) (applyGo (l.drop j) (a.drop i) acc) := by
  intro n
  induction n with
  | zero =>
    intro i j acc hj hi hc
    have e2 : j = l.length := by omega
    subst e2
    refine Ev.succ ?_
    simp only [spec_Apply.l0]
    rw [List.drop_length]
    refine Ev.neg (by omega) ?_
    by_cases h : i < a.length
    · rw [drop_cons'' a i h, applyGo_more]
      exact Ev.neg (by omega) (Ev.some_ rfl)
    · have e1 : i = a.length := by omega
      subst e1
      rw [List.drop_length, applyGo_end]
      exact Ev.pos (by first | rfl | trivial) (Ev.some_ rfl)
  | succ n ih =>
    intro i j acc hj hi hc
    have hjl : j < l.length := by omega
    have hsz : ∀ e : ByteArray, (acc ++ [e]).length = acc.length + 1 := by intro e; simp
    refine Ev.succ ?_
    simp only [spec_Apply.l0]
    rw [up1 j (by omega), rdE_nat _ _ hjl, drop_cons'' l j hjl]
    refine Ev.pos (by omega) (Ev.pos (by omega) (?_))
    by_cases h3 : l[j].f0 = 3
    · rw [applyGo_3 _ _ _ _ h3]
      exact Ev.pos h3 (Ev.neg (by omega) (Ev.pos (by omega) (ih i (j + 1) (acc ++ [l[j].f1]) (by omega) hi (by rw [hsz]; omega))))
    · refine Ev.neg h3 ?_
      by_cases h : i < a.length
      · rw [drop_cons'' a i h, applyGo_some _ _ _ _ _ h3]
        refine Ev.neg (by omega) (Ev.pos (by omega) (Ev.pos (by omega) (Ev.succ ?_)))
        simp only [spec_Apply.j2]
        rw [up1 i (by omega), rdOf_nat _ _ _ h, up1 j (by omega)]
        by_cases he : a[i] = l[j].f1
        · rw [if_pos he]
          refine Ev.neg (fun h => (bne_iff _ _).1 h he) (Ev.pos (by omega) <| Ev.pos (by omega) <| (?_))
          by_cases h2 : l[j].f0 = 2
          · rw [if_pos h2]
            exact Ev.pos (by rw [rdE_nat _ _ hjl]; exact h2) (ih (i + 1) (j + 1) acc (by omega) (by omega) (by omega))
          · rw [if_neg h2]
            have := ih (i + 1) (j + 1) (acc ++ [l[j].f1]) (by omega) (by omega) (by rw [hsz]; omega)
            refine Ev.neg (by rw [rdE_nat _ _ hjl]; exact h2) (Ev.pos (by omega) ?_)
            rw [rdE_nat _ _ hjl]
            exact this
        · rw [if_neg he]
          exact Ev.pos ((bne_iff _ _).2 he) (Ev.some_ rfl)
      · have e1 : i = a.length := by omega
        subst e1
        rw [List.drop_length, applyGo_none _ _ _ h3]
        refine Ev.pos (by first | rfl | trivial) (Ev.succ ?_)
        simp only [spec_Apply.j2]
        exact Ev.pos (by first | rfl | trivial) (Ev.some_ rfl)
end
theorem spec_Apply_ev (a : List ByteArray) (l : List S57) (ha : Sized a) (hl : l.length ≤ 1000000000) (hx : ∀ x ∈ l, x.f1.size ≤ 140737488351232) : Ev (fun k => spec_Apply.f k a l) (applyL a l) := by
  simp only [spec_Apply.f]
  refine Ev.bnd (spec_l04Ok_ev a ha) ?_
  by_cases h1 : linesOk 300 a = true
  · refine Ev.pos h1 (Ev.bnd (spec_EditsOk_ev l (by omega) hx) (Ev.succ ?_))
    simp only [spec_Apply.j0]
    by_cases h2 : editsOk (l.map pr) = true
    · have l1 := linesOk_len h1
      refine Ev.neg (by rw [h2]; simp) ?_
      have := spec_Apply_l0 a l (by omega) hl l.length 0 0 [] (by omega) (by omega) (by simp)
      rw [applyL, if_pos ⟨h1, h2⟩]
      exact this
    · exact Ev.pos (by simp [h2]) (Ev.some_ (by rw [applyL, if_neg (fun h => h2 h.2)]))
  · refine Ev.neg h1 (Ev.succ ?_)
    simp only [spec_Apply.j0]
    exact Ev.pos (by first | rfl | trivial) (Ev.some_ (by rw [applyL, if_neg (fun h => h1 h.1)]))
section
variable (a : List ByteArray) (l : List S57) (ha : a.length ≤ 1000000) (hl : l.length ≤ 1000000000)
include ha hl
theorem impl_Apply_l0 : ∀ (n i j : Nat) (acc : List ByteArray), j + n = l.length → i ≤ a.length → acc.length ≤ j → Ev (fun k => impl_Apply.l0 k a acc (i : Int) l (l.length : Int) (j : Int)) (applyGo (l.drop j) (a.drop i) acc) := by
  intro n
  induction n with
  | zero =>
    intro i j acc hj hi hc
    have e2 : j = l.length := by omega
    subst e2
    refine Ev.succ ?_
    simp only [impl_Apply.l0]
    rw [List.drop_length]
    refine Ev.neg (by omega) ?_
    by_cases h : i < a.length
    · rw [drop_cons'' a i h, applyGo_more]
      exact Ev.pos (by omega) (Ev.some_ rfl)
    · have e1 : i = a.length := by omega
      subst e1
      rw [List.drop_length, applyGo_end]
      exact Ev.neg (by omega) (Ev.some_ rfl)
  | succ n ih =>
    intro i j acc hj hi hc
    have hjl : j < l.length := by omega
    have hsz : ∀ e : ByteArray, (acc ++ [e]).length = acc.length + 1 := by intro e; simp
    refine Ev.succ ?_
    simp only [impl_Apply.l0]
    rw [up1 j (by omega), rdE_nat _ _ hjl, drop_cons'' l j hjl]
    refine Ev.pos (by omega) (Ev.pos (by omega) (Ev.pos (by omega) <| ?_))
    by_cases h3 : l[j].f0 = 3
    · rw [applyGo_3 _ _ _ _ h3]
      exact Ev.pos h3 (Ev.neg (by omega) (Ev.pos (by omega) (ih i (j + 1) (acc ++ [l[j].f1]) (by omega) hi (by rw [hsz]; omega))))
    · refine Ev.neg h3 ?_
      by_cases h : i < a.length
      · rw [drop_cons'' a i h, applyGo_some _ _ _ _ _ h3]
        refine Ev.neg (by omega) (Ev.pos (by omega) (Ev.pos (by omega) (Ev.succ ?_)))
        simp only [impl_Apply.j2]
        rw [up1 i (by omega), rdOf_nat _ _ _ h, up1 j (by omega)]
        by_cases he : a[i] = l[j].f1
        · rw [if_pos he]
          refine Ev.neg (fun h => (bne_iff _ _).1 h he) ((?_))
          by_cases h2 : l[j].f0 = 2
          · rw [if_pos h2]
            exact Ev.pos h2 (ih (i + 1) (j + 1) acc (by omega) (by omega) (by omega))
          · rw [if_neg h2]
            have := ih (i + 1) (j + 1) (acc ++ [l[j].f1]) (by omega) (by omega) (by rw [hsz]; omega)
            refine Ev.neg h2 (Ev.pos (by omega) ?_)
            
            exact this
        · rw [if_neg he]
          exact Ev.pos ((bne_iff _ _).2 he) (Ev.some_ rfl)
      · have e1 : i = a.length := by omega
        subst e1
        rw [List.drop_length, applyGo_none _ _ _ h3]
        refine Ev.pos (by first | rfl | trivial) (Ev.succ ?_)
        simp only [impl_Apply.j2]
        exact Ev.pos (by first | rfl | trivial) (Ev.some_ rfl)
end
theorem impl_Apply_ev (a : List ByteArray) (l : List S57) (ha : Sized a) (hl : l.length ≤ 1000000000) : Ev (fun k => impl_Apply.f k a l) (applyL a l) := by
  simp only [impl_Apply.f]
  refine Ev.bnd (impl_canAlign_ev a ha) ?_
  by_cases h1 : linesOk 300 a = true
  · refine Ev.pos h1 (Ev.bnd (impl_EditsOk_ev l (by omega)) (Ev.succ ?_))
    simp only [impl_Apply.j0]
    by_cases h2 : editsOk (l.map pr) = true
    · have l1 := linesOk_len h1
      refine Ev.neg (by rw [h2]; simp) ?_
      have := impl_Apply_l0 a l (by omega) hl l.length 0 0 [] (by omega) (by omega) (by simp)
      rw [applyL, if_pos ⟨h1, h2⟩]
      exact this
    · exact Ev.pos (by simp [h2]) (Ev.some_ (by rw [applyL, if_neg (fun h => h2 h.2)]))
  · refine Ev.neg h1 (Ev.succ ?_)
    simp only [impl_Apply.j0]
    exact Ev.pos (by first | rfl | trivial) (Ev.some_ (by rw [applyL, if_neg (fun h => h1 h.1)]))
theorem FnExactApply : laws_FnExactApply.Pure := by
  intro a l ha hl
  refine Ev.rounds (r := true) ?_
  simp only [laws_FnExactApply.f]
  have hx : ∀ x ∈ l, x.f1.size ≤ 140737488351232 := fun x hx => (hl.2 x hx).2
  obtain ⟨r, hr, hp⟩ := laws_szStringS_ev a 1048576 (by omega) (by omega) (by omega) ha.2
  refine Ev.bnd hr ?_
  by_cases h : r < 0
  · exact Ev.pos h (Ev.now _)
  have p1 := (hp (by omega)).1
  obtain ⟨q, hq, hp2⟩ := laws_szEditS_ev l r (by omega) (by omega) (by omega) hx
  refine Ev.neg h (Ev.bnd hq ?_)
  by_cases h' : q < 0
  · exact Ev.pos h' (Ev.now _)
  have p2 := hp2 (by omega)
  have sa : Sized a := ⟨by omega, ha.2⟩
  have ta := laws_toStringS_ev a (by omega)
  have tl := laws_toEditS_ev l (by omega)
  have hlen : (l.map conv).length ≤ 1048576 := by rw [List.length_map]; omega
  have hc : ∀ x ∈ l.map conv, x.f1.size ≤ 140737488351232 := by
    intro x hx'
    obtain ⟨y, hy, rfl⟩ := List.mem_map.1 hx'
    exact hx y hy
  have hz := applyL_length a (l.map conv)
  refine Ev.neg h' (Ev.bnd ta (Ev.bnd tl (Ev.bnd (spec_Apply_ev a _ sa (by omega) hc) (Ev.bnd ta (Ev.bnd tl (Ev.bnd (impl_Apply_ev a _ sa (by omega)) (Ev.bnd (laws_eqStringS_refl _ (by omega)) (Ev.pos (by first | rfl | trivial) ?_))))))))
  rw [bne_self_eq_false]
  refine Ev.succ ?_
  simp only [laws_FnExactApply.j0]
  refine Ev.neg (by simp) (Ev.bnd ta (Ev.bnd (laws_eqStringS_refl a sa.1) (Ev.pos (by first | rfl | trivial) (Ev.bnd tl (Ev.bnd (laws_eqEditS_refl _ (by omega)) (Ev.pos (by first | rfl | trivial) (Ev.bnd (laws_markStringS_ev a 1 (by omega) (by omega) (by omega)) (Ev.bnd (laws_markEditS_ev _ _ (by omega) (by simp only; omega) (by simp only; omega)) (Ev.neg (by simp only; omega) (Ev.bnd (laws_eqStringS_refl _ (by omega)) (Ev.pos (by first | rfl | trivial) ?_)))))))))))
  rw [bne_self_eq_false]
  refine Ev.succ ?_
  simp only [laws_FnExactApply.j1]
  refine Ev.neg (by simp) (Ev.bnd (laws_markStringS_ev _ 1 (by omega) (by omega) (by omega)) (Ev.bnd (laws_heldStringS_ev 1 _ (by omega) (by omega) (by omega)) (Ev.neg (by omega) (Ev.pos (by first | rfl | trivial) (Ev.bnd ta (Ev.bnd tl (Ev.bnd (impl_Apply_ev a _ sa (by omega)) (Ev.bnd (laws_eqStringS_refl _ (by omega)) (Ev.pos (by first | rfl | trivial) ?_)))))))))
  rw [bne_self_eq_false]
  refine Ev.succ ?_
  simp only [laws_FnExactApply.j2]
  exact Ev.neg (by simp) (Ev.bnd (laws_heldStringS_ev 1 _ (by omega) (by omega) (by omega)) (Ev.neg (by omega) (Ev.pos (by first | rfl | trivial) (Ev.now _))))

end Go.Proofs.Ytnimljoagcokaaa.Pure
