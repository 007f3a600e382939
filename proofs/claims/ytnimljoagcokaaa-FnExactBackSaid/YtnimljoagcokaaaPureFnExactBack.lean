/- The program's Back returns what the reference's returns, for every list of edits that the row reads; the list is left as it was, and the answer shares nothing with it or with a later answer. -/
import Derived.Test.YtnimljoagcokaaaPFnExactBackx4
import Derived.Test.YtnimljoagcokaaaGen
namespace Go.Proofs.Ytnimljoagcokaaa.Pure
open Go.RowKit Go.Proofs.Ytnimljoagcokaaa.PFnExactBack Go.Proofs.YtnimljoagcokaaaW.PrintWords Go.Proofs.YtnimljoagcokaaaW.PrintLast Go.Proofs.YtnimljoagcokaaaG

/-! edits: kinds and lines -/
def edGo : List (Int × ByteArray) → Int → Int → Bool
  | [], n, m => decide (n ≤ 300) && decide (m ≤ 300)
  | (k, s) :: l, n, m => if 1 ≤ k ∧ k ≤ 3 ∧ lineOk s = true then edGo l (if k = 3 then n else n + 1) (if k = 2 then m else m + 1) else false
def editsOk (l : List (Int × ByteArray)) : Bool := edGo l 0 0
def pr (e : S57) : Int × ByteArray := (e.f0, e.f1)
theorem rdE_nat (l : List S57) (i : Nat) (h : i < l.length) : rd_T57 l (i : Int) = l[i] := by
  simp [rd_T57, List.getD, List.getElem?_eq_getElem h]
def conv (e : S60) : S57 := ⟨e.f0, e.f1⟩
theorem rdA_nat (l : List S60) (i : Nat) (h : i < l.length) : rd_T60 l (i : Int) = l[i] := by
  simp [rd_T60, List.getD, List.getElem?_eq_getElem h]
theorem laws_szEditS_ev (l : List S60) (m : Int) (hm0 : 0 ≤ m) (hm : m ≤ 140737488351232) (hl : l.length ≤ 140737488351232) (hx : ∀ x ∈ l, x.f1.size ≤ 140737488351232) : ∃ r, Ev (fun k => laws_szEditS.f k l m) r ∧ (0 ≤ r → (l.length : Int) ≤ m) := by
  have key : ∀ (n i : Nat) (c : Int), i + n = l.length → 0 ≤ c → c ≤ 140737488351232 → ∃ r, Ev (fun k => laws_szEditS.l0 k l c (i : Int)) r := by
    intro n
    induction n with
    | zero =>
      intro i c hi hc0 hc
      refine ⟨c, Ev.succ ?_⟩
      simp only [laws_szEditS.l0]
      exact Ev.neg (by omega) (Ev.now _)
    | succ n ih =>
      intro i c hi hc0 hc
      have hs := hx _ (List.getElem_mem (show i < l.length by omega))
      have hr := rdA_nat l i (by omega)
      have hw : wrap64 (c - (((l[i]'(by omega)).f1.size : Nat) : Int)) = c - (((l[i]'(by omega)).f1.size : Nat) : Int) := w64 (by omega) (by omega)
      by_cases h : c - (((l[i]'(by omega)).f1.size : Nat) : Int) < 0
      · refine ⟨-1, Ev.succ ?_⟩
        simp only [laws_szEditS.l0]
        rw [hr]
        exact Ev.pos (by omega) (Ev.pos (by omega) (Ev.bnd0 (a := -1) (by simp only [laws_szEdit.f]; rw [if_pos (by rw [hw]; exact h)]) (Ev.pos (by omega) (Ev.now _))))
      · obtain ⟨r, hev⟩ := ih (i + 1) (c - (((l[i]'(by omega)).f1.size : Nat) : Int)) (by omega) (by omega) (by omega)
        refine ⟨r, Ev.succ ?_⟩
        simp only [laws_szEditS.l0]
        rw [hr, up1 i (by omega)]
        exact Ev.pos (by omega) (Ev.pos (by omega) (Ev.bnd0 (a := c - (((l[i]'(by omega)).f1.size : Nat) : Int)) (by simp only [laws_szEdit.f]; rw [if_neg (by rw [hw]; exact h), hw]) (Ev.neg h hev)))
  simp only [laws_szEditS.f]
  by_cases h : wrap64 (m - (l.length : Int)) < 0
  · exact ⟨-1, Ev.pos h (Ev.now _), fun h => absurd h (by omega)⟩
  · have h1 : ¬ (m - (l.length : Int) < 0) := by rw [w64 (by omega) (by omega)] at h; exact h
    obtain ⟨r, hr⟩ := key l.length 0 (m - (l.length : Int)) (by omega) (by omega) (by omega)
    refine ⟨r, Ev.neg h ?_, fun _ => by omega⟩
    rw [w64 (by omega) (by omega)]
    exact hr
theorem laws_toEditS_ev (l : List S60) (hl : l.length ≤ 11728124029610) : Ev (fun k => laws_toEditS.f k l) (l.map conv) := by
  simp only [laws_toEditS.f]
  refine Ev.pos (by omega) (Ev.pos (by omega) ?_)
  have key : ∀ (n i : Nat) (x : List S57), i + n = l.length → x.length = l.length → (∀ j, j < i → x[j]? = (l.map conv)[j]?) → Ev (fun k => laws_toEditS.l0 k l x (i : Int)) (l.map conv) := by
    intro n
    induction n with
    | zero =>
      intro i x hi hx hj
      refine Ev.succ ?_
      simp only [laws_toEditS.l0]
      refine Ev.neg (by omega) (Ev.some_ ?_)
      apply List.ext_getElem?
      intro j
      by_cases h : j < i
      · exact hj j h
      · rw [List.getElem?_eq_none (by omega), List.getElem?_eq_none (by rw [List.length_map]; omega)]
    | succ n ih =>
      intro i x hi hx' hj
      refine Ev.succ ?_
      simp only [laws_toEditS.l0]
      have hr := rdA_nat l i (by omega)
      rw [up1 i (by omega), hr]
      refine Ev.pos (by omega) (Ev.pos (by omega) (Ev.bnd0 (a := ((l[i]'(by omega)).f0, (l[i]'(by omega)).f1)) rfl (Ev.pos (by omega) ?_)))
      have e2 : ((i : Int)).toNat = i := by omega
      rw [e2]
      refine ih (i + 1) _ (by omega) (by rw [List.length_set]; exact hx') ?_
      intro j hj'
      by_cases h : j = i
      · subst h
        rw [List.getElem?_set_self (by omega), List.getElem?_map, List.getElem?_eq_getElem (show j < l.length by omega)]
        rfl
      · rw [List.getElem?_set_ne (by omega)]
        exact hj j (by omega)
  exact key l.length 0 _ (by omega) (by simp) (fun j h => absurd h (by omega))
theorem laws_eqEditS_refl (l : List S57) (hl : l.length ≤ 140737488351232) : Ev (fun k => laws_eqEditS.f k l l) true := by
  simp only [laws_eqEditS.f]
  refine Ev.pos (by first | rfl | trivial) ?_
  have key : ∀ (n i : Nat), i + n = l.length → Ev (fun k => laws_eqEditS.l0 k l l (i : Int)) true := by
    intro n
    induction n with
    | zero =>
      intro i hi
      refine Ev.succ ?_
      simp only [laws_eqEditS.l0]
      exact Ev.neg (by omega) (Ev.now _)
    | succ n ih =>
      intro i hi
      refine Ev.succ ?_
      simp only [laws_eqEditS.l0]
      refine Ev.pos (by omega) (Ev.pos (by omega) (Ev.pos (by omega) ?_))
      rw [up1 i (by omega)]
      exact Ev.bnd0 (a := true) (by simp [laws_eqEdit.f]) (Ev.pos rfl (ih (i + 1) (by omega)))
  exact key l.length 0 (by omega)
/-! the laws' marks as texts -/
def mtGo : Nat → Int → ByteArray → ByteArray
  | 0, _, s => (⟨#[109]⟩ : ByteArray) ++ s
  | f + 1, n, s => if n > 0 then mtGo f (n / 10) (strOfNums [48 + n % 10] ++ s) else (⟨#[109]⟩ : ByteArray) ++ s
def mt (n : Int) : ByteArray := if n ≤ 0 then (⟨#[109, 48]⟩ : ByteArray) else mtGo 13 n (⟨#[]⟩ : ByteArray)
def FitsT : Nat → Int → Prop
  | 0, n => n ≤ 0
  | f + 1, n => FitsT f (n / 10)
theorem fitsT {n : Int} (h : n ≤ 1000000000000) : FitsT 13 n := by
  simp only [FitsT]
  omega
theorem laws_markText_l0 : ∀ (f : Nat) (n : Int) (s : ByteArray), FitsT f n → n ≤ 1000000000000 → s.size + f < 1000 → Ev (fun k => laws_markText.l0 k n s) (mtGo f n s) := by
  intro f
  induction f with
  | zero =>
    intro n s hf hn hs
    simp only [FitsT] at hf
    refine Ev.succ ?_
    simp only [laws_markText.l0]
    exact Ev.neg (by omega) (Ev.pos (by omega) (Ev.some_ rfl))
  | succ f ih =>
    intro n s hf hn hs
    simp only [FitsT] at hf
    refine Ev.succ ?_
    simp only [laws_markText.l0]
    by_cases h : n > 0
    · rw [Int.tmod_eq_emod_of_nonneg (show 0 ≤ n by omega), Int.tdiv_eq_ediv_of_nonneg (show 0 ≤ n by omega)]
      rw [show wrap64 (48 + n % 10) = 48 + n % 10 from w64 (by omega) (by omega), show wrap64 (n / 10) = n / 10 from w64 (by omega) (by omega), show (48 + n % 10) % 256 = 48 + n % 10 from by omega]
      have hz : (strOfNums [48 + n % 10]).size = 1 := by rw [strOfNums_size]; rfl
      refine Ev.pos h (Ev.bnd0 rfl (Ev.pos (by omega) ?_))
      have := ih (n / 10) (strOfNums [48 + n % 10] ++ s) hf (by omega) (by rw [size_append]; omega)
      simp only [mtGo]
      rw [if_pos h]
      exact this
    · simp only [mtGo]
      rw [if_neg h]
      exact Ev.neg h (Ev.pos (by omega) (Ev.some_ rfl))
theorem laws_markText_ev (n : Int) (hn : n ≤ 1000000000000) : Ev (fun k => laws_markText.f k n) (mt n) := by
  simp only [laws_markText.f]
  unfold mt
  by_cases h : n ≤ 0
  · rw [if_pos h]
    exact Ev.pos h (Ev.now _)
  · rw [if_neg h]
    exact Ev.neg h (laws_markText_l0 13 n _ (fitsT hn) hn (by decide))
def mkE (m : Int) (n : Nat) : List S57 := (List.range n).map fun i => ⟨m + 2 * (i : Nat), mt (m + 2 * (i : Nat) + 1)⟩
theorem mkE_length (m : Int) (n : Nat) : (mkE m n).length = n := by simp [mkE]
theorem mkE_get (m : Int) (n j : Nat) (h : j < n) : (mkE m n)[j]? = some ⟨m + 2 * (j : Nat), mt (m + 2 * (j : Nat) + 1)⟩ := by simp [mkE, h]
theorem laws_markEditS_ev (l : List S57) (m : Int) (hl : l.length ≤ 100000000) (hm0 : 0 ≤ m) (hm : m ≤ 100000000) : Ev (fun k => laws_markEditS.f k l m) (m + 2 * (l.length : Int), mkE m l.length) := by
  simp only [laws_markEditS.f]
  have key : ∀ (n i : Nat) (x : List S57), i + n = l.length → x.length = l.length → (∀ j, j < i → x[j]? = (mkE m l.length)[j]?) → Ev (fun k => laws_markEditS.l0 k x (m + 2 * (i : Int)) (i : Int)) (m + 2 * (l.length : Int), mkE m l.length) := by
    intro n
    induction n with
    | zero =>
      intro i x hi hx hj
      refine Ev.succ ?_
      simp only [laws_markEditS.l0]
      refine Ev.neg (by omega) (Ev.some_ ?_)
      have : x = mkE m l.length := by
        apply List.ext_getElem?
        intro j
        by_cases h : j < i
        · exact hj j h
        · rw [List.getElem?_eq_none (by omega), List.getElem?_eq_none (by rw [mkE_length]; omega)]
      rw [this, show i = l.length by omega]
    | succ n ih =>
      intro i x hi hx hj
      refine Ev.succ ?_
      simp only [laws_markEditS.l0]
      refine Ev.pos (by omega) (Ev.pos (by omega) (Ev.bnd0 rfl ?_))
      rw [show wrap64 (m + 2 * (i : Int) + 1) = m + 2 * (i : Int) + 1 from w64 (by omega) (by omega), show wrap64 (m + 2 * (i : Int) + 1 + 1) = m + 2 * ((i + 1 : Nat) : Int) from by rw [w64 (by omega) (by omega)]; omega, up1 i (by omega), Int.toNat_natCast]
      refine Ev.bnd (laws_markText_ev _ (by omega)) ?_
      have hrd : ∀ y : List S57, y.length = l.length → ∀ e, (rd_T57 (y.set i e) (i : Int)) = e := by
        intro y hy e
        rw [rdE_nat _ i (by rw [List.length_set]; omega), List.getElem_set_self]
      rw [hrd x hx, List.set_set]
      refine ih (i + 1) _ (by omega) (by rw [List.length_set]; exact hx) ?_
      intro j hj'
      by_cases h : j = i
      · subst h
        rw [List.getElem?_set_self (by omega), mkE_get _ _ _ (by omega)]
      · rw [List.getElem?_set_ne (by omega)]
        exact hj j (by omega)
  have := key l.length 0 l (by omega) rfl (fun j h => absurd h (by omega))
  have e : m + 2 * ((0 : Nat) : Int) = m := by omega
  rw [e] at this
  exact this
theorem laws_heldEditS_ev (m : Int) (n0 : Nat) (hl : n0 ≤ 100000000) (hm0 : 0 ≤ m) (hm : m ≤ 100000000) : Ev (fun k => laws_heldEditS.f k (mkE m n0) m) (m + 2 * (n0 : Int)) := by
  simp only [laws_heldEditS.f]
  have key : ∀ (n i : Nat), i + n = n0 → Ev (fun k => laws_heldEditS.l0 k (mkE m n0) (m + 2 * (i : Int)) (i : Int)) (m + 2 * (n0 : Int)) := by
    intro n
    induction n with
    | zero =>
      intro i hi
      refine Ev.succ ?_
      simp only [laws_heldEditS.l0]
      exact Ev.neg (by rw [mkE_length]; omega) (Ev.some_ (by omega))
    | succ n ih =>
      intro i hi
      refine Ev.succ ?_
      simp only [laws_heldEditS.l0]
      have hlt : i < (mkE m n0).length := by rw [mkE_length]; omega
      have hg := mkE_get m n0 i (by omega)
      rw [List.getElem?_eq_getElem hlt] at hg
      have hg' := Option.some.inj hg
      rw [rdE_nat _ i hlt, hg']
      rw [show wrap64 (m + 2 * (i : Int) + 1) = m + 2 * (i : Int) + 1 from w64 (by omega) (by omega), show wrap64 (m + 2 * (i : Int) + 1 + 1) = m + 2 * ((i + 1 : Nat) : Int) from by rw [w64 (by omega) (by omega)]; omega, up1 i (by omega)]
      exact Ev.pos (by omega) (Ev.pos (by omega) (Ev.pos (by first | rfl | trivial) (Ev.bnd (laws_markText_ev _ (by omega)) (Ev.pos (by first | rfl | trivial) (ih (i + 1) (by omega))))))
  have := key n0 0 (by omega)
  have e : m + 2 * ((0 : Nat) : Int) = m := by omega
  rw [e] at this
  exact this
theorem spec_l01In_eq (a b c : Int) : spec_l01In.f a b c = some (decide (b ≤ a ∧ a ≤ c)) := by
  unfold spec_l01In.f
  by_cases h : a ≥ b
  · rw [if_pos h]; simp [h]
  · rw [if_neg h]; simp; omega
theorem impl_inRange_eq (a b c : Int) : impl_inRange.f a b c = some (decide (b ≤ a ∧ a ≤ c)) := by
  unfold impl_inRange.f
  by_cases h : a ≥ b
  · rw [if_pos h]; simp [h]
  · rw [if_neg h]; simp; omega
theorem spec_LineOk_ev (s : ByteArray) (hs : s.size ≤ 140737488351232) : Ev (fun k => spec_LineOk.f k s) (lineOk s) := by
  simp only [spec_LineOk.f]
  have key : ∀ (n i : Nat), i + n = s.size → Ev (fun k => spec_LineOk.l0 k s (i : Int)) (decide ((10 : Int) ∉ (bytesOf s).drop i ∧ s.size ≤ 60)) := by
    intro n
    induction n with
    | zero =>
      intro i hi
      refine Ev.succ ?_
      simp only [spec_LineOk.l0]
      refine Ev.neg (by omega) (Ev.some_ ?_)
      rw [drop_end _ _ (by rw [bytesOf_length]; omega)]
      simp
      omega
    | succ n ih =>
      intro i hi
      refine Ev.succ ?_
      simp only [spec_LineOk.l0]
      refine Ev.pos (by omega) (Ev.pos (by omega) ?_)
      rw [up1 i (by omega), drop_bt s i (by omega)]
      by_cases h : bt s (i : Int) = 10
      · exact Ev.pos h (Ev.some_ (by simp [h]))
      · refine Ev.neg h (Ev_eq (ih (i + 1) (by omega)) ?_)
        have : ((10 : Int) ∉ bt s (i : Int) :: (bytesOf s).drop (i + 1)) ↔ ((10 : Int) ∉ (bytesOf s).drop (i + 1)) := by
          rw [List.mem_cons]
          constructor
          · intro h1 h2; exact h1 (.inr h2)
          · intro h1 h2
            rcases h2 with h2 | h2
            · exact h h2.symm
            · exact h1 h2
        simp only [this]
  exact key s.size 0 (by omega)
theorem impl_LineOk_eq (s : ByteArray) : impl_LineOk.f s = some (lineOk s) := by
  simp only [impl_LineOk.f]
  by_cases h : (s.size : Int) ≤ 60
  · rw [if_pos h]
    simp only [strings_Contains.f]
    rw [if_pos (by rfl)]
    simp only [Option.bind_some]
    congr 1
    have h1 := indexByte_mem 10 s.data.toList
    have h2 := byte_mem s 10
    simp only [lineOk]
    rw [← decide_not]
    congr 1
    rw [show (⟨#[10]⟩ : ByteArray).data.toList.headD 0 = (10 : UInt8) from rfl, h1, h2]
    simp only [eq_iff_iff]
    constructor
    · intro h3; exact ⟨h3, by omega⟩
    · intro h3; exact h3.1
  · rw [if_neg h]
    congr 1
    simp only [lineOk]
    symm
    rw [decide_eq_false_iff_not]
    omega
theorem ed_step (k : Int) (s : ByteArray) (l : List (Int × ByteArray)) (n m : Int) (h : 1 ≤ k ∧ k ≤ 3) (hs : lineOk s = true) : edGo ((k, s) :: l) n m = edGo l (if k = 3 then n else n + 1) (if k = 2 then m else m + 1) := by
  simp only [edGo]
  rw [if_pos ⟨h.1, h.2, hs⟩]
theorem spec_EditsOk_ev (l : List S57) (hl : l.length ≤ 140737488351232) (hx : ∀ x ∈ l, x.f1.size ≤ 140737488351232) : Ev (fun k => spec_EditsOk.f k l) (editsOk (l.map pr)) := by
  simp only [spec_EditsOk.f]
  have key : ∀ (d i : Nat) (n m : Int), i + d = l.length → 0 ≤ n → n ≤ i → 0 ≤ m → m ≤ i → Ev (fun k => spec_EditsOk.l0 k l n m (i : Int)) (edGo ((l.drop i).map pr) n m) := by
    intro d
    induction d with
    | zero =>
      intro i n m hi hn0 hn hm0 hm
      refine Ev.succ ?_
      simp only [spec_EditsOk.l0]
      rw [drop_end l i (by omega)]
      refine Ev.neg (by omega) ?_
      simp only [List.map_nil, edGo]
      by_cases h : n ≤ 300
      · exact Ev.pos h (Ev.some_ (by simp [h]))
      · exact Ev.neg h (Ev.some_ (by simp [h]))
    | succ d ih =>
      intro i n m hi hn0 hn hm0 hm
      refine Ev.succ ?_
      simp only [spec_EditsOk.l0]
      have hr := rdE_nat l i (by omega)
      have hs := hx _ (List.getElem_mem (show i < l.length by omega))
      rw [hr, List.drop_eq_getElem_cons (show i < l.length by omega), List.map_cons]
      refine Ev.pos (by omega) (Ev.pos (by omega) (Ev.bnd0 (spec_l01In_eq _ _ _) ?_))
      by_cases hk : 1 ≤ (l[i]'(by omega)).f0 ∧ (l[i]'(by omega)).f0 ≤ 3
      · refine Ev.pos (by simpa using hk) (Ev.bnd (spec_LineOk_ev _ hs) (Ev.succ ?_))
        simp only [spec_EditsOk.j1]
        by_cases ho : lineOk (l[i]'(by omega)).f1 = true
        · refine Ev.neg (by simp [ho]) (Ev.pos (by omega) (Ev.pos (by omega) ?_))
          have e1 : wrap64 (n + 1) = n + 1 := w64 (by omega) (by omega)
          have e2 : wrap64 (m + 1) = m + 1 := w64 (by omega) (by omega)
          rw [up1 i (by omega), e1, e2, hr]
          rw [show pr (l[i]'(by omega)) = ((l[i]'(by omega)).f0, (l[i]'(by omega)).f1) from rfl, ed_step _ _ _ _ _ hk ho]
          clear e1 e2
          by_cases h3 : (l[i]'(by omega)).f0 = 3
          · refine Ev.pos h3 (Ev.neg (by omega) ?_)
            rw [if_pos h3, if_neg (by omega)]
            exact ih (i + 1) n (m + 1) (by omega) (by omega) (by omega) (by omega) (by omega)
          · refine Ev.neg h3 ?_
            rw [if_neg h3]
            by_cases h2 : (l[i]'(by omega)).f0 = 2
            · refine Ev.pos h2 ?_
              rw [if_pos h2]
              exact ih (i + 1) (n + 1) m (by omega) (by omega) (by omega) (by omega) (by omega)
            · refine Ev.neg h2 ?_
              rw [if_neg h2]
              exact ih (i + 1) (n + 1) (m + 1) (by omega) (by omega) (by omega) (by omega) (by omega)
        · refine Ev.pos (by simp [ho]) (Ev.some_ ?_)
          rw [show pr (l[i]'(by omega)) = ((l[i]'(by omega)).f0, (l[i]'(by omega)).f1) from rfl, edGo, if_neg (fun h => ho h.2.2)]
      · refine Ev.neg (by simpa using hk) (Ev.succ ?_)
        simp only [spec_EditsOk.j1]
        refine Ev.pos trivial (Ev.some_ ?_)
        rw [show pr (l[i]'(by omega)) = ((l[i]'(by omega)).f0, (l[i]'(by omega)).f1) from rfl, edGo, if_neg (fun h => hk ⟨h.1, h.2.1⟩)]
  exact key l.length 0 0 0 (by omega) (by omega) (by omega) (by omega) (by omega)
theorem impl_EditsOk_ev (l : List S57) (hl : l.length ≤ 140737488351232) : Ev (fun k => impl_EditsOk.f k l) (editsOk (l.map pr)) := by
  simp only [impl_EditsOk.f]
  have key : ∀ (d i : Nat) (n m : Int), i + d = l.length → 0 ≤ n → n ≤ i → 0 ≤ m → m ≤ i → Ev (fun k => impl_EditsOk.l0 k n m l (l.length : Int) (i : Int)) (edGo ((l.drop i).map pr) n m) := by
    intro d
    induction d with
    | zero =>
      intro i n m hi hn0 hn hm0 hm
      refine Ev.succ ?_
      simp only [impl_EditsOk.l0]
      rw [drop_end l i (by omega)]
      refine Ev.neg (by omega) ?_
      simp only [List.map_nil, edGo]
      by_cases h : n ≤ 300
      · exact Ev.pos h (Ev.some_ (by simp [h]))
      · exact Ev.neg h (Ev.some_ (by simp [h]))
    | succ d ih =>
      intro i n m hi hn0 hn hm0 hm
      refine Ev.succ ?_
      simp only [impl_EditsOk.l0]
      have hr := rdE_nat l i (by omega)
      rw [hr, List.drop_eq_getElem_cons (show i < l.length by omega), List.map_cons]
      refine Ev.pos (by omega) (Ev.pos (by omega) (Ev.pos (by omega) (Ev.bnd0 (impl_inRange_eq _ _ _) ?_)))
      by_cases hk : 1 ≤ (l[i]'(by omega)).f0 ∧ (l[i]'(by omega)).f0 ≤ 3
      · refine Ev.pos (by simpa using hk) (Ev.bnd0 (impl_LineOk_eq _) (Ev.succ ?_))
        simp only [impl_EditsOk.j1]
        by_cases ho : lineOk (l[i]'(by omega)).f1 = true
        · refine Ev.neg (by simp [ho]) ?_
          have e1 : wrap64 (n + 1) = n + 1 := w64 (by omega) (by omega)
          have e2 : wrap64 (m + 1) = m + 1 := w64 (by omega) (by omega)
          rw [up1 i (by omega), e1, e2]
          rw [show pr (l[i]'(by omega)) = ((l[i]'(by omega)).f0, (l[i]'(by omega)).f1) from rfl, ed_step _ _ _ _ _ hk ho]
          clear e1 e2
          by_cases h3 : (l[i]'(by omega)).f0 = 3
          · refine Ev.pos h3 (Ev.neg (by omega) ?_)
            rw [if_pos h3, if_neg (by omega)]
            exact ih (i + 1) n (m + 1) (by omega) (by omega) (by omega) (by omega) (by omega)
          · refine Ev.neg h3 ?_
            rw [if_neg h3]
            by_cases h2 : (l[i]'(by omega)).f0 = 2
            · refine Ev.pos h2 ?_
              rw [if_pos h2]
              exact ih (i + 1) (n + 1) m (by omega) (by omega) (by omega) (by omega) (by omega)
            · refine Ev.neg h2 ?_
              rw [if_neg h2]
              exact ih (i + 1) (n + 1) (m + 1) (by omega) (by omega) (by omega) (by omega) (by omega)
        · refine Ev.pos (by simp [ho]) (Ev.some_ ?_)
          rw [show pr (l[i]'(by omega)) = ((l[i]'(by omega)).f0, (l[i]'(by omega)).f1) from rfl, edGo, if_neg (fun h => ho h.2.2)]
      · refine Ev.neg (by simpa using hk) (Ev.succ ?_)
        simp only [impl_EditsOk.j1]
        refine Ev.pos trivial (Ev.some_ ?_)
        rw [show pr (l[i]'(by omega)) = ((l[i]'(by omega)).f0, (l[i]'(by omega)).f1) from rfl, edGo, if_neg (fun h => hk ⟨h.1, h.2.1⟩)]
  exact key l.length 0 0 0 (by omega) (by omega) (by omega) (by omega) (by omega)
def back1 (e : S57) : S57 := if e.f0 = 2 then ⟨3, e.f1⟩ else if e.f0 = 3 then ⟨2, e.f1⟩ else e
def backL (l : List S57) : List S57 := if editsOk (l.map pr) = true then l.map back1 else []
theorem edGo_kinds : ∀ (l : List (Int × ByteArray)) (n m : Int), edGo l n m = true → ∀ e ∈ l, 1 ≤ e.1 ∧ e.1 ≤ 3 ∧ lineOk e.2 = true
  | [], _, _, _ => by simp
  | (k, s) :: l, n, m, h => by
    simp only [edGo] at h
    split at h
    · rename_i hk
      intro e he
      rcases List.mem_cons.1 he with rfl | he
      · exact hk
      · exact edGo_kinds l _ _ h e he
    · cases h
theorem impl_Back_ev (l : List S57) (hl : l.length ≤ 100000000) : Ev (fun k => impl_Back.f k l) (backL l) := by
  simp only [impl_Back.f]
  refine Ev.bnd (impl_EditsOk_ev l (by omega)) ?_
  unfold backL
  by_cases h : editsOk (l.map pr) = true
  · rw [if_pos h]
    refine Ev.pos h ?_
    have key : ∀ (n i : Nat) (x : List S57), i + n = l.length → x = (l.take i).map back1 → Ev (fun k => impl_Back.l0 k x l (l.length : Int) (i : Int)) (l.map back1) := by
      intro n
      induction n with
      | zero =>
        intro i x hi hx
        refine Ev.succ ?_
        simp only [impl_Back.l0]
        exact Ev.neg (by omega) (Ev.some_ (by rw [hx, List.take_of_length_le (by omega)]))
      | succ n ih =>
        intro i x hi hx
        refine Ev.succ ?_
        simp only [impl_Back.l0]
        have hr := rdE_nat l i (by omega)
        have hxl : x.length = i := by rw [hx]; simp; omega
        rw [hr, up1 i (by omega)]
        have hnext : ∀ e, e = back1 (l[i]'(by omega)) → x ++ [e] = (l.take (i + 1)).map back1 := by
          intro e he
          rw [List.take_succ_eq_append_getElem (by omega), List.map_append, ← hx, he]
          rfl
        refine Ev.pos (by omega) (Ev.pos (by omega) (Ev.pos (by omega) ?_))
        by_cases h2 : (l[i]'(by omega)).f0 = 2
        · exact Ev.pos h2 (Ev.pos (by omega) (ih (i + 1) _ (by omega) (hnext _ (by unfold back1; rw [if_pos h2]))))
        · refine Ev.neg h2 ?_
          by_cases h3 : (l[i]'(by omega)).f0 = 3
          · exact Ev.pos h3 (Ev.pos (by omega) (ih (i + 1) _ (by omega) (hnext _ (by unfold back1; rw [if_neg h2, if_pos h3]))))
          · exact Ev.neg h3 (Ev.pos (by omega) (ih (i + 1) _ (by omega) (hnext _ (by unfold back1; rw [if_neg h2, if_neg h3]))))
    exact key l.length 0 [] (by omega) rfl
  · rw [if_neg h]
    exact Ev.neg h (Ev.now _)
theorem spec_Back_ev (l : List S57) (hl : l.length ≤ 100000000) (hx : ∀ x ∈ l, x.f1.size ≤ 140737488351232) : Ev (fun k => spec_Back.f k l) (backL l) := by
  simp only [spec_Back.f]
  unfold backL
  by_cases h : editsOk (l.map pr) = true
  · rw [if_pos h]
    have key : ∀ (n i : Nat) (x : List S57), i + n = l.length → x = (l.take i).map back1 → Ev (fun k => spec_Back.l0 k l x (i : Int)) (l.map back1) := by
      intro n
      induction n with
      | zero =>
        intro i x hi hx
        refine Ev.succ ?_
        simp only [spec_Back.l0]
        refine Ev.neg (by omega) (Ev.succ ?_)
        simp only [spec_Back.j1]
        exact Ev.neg (by simp) (Ev.some_ (by rw [hx, List.take_of_length_le (by omega)]))
      | succ n ih =>
        intro i x hi hx'
        refine Ev.succ ?_
        simp only [spec_Back.l0]
        refine Ev.pos (by omega) (Ev.bnd (spec_EditsOk_ev l (by omega) hx) (Ev.succ ?_))
        simp only [spec_Back.j1]
        have hr := rdE_nat l i (by omega)
        have hxl : x.length = i := by rw [hx']; simp; omega
        have hk := edGo_kinds _ _ _ h (pr (l[i]'(by omega))) (List.mem_map.2 ⟨_, List.getElem_mem _, rfl⟩)
        have hk1 : 1 ≤ (l[i]'(by omega)).f0 := hk.1
        have hk2 : (l[i]'(by omega)).f0 ≤ 3 := hk.2.1
        rw [hr, up1 i (by omega), show wrap64 (5 - (l[i]'(by omega)).f0) = 5 - (l[i]'(by omega)).f0 from w64 (by omega) (by omega)]
        have hnext : ∀ e, e = back1 (l[i]'(by omega)) → x ++ [e] = (l.take (i + 1)).map back1 := by
          intro e he
          rw [List.take_succ_eq_append_getElem (by omega), List.map_append, ← hx', he]
          rfl
        refine Ev.pos h (Ev.pos (by omega) (Ev.pos (by omega) ?_))
        by_cases h1 : (l[i]'(by omega)).f0 = 1
        · exact Ev.pos h1 (Ev.pos (by omega) (ih (i + 1) _ (by omega) (hnext _ (by unfold back1; rw [if_neg (by omega), if_neg (by omega)]))))
        · refine Ev.neg h1 (Ev.pos (by omega) (ih (i + 1) _ (by omega) (hnext _ ?_)))
          unfold back1
          by_cases h2 : (l[i]'(by omega)).f0 = 2
          · rw [if_pos h2, h2]; rfl
          · have h3 : (l[i]'(by omega)).f0 = 3 := by omega
            rw [if_neg h2, if_pos h3, h3]; rfl
    exact key l.length 0 [] (by omega) rfl
  · rw [if_neg h]
    refine Ev.succ ?_
    simp only [spec_Back.l0]
    by_cases h0 : (0 : Int) < (l.length : Int)
    · refine Ev.pos h0 (Ev.bnd (spec_EditsOk_ev l (by omega) hx) (Ev.succ ?_))
      simp only [spec_Back.j1]
      exact Ev.neg h (Ev.now _)
    · refine Ev.neg h0 (Ev.succ ?_)
      simp only [spec_Back.j1]
      exact Ev.neg (by simp) (Ev.now _)
theorem backL_length (l : List S57) : (backL l).length ≤ l.length := by
  unfold backL
  split <;> simp
theorem FnExactBack : laws_FnExactBack.Pure := by
  intro l hl
  refine Ev.rounds (r := true) ?_
  simp only [laws_FnExactBack.f]
  have hx : ∀ x ∈ l, x.f1.size ≤ 140737488351232 := fun x hx => (hl.2 x hx).2
  obtain ⟨r, hr, hp⟩ := laws_szEditS_ev l 1048576 (by omega) (by omega) (by omega) hx
  refine Ev.bnd hr ?_
  by_cases h : r < 0
  · exact Ev.pos h (Ev.now _)
  have p1 := hp (by omega)
  have hlen : (l.map conv).length ≤ 1048576 := by rw [List.length_map]; omega
  have hc : ∀ x ∈ l.map conv, x.f1.size ≤ 140737488351232 := by
    intro x hx'
    obtain ⟨y, hy, rfl⟩ := List.mem_map.1 hx'
    exact hx y hy
  have hb := backL_length (l.map conv)
  have tl := laws_toEditS_ev l (by omega)
  refine Ev.neg h (Ev.bnd tl (Ev.bnd (spec_Back_ev _ (by omega) hc) (Ev.bnd tl (Ev.bnd (impl_Back_ev _ (by omega)) (Ev.bnd (laws_eqEditS_refl _ (by omega)) (Ev.pos rfl (Ev.bnd tl (Ev.bnd (laws_eqEditS_refl _ (by omega)) (Ev.pos rfl (Ev.bnd (laws_markEditS_ev _ 1 (by omega) (by omega) (by omega)) (Ev.neg (by simp only; omega) (Ev.bnd (laws_eqEditS_refl _ (by omega)) (Ev.succ ?_)))))))))))))
  simp only [laws_FnExactBack.j0]
  exact Ev.neg (by simp) (Ev.bnd (laws_markEditS_ev _ 1 (by omega) (by omega) (by omega)) (Ev.bnd (laws_heldEditS_ev 1 _ (by omega) (by omega) (by omega)) (Ev.neg (by omega) (Ev.pos rfl (Ev.bnd tl (Ev.bnd (impl_Back_ev _ (by omega)) (Ev.bnd (laws_eqEditS_refl _ (by omega)) (Ev.pos rfl (Ev.bnd (laws_heldEditS_ev 1 _ (by omega) (by omega) (by omega)) (Ev.neg (by omega) (Ev.pos rfl (Ev.now _))))))))))))

end Go.Proofs.Ytnimljoagcokaaa.Pure
