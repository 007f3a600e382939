/- The program's EditsOk returns what the reference's returns, for every list of edits that the row reads; the list is left as it was. -/
import Derived.Test.YtpojmcpfgllbfaaPFnExactEditsOkx2
import Derived.Test.YtpojmcpfgllbfaaGen
namespace Go.Proofs.Ytpojmcpfgllbfaa.Pure
open Go.RowKit Go.Proofs.Ytpojmcpfgllbfaa.PFnExactEditsOk Go.Proofs.YtpojmcpfgllbfaaW.PrintWords Go.Proofs.YtpojmcpfgllbfaaW.PrintLast Go.Proofs.YtpojmcpfgllbfaaG

/-! edits: kinds and lines -/
def edGo : List (Int × ByteArray) → Int → Int → Bool
  | [], n, m => decide (n ≤ 300) && decide (m ≤ 300)
  | (k, s) :: l, n, m => if 1 ≤ k ∧ k ≤ 3 ∧ lineOk s = true then edGo l (if k = 3 then n else n + 1) (if k = 2 then m else m + 1) else false
def editsOk (l : List (Int × ByteArray)) : Bool := edGo l 0 0
def pr (e : S89) : Int × ByteArray := (e.f0, e.f1)
theorem rdE_nat (l : List S89) (i : Nat) (h : i < l.length) : rd_T89 l (i : Int) = l[i] := by
  simp [rd_T89, List.getD, List.getElem?_eq_getElem h]
def conv (e : S87) : S89 := ⟨e.f0, e.f1⟩
theorem rdA_nat (l : List S87) (i : Nat) (h : i < l.length) : rd_T87 l (i : Int) = l[i] := by
  simp [rd_T87, List.getD, List.getElem?_eq_getElem h]
theorem laws_szEditS_ev (l : List S87) (m : Int) (hm0 : 0 ≤ m) (hm : m ≤ 140737488351232) (hl : l.length ≤ 140737488351232) (hx : ∀ x ∈ l, x.f1.size ≤ 140737488351232) : ∃ r, Ev (fun k => laws_szEditS.f k l m) r ∧ (0 ≤ r → (l.length : Int) ≤ m) := by
  have key : ∀ (n i : Nat) (c : Int), i + n = l.length → 0 ≤ c → c ≤ 140737488351232 → ∃ r, Ev (fun k => laws_szEditS.l0 k l c (i : Int)) r := by
    intro n
    induction n with
    | zero =>
      intro i c hi hc0 hc
      refine ⟨c, Ev.succ ?_⟩
      simp only [laws_szEditS.l0]
      exact Ev.neg (by omega) (Ev.now _)
    | succ n ih =>
      intro i c hi hc0 hc
      have hs := hx _ (List.getElem_mem (show i < l.length by omega))
      have hr := rdA_nat l i (by omega)
      have hw : wrap64 (c - (((l[i]'(by omega)).f1.size : Nat) : Int)) = c - (((l[i]'(by omega)).f1.size : Nat) : Int) := w64 (by omega) (by omega)
      by_cases h : c - (((l[i]'(by omega)).f1.size : Nat) : Int) < 0
      · refine ⟨-1, Ev.succ ?_⟩
        simp only [laws_szEditS.l0]
        rw [hr]
        exact Ev.pos (by omega) (Ev.pos (by omega) (Ev.bnd0 (a := -1) (by simp only [laws_szEdit.f]; rw [if_pos (by rw [hw]; exact h)]) (Ev.pos (by omega) (Ev.now _))))
      · obtain ⟨r, hev⟩ := ih (i + 1) (c - (((l[i]'(by omega)).f1.size : Nat) : Int)) (by omega) (by omega) (by omega)
        refine ⟨r, Ev.succ ?_⟩
        simp only [laws_szEditS.l0]
        rw [hr, up1 i (by omega)]
        exact Ev.pos (by omega) (Ev.pos (by omega) (Ev.bnd0 (a := c - (((l[i]'(by omega)).f1.size : Nat) : Int)) (by simp only [laws_szEdit.f]; rw [if_neg (by rw [hw]; exact h), hw]) (Ev.neg h hev)))
  simp only [laws_szEditS.f]
  by_cases h : wrap64 (m - (l.length : Int)) < 0
  · exact ⟨-1, Ev.pos h (Ev.now _), fun h => absurd h (by omega)⟩
  · have h1 : ¬ (m - (l.length : Int) < 0) := by rw [w64 (by omega) (by omega)] at h; exact h
    obtain ⟨r, hr⟩ := key l.length 0 (m - (l.length : Int)) (by omega) (by omega) (by omega)
    refine ⟨r, Ev.neg h ?_, fun _ => by omega⟩
    rw [w64 (by omega) (by omega)]
    exact hr
theorem laws_toEditS_ev (l : List S87) (hl : l.length ≤ 11728124029610) : Ev (fun k => laws_toEditS.f k l) (l.map conv) := by
  simp only [laws_toEditS.f]
  refine Ev.pos (by omega) (Ev.pos (by omega) ?_)
  have key : ∀ (n i : Nat) (x : List S89), i + n = l.length → x.length = l.length → (∀ j, j < i → x[j]? = (l.map conv)[j]?) → Ev (fun k => laws_toEditS.l0 k l x (i : Int)) (l.map conv) := by
    intro n
    induction n with
    | zero =>
      intro i x hi hx hj
      refine Ev.succ ?_
      simp only [laws_toEditS.l0]
      refine Ev.neg (by omega) (Ev.some_ ?_)
      apply List.ext_getElem?
      intro j
      by_cases h : j < i
      · exact hj j h
      · rw [List.getElem?_eq_none (by omega), List.getElem?_eq_none (by rw [List.length_map]; omega)]
    | succ n ih =>
      intro i x hi hx' hj
      refine Ev.succ ?_
      simp only [laws_toEditS.l0]
      have hr := rdA_nat l i (by omega)
      rw [up1 i (by omega), hr]
      refine Ev.pos (by omega) (Ev.pos (by omega) (Ev.bnd0 (a := ((l[i]'(by omega)).f0, (l[i]'(by omega)).f1)) rfl (Ev.pos (by omega) ?_)))
      have e2 : ((i : Int)).toNat = i := by omega
      rw [e2]
      refine ih (i + 1) _ (by omega) (by rw [List.length_set]; exact hx') ?_
      intro j hj'
      by_cases h : j = i
      · subst h
        rw [List.getElem?_set_self (by omega), List.getElem?_map, List.getElem?_eq_getElem (show j < l.length by omega)]
        rfl
      · rw [List.getElem?_set_ne (by omega)]
        exact hj j (by omega)
  exact key l.length 0 _ (by omega) (by simp) (fun j h => absurd h (by omega))
theorem laws_eqEditS_refl (l : List S89) (hl : l.length ≤ 140737488351232) : Ev (fun k => laws_eqEditS.f k l l) true := by
  simp only [laws_eqEditS.f]
  refine Ev.pos (by first | rfl | trivial) ?_
  have key : ∀ (n i : Nat), i + n = l.length → Ev (fun k => laws_eqEditS.l0 k l l (i : Int)) true := by
    intro n
    induction n with
    | zero =>
      intro i hi
      refine Ev.succ ?_
      simp only [laws_eqEditS.l0]
      exact Ev.neg (by omega) (Ev.now _)
    | succ n ih =>
      intro i hi
      refine Ev.succ ?_
      simp only [laws_eqEditS.l0]
      refine Ev.pos (by omega) (Ev.pos (by omega) (Ev.pos (by omega) ?_))
      rw [up1 i (by omega)]
      exact Ev.bnd0 (a := true) (by simp [laws_eqEdit.f]) (Ev.pos rfl (ih (i + 1) (by omega)))
  exact key l.length 0 (by omega)
theorem spec_l01In_eq (a b c : Int) : spec_l01In.f a b c = some (decide (b ≤ a ∧ a ≤ c)) := by
  unfold spec_l01In.f
  by_cases h : a ≥ b
  · rw [if_pos h]; simp [h]
  · rw [if_neg h]; simp; omega
theorem impl_inRange_eq (a b c : Int) : impl_inRange.f a b c = some (decide (b ≤ a ∧ a ≤ c)) := by
  unfold impl_inRange.f
  by_cases h : a ≥ b
  · rw [if_pos h]; simp [h]
  · rw [if_neg h]; simp; omega
theorem spec_LineOk_ev (s : ByteArray) (hs : s.size ≤ 140737488351232) : Ev (fun k => spec_LineOk.f k s) (lineOk s) := by
  simp only [spec_LineOk.f]
  have key : ∀ (n i : Nat), i + n = s.size → Ev (fun k => spec_LineOk.l0 k s (i : Int)) (decide ((10 : Int) ∉ (bytesOf s).drop i ∧ s.size ≤ 60)) := by
    intro n
    induction n with
    | zero =>
      intro i hi
      refine Ev.succ ?_
      simp only [spec_LineOk.l0]
      refine Ev.neg (by omega) (Ev.some_ ?_)
      rw [drop_end _ _ (by rw [bytesOf_length]; omega)]
      simp
      omega
    | succ n ih =>
      intro i hi
      refine Ev.succ ?_
      simp only [spec_LineOk.l0]
      refine Ev.pos (by omega) (Ev.pos (by omega) ?_)
      rw [up1 i (by omega), drop_bt s i (by omega)]
      by_cases h : bt s (i : Int) = 10
      · exact Ev.pos h (Ev.some_ (by simp [h]))
      · refine Ev.neg h (Ev_eq (ih (i + 1) (by omega)) ?_)
        have : ((10 : Int) ∉ bt s (i : Int) :: (bytesOf s).drop (i + 1)) ↔ ((10 : Int) ∉ (bytesOf s).drop (i + 1)) := by
          rw [List.mem_cons]
          constructor
          · intro h1 h2; exact h1 (.inr h2)
          · intro h1 h2
            rcases h2 with h2 | h2
            · exact h h2.symm
            · exact h1 h2
        simp only [this]
  exact key s.size 0 (by omega)
theorem impl_LineOk_eq (s : ByteArray) : impl_LineOk.f s = some (lineOk s) := by
  simp only [impl_LineOk.f]
  by_cases h : (s.size : Int) ≤ 60
  · rw [if_pos h]
    simp only [strings_Contains.f]
    rw [if_pos (by rfl)]
    simp only [Option.bind_some]
    congr 1
    have h1 := indexByte_mem 10 s.data.toList
    have h2 := byte_mem s 10
    simp only [lineOk]
    rw [← decide_not]
    congr 1
    rw [show (⟨#[10]⟩ : ByteArray).data.toList.headD 0 = (10 : UInt8) from rfl, h1, h2]
    simp only [eq_iff_iff]
    constructor
    · intro h3; exact ⟨h3, by omega⟩
    · intro h3; exact h3.1
  · rw [if_neg h]
    congr 1
    simp only [lineOk]
    symm
    rw [decide_eq_false_iff_not]
    omega
theorem ed_step (k : Int) (s : ByteArray) (l : List (Int × ByteArray)) (n m : Int) (h : 1 ≤ k ∧ k ≤ 3) (hs : lineOk s = true) : edGo ((k, s) :: l) n m = edGo l (if k = 3 then n else n + 1) (if k = 2 then m else m + 1) := by
  simp only [edGo]
  rw [if_pos ⟨h.1, h.2, hs⟩]
theorem spec_EditsOk_ev (l : List S89) (hl : l.length ≤ 140737488351232) (hx : ∀ x ∈ l, x.f1.size ≤ 140737488351232) : Ev (fun k => spec_EditsOk.f k l) (editsOk (l.map pr)) := by
  simp only [spec_EditsOk.f]
  have key : ∀ (d i : Nat) (n m : Int), i + d = l.length → 0 ≤ n → n ≤ i → 0 ≤ m → m ≤ i → Ev (fun k => spec_EditsOk.l0 k l n m (i : Int)) (edGo ((l.drop i).map pr) n m) := by
    intro d
    induction d with
    | zero =>
      intro i n m hi hn0 hn hm0 hm
      refine Ev.succ ?_
      simp only [spec_EditsOk.l0]
      rw [drop_end l i (by omega)]
      refine Ev.neg (by omega) ?_
      simp only [List.map_nil, edGo]
      by_cases h : n ≤ 300
      · exact Ev.pos h (Ev.some_ (by simp [h]))
      · exact Ev.neg h (Ev.some_ (by simp [h]))
    | succ d ih =>
      intro i n m hi hn0 hn hm0 hm
      refine Ev.succ ?_
      simp only [spec_EditsOk.l0]
      have hr := rdE_nat l i (by omega)
      have hs := hx _ (List.getElem_mem (show i < l.length by omega))
      rw [hr, List.drop_eq_getElem_cons (show i < l.length by omega), List.map_cons]
      refine Ev.pos (by omega) (Ev.pos (by omega) (Ev.bnd0 (spec_l01In_eq _ _ _) ?_))
      by_cases hk : 1 ≤ (l[i]'(by omega)).f0 ∧ (l[i]'(by omega)).f0 ≤ 3
      · refine Ev.pos (by simpa using hk) (Ev.bnd (spec_LineOk_ev _ hs) (Ev.succ ?_))
        simp only [spec_EditsOk.j1]
        by_cases ho : lineOk (l[i]'(by omega)).f1 = true
        · refine Ev.neg (by simp [ho]) (Ev.pos (by omega) (Ev.pos (by omega) ?_))
          have e1 : wrap64 (n + 1) = n + 1 := w64 (by omega) (by omega)
          have e2 : wrap64 (m + 1) = m + 1 := w64 (by omega) (by omega)
          rw [up1 i (by omega), e1, e2, hr]
          rw [show pr (l[i]'(by omega)) = ((l[i]'(by omega)).f0, (l[i]'(by omega)).f1) from rfl, ed_step _ _ _ _ _ hk ho]
          clear e1 e2
          by_cases h3 : (l[i]'(by omega)).f0 = 3
          · refine Ev.pos h3 (Ev.neg (by omega) ?_)
            rw [if_pos h3, if_neg (by omega)]
            exact ih (i + 1) n (m + 1) (by omega) (by omega) (by omega) (by omega) (by omega)
          · refine Ev.neg h3 ?_
            rw [if_neg h3]
            by_cases h2 : (l[i]'(by omega)).f0 = 2
            · refine Ev.pos h2 ?_
              rw [if_pos h2]
              exact ih (i + 1) (n + 1) m (by omega) (by omega) (by omega) (by omega) (by omega)
            · refine Ev.neg h2 ?_
              rw [if_neg h2]
              exact ih (i + 1) (n + 1) (m + 1) (by omega) (by omega) (by omega) (by omega) (by omega)
        · refine Ev.pos (by simp [ho]) (Ev.some_ ?_)
          rw [show pr (l[i]'(by omega)) = ((l[i]'(by omega)).f0, (l[i]'(by omega)).f1) from rfl, edGo, if_neg (fun h => ho h.2.2)]
      · refine Ev.neg (by simpa using hk) (Ev.succ ?_)
        simp only [spec_EditsOk.j1]
        refine Ev.pos trivial (Ev.some_ ?_)
        rw [show pr (l[i]'(by omega)) = ((l[i]'(by omega)).f0, (l[i]'(by omega)).f1) from rfl, edGo, if_neg (fun h => hk ⟨h.1, h.2.1⟩)]
  exact key l.length 0 0 0 (by omega) (by omega) (by omega) (by omega) (by omega)
theorem impl_EditsOk_ev (l : List S89) (hl : l.length ≤ 140737488351232) : Ev (fun k => impl_EditsOk.f k l) (editsOk (l.map pr)) := by
  simp only [impl_EditsOk.f]
  have key : ∀ (d i : Nat) (n m : Int), i + d = l.length → 0 ≤ n → n ≤ i → 0 ≤ m → m ≤ i → Ev (fun k => impl_EditsOk.l0 k n m l (l.length : Int) (i : Int)) (edGo ((l.drop i).map pr) n m) := by
    intro d
    induction d with
    | zero =>
      intro i n m hi hn0 hn hm0 hm
      refine Ev.succ ?_
      simp only [impl_EditsOk.l0]
      rw [drop_end l i (by omega)]
      refine Ev.neg (by omega) ?_
      simp only [List.map_nil, edGo]
      by_cases h : n ≤ 300
      · exact Ev.pos h (Ev.some_ (by simp [h]))
      · exact Ev.neg h (Ev.some_ (by simp [h]))
    | succ d ih =>
      intro i n m hi hn0 hn hm0 hm
      refine Ev.succ ?_
      simp only [impl_EditsOk.l0]
      have hr := rdE_nat l i (by omega)
      rw [hr, List.drop_eq_getElem_cons (show i < l.length by omega), List.map_cons]
      refine Ev.pos (by omega) (Ev.pos (by omega) (Ev.pos (by omega) (Ev.bnd0 (impl_inRange_eq _ _ _) ?_)))
      by_cases hk : 1 ≤ (l[i]'(by omega)).f0 ∧ (l[i]'(by omega)).f0 ≤ 3
      · refine Ev.pos (by simpa using hk) (Ev.bnd0 (impl_LineOk_eq _) (Ev.succ ?_))
        simp only [impl_EditsOk.j1]
        by_cases ho : lineOk (l[i]'(by omega)).f1 = true
        · refine Ev.neg (by simp [ho]) ?_
          have e1 : wrap64 (n + 1) = n + 1 := w64 (by omega) (by omega)
          have e2 : wrap64 (m + 1) = m + 1 := w64 (by omega) (by omega)
          rw [up1 i (by omega), e1, e2]
          rw [show pr (l[i]'(by omega)) = ((l[i]'(by omega)).f0, (l[i]'(by omega)).f1) from rfl, ed_step _ _ _ _ _ hk ho]
          clear e1 e2
          by_cases h3 : (l[i]'(by omega)).f0 = 3
          · refine Ev.pos h3 (Ev.neg (by omega) ?_)
            rw [if_pos h3, if_neg (by omega)]
            exact ih (i + 1) n (m + 1) (by omega) (by omega) (by omega) (by omega) (by omega)
          · refine Ev.neg h3 ?_
            rw [if_neg h3]
            by_cases h2 : (l[i]'(by omega)).f0 = 2
            · refine Ev.pos h2 ?_
              rw [if_pos h2]
              exact ih (i + 1) (n + 1) m (by omega) (by omega) (by omega) (by omega) (by omega)
            · refine Ev.neg h2 ?_
              rw [if_neg h2]
              exact ih (i + 1) (n + 1) (m + 1) (by omega) (by omega) (by omega) (by omega) (by omega)
        · refine Ev.pos (by simp [ho]) (Ev.some_ ?_)
          rw [show pr (l[i]'(by omega)) = ((l[i]'(by omega)).f0, (l[i]'(by omega)).f1) from rfl, edGo, if_neg (fun h => ho h.2.2)]
      · refine Ev.neg (by simpa using hk) (Ev.succ ?_)
        simp only [impl_EditsOk.j1]
        refine Ev.pos trivial (Ev.some_ ?_)
        rw [show pr (l[i]'(by omega)) = ((l[i]'(by omega)).f0, (l[i]'(by omega)).f1) from rfl, edGo, if_neg (fun h => hk ⟨h.1, h.2.1⟩)]
  exact key l.length 0 0 0 (by omega) (by omega) (by omega) (by omega) (by omega)
theorem FnExactEditsOk : laws_FnExactEditsOk.Pure := by
  intro l hl
  refine Ev.rounds (r := true) ?_
  simp only [laws_FnExactEditsOk.f]
  have hx : ∀ x ∈ l, x.f1.size ≤ 140737488351232 := fun x hx => (hl.2 x hx).2
  obtain ⟨r, hr, hp⟩ := laws_szEditS_ev l 1048576 (by omega) (by omega) (by omega) hx
  refine Ev.bnd hr ?_
  by_cases h : r < 0
  · exact Ev.pos h (Ev.now _)
  have p1 := hp (by omega)
  have h1 : l.length ≤ 11728124029610 := by omega
  have hlen : (l.map conv).length ≤ 140737488351232 := by rw [List.length_map]; omega
  have hc : ∀ x ∈ l.map conv, x.f1.size ≤ 140737488351232 := by
    intro x hx'
    obtain ⟨y, hy, rfl⟩ := List.mem_map.1 hx'
    exact hx y hy
  exact Ev.neg h (Ev.bnd (laws_toEditS_ev l h1) (Ev.bnd (spec_EditsOk_ev _ hlen hc) (Ev.bnd (laws_toEditS_ev l h1) (Ev.bnd (impl_EditsOk_ev _ hlen) (Ev.neg (by simp) (Ev.bnd (laws_toEditS_ev l h1) (Ev.bnd (laws_eqEditS_refl _ hlen) (Ev.pos rfl (Ev.now _)))))))))

end Go.Proofs.Ytpojmcpfgllbfaa.Pure
