/- The program's JoinLines returns what the reference's returns, for every list of texts that the row reads; the list is left as it was. -/
import Derived.Test.YtfaebcoembcfoaaPFnExactJoinLinesx2
import Derived.Test.YtfaebcoembcfoaaGen
namespace Go.Proofs.Ytfaebcoembcfoaa.Pure
open Go.RowKit Go.Proofs.Ytfaebcoembcfoaa.PFnExactJoinLines Go.Proofs.YtfaebcoembcfoaaW.PrintWords Go.Proofs.YtfaebcoembcfoaaW.PrintLast Go.Proofs.YtfaebcoembcfoaaG

theorem laws_szStringS_ev (l : List ByteArray) (m : Int) (hm0 : 0 ≤ m) (hm : m ≤ 140737488351232) (hl : l.length ≤ 140737488351232) (hx : ∀ x ∈ l, x.size ≤ 140737488351232) : ∃ r, Ev (fun k => laws_szStringS.f k l m) r ∧ (0 ≤ r → (l.length : Int) + r ≤ m ∧ ∀ x ∈ l, ((x.size : Nat) : Int) ≤ m) := by
  have key : ∀ (n i : Nat) (c : Int), i + n = l.length → 0 ≤ c → c ≤ 140737488351232 → ∃ r, Ev (fun k => laws_szStringS.l0 k l c (i : Int)) r ∧ (0 ≤ r → r ≤ c ∧ ∀ x ∈ l.drop i, ((x.size : Nat) : Int) ≤ c) := by
    intro n
    induction n with
    | zero =>
      intro i c hi hc0 hc
      refine ⟨c, Ev.succ ?_, fun _ => ⟨Int.le_refl _, ?_⟩⟩
      · simp only [laws_szStringS.l0]
        exact Ev.neg (by omega) (Ev.now _)
      · rw [drop_end l i (by omega)]
        simp
    | succ n ih =>
      intro i c hi hc0 hc
      have hr : rdOf ByteArray.empty l (i : Int) = l[i]'(by omega) := by simp [rdOf, List.getD, List.getElem?_eq_getElem (show i < l.length by omega)]
      have hs := hx _ (List.getElem_mem (show i < l.length by omega))
      have hd : l.drop i = l[i]'(by omega) :: l.drop (i + 1) := List.drop_eq_getElem_cons (by omega)
      have hw : wrap64 (c - (((rdOf ByteArray.empty l (i : Int)).size : Nat) : Int)) = c - (((l[i]'(by omega)).size : Nat) : Int) := by rw [hr]; exact w64 (by omega) (by omega)
      by_cases h : c - (((l[i]'(by omega)).size : Nat) : Int) < 0
      · refine ⟨-1, Ev.succ ?_, fun h => absurd h (by omega)⟩
        simp only [laws_szStringS.l0]
        exact Ev.pos (by omega) (Ev.pos (by omega) (Ev.pos (by rw [hw]; exact h) (Ev.now _)))
      · obtain ⟨r, hev, hp⟩ := ih (i + 1) (c - (((l[i]'(by omega)).size : Nat) : Int)) (by omega) (by omega) (by omega)
        refine ⟨r, Ev.succ ?_, fun h0 => ?_⟩
        · simp only [laws_szStringS.l0]
          refine Ev.pos (by omega) (Ev.pos (by omega) (Ev.neg (by rw [hw]; exact h) ?_))
          rw [up1 i (by omega), hw]
          exact hev
        · obtain ⟨p1, p2⟩ := hp h0
          refine ⟨by omega, fun x hx => ?_⟩
          rw [hd] at hx
          rcases List.mem_cons.1 hx with rfl | hx
          · omega
          · have := p2 x hx
            omega
  simp only [laws_szStringS.f]
  by_cases h : wrap64 (m - (l.length : Int)) < 0
  · exact ⟨-1, Ev.pos h (Ev.now _), fun h => absurd h (by omega)⟩
  · have h1 : ¬ (m - (l.length : Int) < 0) := by rw [w64 (by omega) (by omega)] at h; exact h
    obtain ⟨r, hr, hp⟩ := key l.length 0 (m - (l.length : Int)) (by omega) (by omega) (by omega)
    refine ⟨r, Ev.neg h ?_, fun h0 => ?_⟩
    · rw [w64 (by omega) (by omega)]
      exact hr
    · obtain ⟨p1, p2⟩ := hp h0
      refine ⟨by omega, fun x hx => ?_⟩
      have := p2 x (by simpa using hx)
      omega
theorem laws_toStringS_l0 (l : List ByteArray) (hl : l.length ≤ 140737488351232) : ∀ (n i : Nat) (x : List ByteArray), i + n = l.length → x.length = l.length → (∀ j, j < i → x[j]? = l[j]?) → Ev (fun k => laws_toStringS.l0 k l x (i : Int)) l := by
  intro n
  induction n with
  | zero =>
    intro i x hi hx hj
    refine Ev.succ ?_
    simp only [laws_toStringS.l0]
    refine Ev.neg (by omega) (Ev.some_ ?_)
    apply List.ext_getElem?
    intro j
    by_cases h : j < i
    · exact hj j h
    · rw [List.getElem?_eq_none (by omega), List.getElem?_eq_none (by omega)]
  | succ n ih =>
    intro i x hi hx hj
    refine Ev.succ ?_
    simp only [laws_toStringS.l0]
    refine Ev.pos (by omega) (Ev.pos (by omega) (Ev.pos (by omega) ?_))
    have e : wrap64 ((i : Int) + 1) = ((i + 1 : Nat) : Int) := by rw [w64 (by omega) (by omega)]; omega
    have e2 : ((i : Int)).toNat = i := by omega
    rw [e, e2]
    refine ih (i + 1) _ (by omega) (by rw [List.length_set]; exact hx) ?_
    intro j hj'
    by_cases h : j = i
    · subst h
      rw [List.getElem?_set_self (by omega)]
      simp [rdOf, List.getD, List.getElem?_eq_getElem (show j < l.length by omega)]
    · rw [List.getElem?_set_ne (by omega)]
      exact hj j (by omega)
theorem laws_toStringS_ev (l : List ByteArray) (hl : l.length ≤ 17592186044416) : Ev (fun k => laws_toStringS.f k l) l := by
  simp only [laws_toStringS.f]
  refine Ev.pos (by omega) (Ev.pos (by omega) ?_)
  exact laws_toStringS_l0 l (by omega) l.length 0 _ (by omega) (by simp) (fun j h => absurd h (by omega))
theorem laws_eqStringS_refl (l : List ByteArray) (hl : l.length ≤ 140737488351232) : Ev (fun k => laws_eqStringS.f k l l) true := by
  simp only [laws_eqStringS.f]
  refine Ev.pos (by first | rfl | trivial) ?_
  have key : ∀ (n i : Nat), i + n = l.length → Ev (fun k => laws_eqStringS.l0 k l l (i : Int)) true := by
    intro n
    induction n with
    | zero =>
      intro i hi
      refine Ev.succ ?_
      simp only [laws_eqStringS.l0]
      exact Ev.neg (by omega) (Ev.now _)
    | succ n ih =>
      intro i hi
      refine Ev.succ ?_
      simp only [laws_eqStringS.l0]
      have e : wrap64 ((i : Int) + 1) = ((i + 1 : Nat) : Int) := by rw [w64 (by omega) (by omega)]; omega
      rw [e]
      exact Ev.pos (by omega) (Ev.pos (by omega) (Ev.pos (by omega) (Ev.pos (by first | rfl | trivial) (ih (i + 1) (by omega)))))
  exact key l.length 0 (by omega)
theorem spec_LineOk_ev (s : ByteArray) (hs : s.size ≤ 140737488351232) : Ev (fun k => spec_LineOk.f k s) (lineOk s) := by
  simp only [spec_LineOk.f]
  have key : ∀ (n i : Nat), i + n = s.size → Ev (fun k => spec_LineOk.l0 k s (i : Int)) (decide ((10 : Int) ∉ (bytesOf s).drop i ∧ s.size ≤ 60)) := by
    intro n
    induction n with
    | zero =>
      intro i hi
      refine Ev.succ ?_
      simp only [spec_LineOk.l0]
      refine Ev.neg (by omega) (Ev.some_ ?_)
      rw [drop_end _ _ (by rw [bytesOf_length]; omega)]
      simp
      omega
    | succ n ih =>
      intro i hi
      refine Ev.succ ?_
      simp only [spec_LineOk.l0]
      refine Ev.pos (by omega) (Ev.pos (by omega) ?_)
      rw [up1 i (by omega), drop_bt s i (by omega)]
      by_cases h : bt s (i : Int) = 10
      · exact Ev.pos h (Ev.some_ (by simp [h]))
      · refine Ev.neg h (Ev_eq (ih (i + 1) (by omega)) ?_)
        have : ((10 : Int) ∉ bt s (i : Int) :: (bytesOf s).drop (i + 1)) ↔ ((10 : Int) ∉ (bytesOf s).drop (i + 1)) := by
          rw [List.mem_cons]
          constructor
          · intro h1 h2; exact h1 (.inr h2)
          · intro h1 h2
            rcases h2 with h2 | h2
            · exact h h2.symm
            · exact h1 h2
        simp only [this]
  exact key s.size 0 (by omega)
theorem spec_l03All_ev (l : List ByteArray) (m : Int) (hl : Sized l) : Ev (fun k => spec_l03All.f k l m) (linesOk m l) := by
  simp only [spec_l03All.f]
  by_cases h : (l.length : Int) > m
  · refine Ev.pos h (Ev.some_ ?_)
    simp only [linesOk]
    rw [show decide ((l.length : Int) ≤ m) = false from by simp; omega]
    rfl
  refine Ev.neg h ?_
  have key : ∀ (n i : Nat), i + n = l.length → Ev (fun k => spec_l03All.l0 k l (i : Int)) (allOk (l.drop i)) := by
    intro n
    induction n with
    | zero =>
      intro i hi
      refine Ev.succ ?_
      simp only [spec_l03All.l0]
      refine Ev.neg (by omega) (Ev.some_ ?_)
      rw [drop_end l i (by omega)]
      rfl
    | succ n ih =>
      intro i hi
      refine Ev.succ ?_
      simp only [spec_l03All.l0]
      have hlt := hl.1
      refine Ev.pos (by omega) (Ev.pos (by omega) (Ev.bnd (spec_LineOk_ev _ (hl.2 _ (rdOf_mem _ l i (by omega)))) ?_))
      rw [up1 i (by omega), drop_rdOf ByteArray.empty l i (by omega)]
      by_cases hx : lineOk (rdOf ByteArray.empty l (i : Int)) = true
      · refine Ev.pos hx (Ev_eq (ih (i + 1) (by omega)) ?_)
        simp only [allOk, List.all_cons, hx, Bool.true_and]
      · refine Ev.neg hx (Ev.some_ ?_)
        simp only [allOk, List.all_cons, Bool.not_eq_true _ ▸ hx]
        simp
  refine Ev_eq (key l.length 0 (by omega)) ?_
  simp only [linesOk, List.drop_zero]
  rw [show decide ((l.length : Int) ≤ m) = true from by simp; omega]
  rfl
theorem impl_LineOk_eq (s : ByteArray) : impl_LineOk.f s = some (lineOk s) := by
  simp only [impl_LineOk.f]
  by_cases h : (s.size : Int) ≤ 60
  · rw [if_pos h]
    simp only [strings_Contains.f]
    rw [if_pos (by rfl)]
    simp only [Option.bind_some]
    congr 1
    have h1 := indexByte_mem 10 s.data.toList
    have h2 := byte_mem s 10
    simp only [lineOk]
    rw [← decide_not]
    congr 1
    rw [show (⟨#[10]⟩ : ByteArray).data.toList.headD 0 = (10 : UInt8) from rfl, h1, h2]
    simp only [eq_iff_iff]
    constructor
    · intro h3; exact ⟨h3, by omega⟩
    · intro h3; exact h3.1
  · rw [if_neg h]
    congr 1
    simp only [lineOk]
    symm
    rw [decide_eq_false_iff_not]
    omega
theorem impl_areLines_ev (l : List ByteArray) (hl : l.length ≤ 140737488351232) : Ev (fun k => impl_areLines.f k l) (allOk l) := by
  simp only [impl_areLines.f]
  have key : ∀ (n i : Nat), i + n = l.length → Ev (fun k => impl_areLines.l0 k l (l.length : Int) (i : Int)) (allOk (l.drop i)) := by
    intro n
    induction n with
    | zero =>
      intro i hi
      refine Ev.succ ?_
      simp only [impl_areLines.l0]
      refine Ev.neg (by omega) (Ev.some_ ?_)
      rw [drop_end l i (by omega)]
      rfl
    | succ n ih =>
      intro i hi
      refine Ev.succ ?_
      simp only [impl_areLines.l0]
      refine Ev.pos (by omega) (Ev.pos (by omega) (Ev.pos (by omega) (Ev.bnd0 (impl_LineOk_eq _) ?_)))
      rw [up1 i (by omega), drop_rdOf ByteArray.empty l i (by omega)]
      by_cases hx : lineOk (rdOf ByteArray.empty l (i : Int)) = true
      · refine Ev.pos hx (Ev_eq (ih (i + 1) (by omega)) ?_)
        simp only [allOk, List.all_cons, hx, Bool.true_and]
      · refine Ev.neg hx (Ev.some_ ?_)
        simp only [allOk, List.all_cons]
        simp [Bool.eq_false_iff.2 hx]
  exact key l.length 0 (by omega)
theorem spec_LinesOk_ev (l : List ByteArray) (hl : Sized l) : Ev (fun k => spec_LinesOk.f k l) (linesOk 80 l) := by
  simp only [spec_LinesOk.f]
  exact Ev.bnd (spec_l03All_ev l 80 hl) (Ev.now _)
theorem impl_LinesOk_ev (l : List ByteArray) (hl : Sized l) : Ev (fun k => impl_LinesOk.f k l) (linesOk 80 l) := by
  simp only [impl_LinesOk.f]
  by_cases h : (l.length : Int) ≤ 80
  · exact Ev.pos h (Ev.bnd (impl_areLines_ev l hl.1) (Ev.some_ (by simp [linesOk, h])))
  · exact Ev.neg h (Ev.some_ (by simp [linesOk, h]))
/-! lines joined, on both sides -/
def joinL (l : List ByteArray) : ByteArray := ⟨(impl_joinLines.cat l).toArray⟩
theorem joinL_spec (l : List ByteArray) : strOfNums (spec_JoinLines.cat l) = joinL l := by
  unfold strOfNums joinL spec_JoinLines.cat impl_joinLines.cat
  congr 2
  rw [List.map_flatMap]
  congr 1
  funext s
  rw [List.map_append, spec_JoinLines.nums, List.map_map]
  congr 1
  conv => rhs; rw [← List.map_id s.data.toList]
  apply List.map_congr_left
  intro b _
  simp
theorem joinL_tot : ∀ (l : List ByteArray), (∀ s ∈ l, s.size ≤ 60) → impl_joinLines.tot l ≤ 61 * l.length
  | [], _ => by simp [impl_joinLines.tot]
  | s :: l, h => by
    have h1 := joinL_tot l (fun x hx => h x (List.mem_cons_of_mem _ hx))
    have h2 := h s (by simp)
    unfold impl_joinLines.tot at h1 ⊢
    simp only [List.map_cons, List.sum_cons, List.length_cons]
    omega
theorem joinL_cat (l : List ByteArray) : (spec_JoinLines.cat l).length = impl_joinLines.tot l := by
  unfold spec_JoinLines.cat impl_joinLines.tot
  induction l with
  | nil => rfl
  | cons s l ih =>
    simp only [List.flatMap_cons, List.length_append, List.map_cons, List.sum_cons, ih, spec_JoinLines.nums_length, List.length_cons, List.length_nil]
theorem linesOk_small {m : Int} {l : List ByteArray} (h : linesOk m l = true) : (l.length : Int) ≤ m ∧ ∀ s ∈ l, s.size ≤ 60 := by
  simp only [linesOk, Bool.and_eq_true, decide_eq_true_eq] at h
  refine ⟨h.1, fun s hs => ?_⟩
  have := h.2
  simp only [allOk, List.all_eq_true] at this
  have h2 := this s hs
  simp only [lineOk, decide_eq_true_eq] at h2
  exact h2.2
noncomputable def joinR (l : List ByteArray) : ByteArray × Bool := if linesOk 80 l = true then (joinL l, true) else (⟨#[]⟩, false)
theorem impl_joinLines_eq {l : List ByteArray} (h : linesOk 80 l = true) : impl_joinLines.f l = some (joinL l) := by
  obtain ⟨h1, h2⟩ := linesOk_small h
  have h3 := joinL_tot l h2
  unfold impl_joinLines.f
  rw [if_pos (by omega)]
  rfl
theorem spec_JoinLines_ev (l : List ByteArray) (hl : Sized l) : Ev (fun k => spec_JoinLines.f k l) (joinR l) := by
  simp only [spec_JoinLines.f]
  refine Ev.bnd (spec_LinesOk_ev l hl) ?_
  unfold joinR
  by_cases c : linesOk 80 l = true
  · obtain ⟨h1, h2⟩ := linesOk_small c
    have h3 := joinL_tot l h2
    refine Ev.pos c ?_
    rw [if_pos c]
    refine Ev.pos (by rw [joinL_cat]; omega) (Ev.some_ ?_)
    rw [joinL_spec]
  · refine Ev.neg c ?_
    rw [if_neg c]
    exact Ev.now _
theorem impl_JoinLines_ev (l : List ByteArray) (hl : Sized l) : Ev (fun k => impl_JoinLines.f k l) (joinR l) := by
  simp only [impl_JoinLines.f]
  refine Ev.bnd (impl_LinesOk_ev l hl) ?_
  unfold joinR
  by_cases c : linesOk 80 l = true
  · refine Ev.pos c ?_
    rw [if_pos c]
    exact Ev.bnd0 (impl_joinLines_eq c) (Ev.now _)
  · refine Ev.neg c ?_
    rw [if_neg c]
    exact Ev.now _
theorem FnExactJoinLines : laws_FnExactJoinLines.Pure := by
  intro l hl
  refine Ev.rounds (r := true) ?_
  simp only [laws_FnExactJoinLines.f]
  obtain ⟨r, hr, hp⟩ := laws_szStringS_ev l 1048576 (by omega) (by omega) (by omega) hl.2
  refine Ev.bnd hr ?_
  by_cases h : r < 0
  · exact Ev.pos h (Ev.now _)
  have hs : Sized l := ⟨by omega, hl.2⟩
  have h17 : l.length ≤ 17592186044416 := by have := hp (by omega); omega
  refine Ev.neg h (Ev.bnd (laws_toStringS_ev l h17) (Ev.bnd (spec_JoinLines_ev l hs) (Ev.bnd (laws_toStringS_ev l h17) (Ev.bnd (impl_JoinLines_ev l hs) (Ev.pos rfl (Ev.succ ?_))))))
  simp only [laws_FnExactJoinLines.j0]
  exact Ev.neg (by simp) (Ev.bnd (laws_toStringS_ev l h17) (Ev.bnd (laws_eqStringS_refl l hs.1) (Ev.pos rfl (Ev.now _))))

end Go.Proofs.Ytfaebcoembcfoaa.Pure
