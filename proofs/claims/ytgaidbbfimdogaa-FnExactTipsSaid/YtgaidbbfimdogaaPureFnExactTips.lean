/- The program's Tips returns what the reference's returns, for every graph that the row reads; the graph is left as it was, and the answer shares nothing with what came in or is told later. -/
import Derived.Test.YtgaidbbfimdogaaPFnExactTipsx4
import Derived.Test.YtgaidbbfimdogaaGen
namespace Go.Proofs.Ytgaidbbfimdogaa.Pure
open Go.RowKit Go.Proofs.Ytgaidbbfimdogaa.PFnExactTips Go.Proofs.YtgaidbbfimdogaaW.PrintWords Go.Proofs.YtgaidbbfimdogaaW.PrintLast Go.Proofs.YtgaidbbfimdogaaG

theorem laws_szIntSS_ev (l : List (List Int)) (m : Int) (hm0 : 0 ≤ m) (hm : m ≤ 140737488351232) (hl : l.length ≤ 140737488351232) (hx : ∀ x ∈ l, x.length ≤ 140737488351232) : ∃ r, Ev (fun k => laws_szIntSS.f k l m) r ∧ (0 ≤ r → (l.length : Int) + r ≤ m ∧ ∀ x ∈ l, ((x.length : Nat) : Int) ≤ m) := by
  have key : ∀ (n i : Nat) (c : Int), i + n = l.length → 0 ≤ c → c ≤ 140737488351232 → ∃ r, Ev (fun k => laws_szIntSS.l0 k l c (i : Int)) r ∧ (0 ≤ r → r ≤ c ∧ ∀ x ∈ l.drop i, ((x.length : Nat) : Int) ≤ c) := by
    intro n
    induction n with
    | zero =>
      intro i c hi hc0 hc
      refine ⟨c, Ev.succ ?_, fun _ => ⟨Int.le_refl _, ?_⟩⟩
      · simp only [laws_szIntSS.l0]
        exact Ev.neg (by omega) (Ev.now _)
      · rw [drop_end l i (by omega)]
        simp
    | succ n ih =>
      intro i c hi hc0 hc
      have hr : rd_L1 l (i : Int) = l[i]'(by omega) := by simp [rd_L1, List.getD, List.getElem?_eq_getElem (show i < l.length by omega)]
      have hs := hx _ (List.getElem_mem (show i < l.length by omega))
      have hd : l.drop i = l[i]'(by omega) :: l.drop (i + 1) := List.drop_eq_getElem_cons (by omega)
      have hw : wrap64 (c - (((rd_L1 l (i : Int)).length : Nat) : Int)) = c - (((l[i]'(by omega)).length : Nat) : Int) := by rw [hr]; exact w64 (by omega) (by omega)
      by_cases h : c - (((l[i]'(by omega)).length : Nat) : Int) < 0
      · refine ⟨-1, Ev.succ ?_, fun h => absurd h (by omega)⟩
        simp only [laws_szIntSS.l0]
        exact Ev.pos (by omega) (Ev.pos (by omega) (Ev.bnd0 (a := -1) (by simp only [laws_szIntS.f]; rw [if_pos (by rw [hw]; exact h)]) (Ev.pos (by omega) (Ev.now _))))
      · obtain ⟨r, hev, hp⟩ := ih (i + 1) (c - (((l[i]'(by omega)).length : Nat) : Int)) (by omega) (by omega) (by omega)
        refine ⟨r, Ev.succ ?_, fun h0 => ?_⟩
        · simp only [laws_szIntSS.l0]
          refine Ev.pos (by omega) (Ev.pos (by omega) (Ev.bnd0 (a := c - (((l[i]'(by omega)).length : Nat) : Int)) (by simp only [laws_szIntS.f]; rw [if_neg (by rw [hw]; exact h), hw]) (Ev.neg h ?_)))
          rw [up1 i (by omega)]
          exact hev
        · obtain ⟨p1, p2⟩ := hp h0
          refine ⟨by omega, fun x hx => ?_⟩
          rw [hd] at hx
          rcases List.mem_cons.1 hx with rfl | hx
          · omega
          · have := p2 x hx
            omega
  simp only [laws_szIntSS.f]
  by_cases h : wrap64 (m - (l.length : Int)) < 0
  · exact ⟨-1, Ev.pos h (Ev.now _), fun h => absurd h (by omega)⟩
  · have h1 : ¬ (m - (l.length : Int) < 0) := by rw [w64 (by omega) (by omega)] at h; exact h
    obtain ⟨r, hr, hp⟩ := key l.length 0 (m - (l.length : Int)) (by omega) (by omega) (by omega)
    refine ⟨r, Ev.neg h ?_, fun h0 => ?_⟩
    · rw [w64 (by omega) (by omega)]
      exact hr
    · obtain ⟨p1, p2⟩ := hp h0
      refine ⟨by omega, fun x hx => ?_⟩
      have := p2 x (by simpa using hx)
      omega
theorem laws_toIntS_l0 (l : List Int) (hl : l.length ≤ 140737488351232) : ∀ (n i : Nat) (x : List Int), i + n = l.length → x.length = l.length → (∀ j, j < i → x[j]? = l[j]?) → Ev (fun k => laws_toIntS.l0 k l x (i : Int)) l := by
  intro n
  induction n with
  | zero =>
    intro i x hi hx hj
    refine Ev.succ ?_
    simp only [laws_toIntS.l0]
    refine Ev.neg (by omega) (Ev.some_ ?_)
    apply List.ext_getElem?
    intro j
    by_cases h : j < i
    · exact hj j h
    · rw [List.getElem?_eq_none (by omega), List.getElem?_eq_none (by omega)]
  | succ n ih =>
    intro i x hi hx hj
    refine Ev.succ ?_
    simp only [laws_toIntS.l0]
    refine Ev.pos (by omega) (Ev.pos (by omega) (Ev.pos (by omega) ?_))
    have e : wrap64 ((i : Int) + 1) = ((i + 1 : Nat) : Int) := by rw [w64 (by omega) (by omega)]; omega
    have e2 : ((i : Int)).toNat = i := by omega
    rw [e, e2]
    refine ih (i + 1) _ (by omega) (by rw [List.length_set]; exact hx) ?_
    intro j hj'
    by_cases h : j = i
    · subst h
      rw [List.getElem?_set_self (by omega)]
      simp [rd, List.getD, List.getElem?_eq_getElem (show j < l.length by omega)]
    · rw [List.getElem?_set_ne (by omega)]
      exact hj j (by omega)
theorem laws_toIntS_ev (l : List Int) (hl : l.length ≤ 35184372088832) : Ev (fun k => laws_toIntS.f k l) l := by
  simp only [laws_toIntS.f]
  refine Ev.pos (by omega) (Ev.pos (by omega) ?_)
  exact laws_toIntS_l0 l (by omega) l.length 0 _ (by omega) (by simp) (fun j h => absurd h (by omega))

theorem laws_toIntSS_ev (l : List (List Int)) (hl : l.length ≤ 11728124029610) (hx : ∀ x ∈ l, x.length ≤ 35184372088832) : Ev (fun k => laws_toIntSS.f k l) l := by
  simp only [laws_toIntSS.f]
  refine Ev.pos (by omega) (Ev.pos (by omega) ?_)
  have key : ∀ (n i : Nat) (x : List (List Int)), i + n = l.length → x.length = l.length → (∀ j, j < i → x[j]? = l[j]?) → Ev (fun k => laws_toIntSS.l0 k l x (i : Int)) l := by
    intro n
    induction n with
    | zero =>
      intro i x hi hx hj
      refine Ev.succ ?_
      simp only [laws_toIntSS.l0]
      refine Ev.neg (by omega) (Ev.some_ ?_)
      apply List.ext_getElem?
      intro j
      by_cases h : j < i
      · exact hj j h
      · rw [List.getElem?_eq_none (by omega), List.getElem?_eq_none (by omega)]
    | succ n ih =>
      intro i x hi hx' hj
      refine Ev.succ ?_
      simp only [laws_toIntSS.l0]
      have hr : rd_L1 l (i : Int) = l[i]'(by omega) := by simp [rd_L1, List.getD, List.getElem?_eq_getElem (show i < l.length by omega)]
      refine Ev.pos (by omega) (Ev.pos (by omega) ?_)
      rw [up1 i (by omega), hr]
      refine Ev.bnd (laws_toIntS_ev _ (hx _ (List.getElem_mem _))) (Ev.pos (by omega) ?_)
      have e2 : ((i : Int)).toNat = i := by omega
      rw [e2]
      refine ih (i + 1) _ (by omega) (by rw [List.length_set]; exact hx') ?_
      intro j hj'
      by_cases h : j = i
      · subst h
        rw [List.getElem?_set_self (by omega), List.getElem?_eq_getElem (by omega)]
      · rw [List.getElem?_set_ne (by omega)]
        exact hj j (by omega)
  exact key l.length 0 _ (by omega) (by simp) (fun j h => absurd h (by omega))
theorem laws_eqIntS_refl (l : List Int) (hl : l.length ≤ 140737488351232) : Ev (fun k => laws_eqIntS.f k l l) true := by
  simp only [laws_eqIntS.f]
  refine Ev.pos (by first | rfl | trivial) ?_
  have key : ∀ (n i : Nat), i + n = l.length → Ev (fun k => laws_eqIntS.l0 k l l (i : Int)) true := by
    intro n
    induction n with
    | zero =>
      intro i hi
      refine Ev.succ ?_
      simp only [laws_eqIntS.l0]
      exact Ev.neg (by omega) (Ev.now _)
    | succ n ih =>
      intro i hi
      refine Ev.succ ?_
      simp only [laws_eqIntS.l0]
      have e : wrap64 ((i : Int) + 1) = ((i + 1 : Nat) : Int) := by rw [w64 (by omega) (by omega)]; omega
      rw [e]
      exact Ev.pos (by omega) (Ev.pos (by omega) (Ev.pos (by omega) (Ev.pos (by first | rfl | trivial) (ih (i + 1) (by omega)))))
  exact key l.length 0 (by omega)

theorem laws_eqIntSS_refl (l : List (List Int)) (hl : l.length ≤ 140737488351232) (hx : ∀ x ∈ l, x.length ≤ 140737488351232) : Ev (fun k => laws_eqIntSS.f k l l) true := by
  simp only [laws_eqIntSS.f]
  refine Ev.pos (by first | rfl | trivial) ?_
  have key : ∀ (n i : Nat), i + n = l.length → Ev (fun k => laws_eqIntSS.l0 k l l (i : Int)) true := by
    intro n
    induction n with
    | zero =>
      intro i hi
      refine Ev.succ ?_
      simp only [laws_eqIntSS.l0]
      exact Ev.neg (by omega) (Ev.now _)
    | succ n ih =>
      intro i hi
      refine Ev.succ ?_
      simp only [laws_eqIntSS.l0]
      refine Ev.pos (by omega) (Ev.pos (by omega) (Ev.pos (by omega) ?_))
      rw [up1 i (by omega)]
      have hr : rd_L1 l (i : Int) = l[i]'(by omega) := by simp [rd_L1, List.getD, List.getElem?_eq_getElem (show i < l.length by omega)]
      rw [hr]
      exact Ev.bnd (laws_eqIntS_refl _ (hx _ (List.getElem_mem _))) (Ev.pos (by first | rfl | trivial) (ih (i + 1) (by omega)))
  exact key l.length 0 (by omega)
theorem spec_l01In_eq (a b c : Int) : spec_l01In.f a b c = some (decide (b ≤ a ∧ a ≤ c)) := by
  unfold spec_l01In.f
  by_cases h : a ≥ b
  · rw [if_pos h]; simp [h]
  · rw [if_neg h]; simp; omega
/-! graphs: lists that ascend -/
def asc (n : Int) : Option Int → List Int → Bool
  | _, [] => true
  | none, v :: l => decide (0 ≤ v ∧ v ≤ n - 1) && asc n (some v) l
  | some p, v :: l => decide (0 ≤ v ∧ v ≤ n - 1) && decide (p < v) && asc n (some v) l
def prevOf (l : List Int) (i : Nat) : Option Int := if i = 0 then none else some (rd l ((i : Int) - 1))
theorem prevOf_succ (l : List Int) (i : Nat) : prevOf l (i + 1) = some (rd l (i : Int)) := by
  unfold prevOf
  rw [if_neg (by omega)]
  congr 2
  omega
theorem asc_step (l : List Int) (n : Int) (i : Nat) (h : i < l.length) : asc n (prevOf l i) (l.drop i) = (decide (0 ≤ rd l (i : Int) ∧ rd l (i : Int) ≤ n - 1) && (decide (i = 0) || decide (rd l ((i : Int) - 1) < rd l (i : Int))) && asc n (prevOf l (i + 1)) (l.drop (i + 1))) := by
  rw [prevOf_succ, drop_rd l i h]
  by_cases h0 : i = 0
  · subst h0
    simp [prevOf, asc]
  · have : prevOf l i = some (rd l ((i : Int) - 1)) := by rw [prevOf, if_neg h0]
    rw [this]
    simp [asc, h0]
def gAll : Nat → List (List Int) → Bool
  | _, [] => true
  | v, r :: ps => decide (r.length ≤ 4) && asc (v : Int) none r && gAll (v + 1) ps
/-- A right graph. -/
def graphOk (ps : List (List Int)) : Bool := decide (ps.length ≤ 40) && gAll 0 ps
theorem rdL_nat (l : List (List Int)) (i : Nat) (h : i < l.length) : rd_L1 l (i : Int) = l[i] := by
  simp [rd_L1, List.getD, List.getElem?_eq_getElem h]
theorem spec_l05Rise_ev (l : List Int) (n : Int) (hl : l.length ≤ 140737488351232) (hn : -4611686018427387904 ≤ n) (hn1 : n ≤ 4611686018427387904) : Ev (fun k => spec_l05Rise.f k l n) (asc n none l) := by
  simp only [spec_l05Rise.f]
  have key : ∀ (m i : Nat), i + m = l.length → Ev (fun k => spec_l05Rise.l0 k l n (i : Int)) (asc n (prevOf l i) (l.drop i)) := by
    intro m
    induction m with
    | zero =>
      intro i hi
      refine Ev.succ ?_
      simp only [spec_l05Rise.l0]
      refine Ev.neg (by omega) (Ev.some_ ?_)
      rw [drop_end l i (by omega)]
      cases prevOf l i <;> rfl
    | succ m ih =>
      intro i hi
      refine Ev.succ ?_
      simp only [spec_l05Rise.l0]
      have ih' := ih (i + 1) (by omega)
      rw [asc_step l n i (by omega)]
      rw [show wrap64 (n - 1) = n - 1 from w64 (by omega) (by omega), up1 i (by omega)]
      refine Ev.pos (by omega) (Ev.pos (by omega) (Ev.bnd0 (spec_l01In_eq _ _ _) ?_))
      by_cases hv : 0 ≤ rd l (i : Int) ∧ rd l (i : Int) ≤ n - 1
      · refine Ev.pos (by simpa using hv) ?_
        by_cases h0 : (i : Int) > 0
        · rw [show wrap64 ((i : Int) - 1) = (i : Int) - 1 from w64 (by omega) (by omega)]
          refine Ev.pos h0 (Ev.pos (by omega) (Ev.pos (by omega) ?_))
          by_cases h1 : rd l ((i : Int) - 1) ≥ rd l (i : Int)
          · refine Ev.pos h1 (Ev.some_ ?_)
            have h2 : ¬ (rd l ((i : Int) - 1) < rd l (i : Int)) := by omega
            have h3 : ¬ (i = 0) := by omega
            simp [h2, h3]
          · refine Ev.neg h1 (Ev_eq ih' ?_)
            have h2 : rd l ((i : Int) - 1) < rd l (i : Int) := by omega
            simp [hv, h2]
        · refine Ev.neg h0 (Ev_eq ih' ?_)
          rw [show decide (0 ≤ rd l (i : Int) ∧ rd l (i : Int) ≤ n - 1) = true from decide_eq_true hv, show decide (i = 0) = true from decide_eq_true (by omega)]
          rfl
      · refine Ev.neg (by simpa using hv) (Ev.some_ ?_)
        rw [show decide (0 ≤ rd l (i : Int) ∧ rd l (i : Int) ≤ n - 1) = false from by simpa using hv]
        rfl
  exact key l.length 0 (by omega)
theorem spec_GraphOk_ev (l : List (List Int)) (hl : l.length ≤ 140737488351232) (hx : ∀ x ∈ l, x.length ≤ 140737488351232) : Ev (fun k => spec_GraphOk.f k l) (graphOk l) := by
  simp only [spec_GraphOk.f]
  by_cases h40 : (l.length : Int) > 40
  · refine Ev.pos h40 (Ev.some_ ?_)
    simp [graphOk]; omega
  refine Ev.neg h40 ?_
  have key : ∀ (m i : Nat), i + m = l.length → Ev (fun k => spec_GraphOk.l0 k l (i : Int)) (gAll i (l.drop i)) := by
    intro m
    induction m with
    | zero =>
      intro i hi
      refine Ev.succ ?_
      simp only [spec_GraphOk.l0]
      refine Ev.neg (by omega) (Ev.some_ ?_)
      rw [drop_end l i (by omega)]
      rfl
    | succ m ih =>
      intro i hi
      refine Ev.succ ?_
      simp only [spec_GraphOk.l0]
      have ih' := ih (i + 1) (by omega)
      have hr := rdL_nat l i (by omega)
      rw [hr, up1 i (by omega), List.drop_eq_getElem_cons (show i < l.length by omega)]
      simp only [gAll]
      refine Ev.pos (by omega) (Ev.pos (by omega) ?_)
      by_cases h4 : ((l[i]'(by omega)).length : Int) > 4
      · refine Ev.pos h4 (Ev.some_ ?_)
        rw [show decide ((l[i]'(by omega)).length ≤ 4) = false from by simp; omega]
        rfl
      · refine Ev.neg h4 (Ev.bnd (spec_l05Rise_ev _ _ (hx _ (List.getElem_mem _)) (by omega) (by omega)) ?_)
        rw [show decide ((l[i]'(by omega)).length ≤ 4) = true from by simp; omega]
        by_cases ha : asc (i : Int) none (l[i]'(by omega)) = true
        · refine Ev.pos ha (Ev_eq ih' ?_)
          rw [ha]; rfl
        · refine Ev.neg ha (Ev.some_ ?_)
          rw [Bool.eq_false_iff.2 ha]; rfl
  refine Ev_eq (key l.length 0 (by omega)) ?_
  simp only [graphOk, List.drop_zero]
  rw [show decide (l.length ≤ 40) = true from by simp; omega]
  rfl
theorem impl_inRange_eq (a b c : Int) : impl_inRange.f a b c = some (decide (b ≤ a ∧ a ≤ c)) := by
  unfold impl_inRange.f
  by_cases h : a ≥ b
  · rw [if_pos h]; simp [h]
  · rw [if_neg h]; simp; omega
theorem impl_ascends_ev (l : List Int) (n : Int) (hl : l.length ≤ 140737488351232) (hn : -4611686018427387904 ≤ n) (hn1 : n ≤ 4611686018427387904) : Ev (fun k => impl_ascends.f k l n) (asc n none l) := by
  simp only [impl_ascends.f]
  have key : ∀ (m i : Nat), i + m = l.length → Ev (fun k => impl_ascends.l0 k l n l (l.length : Int) (i : Int)) (asc n (prevOf l i) (l.drop i)) := by
    intro m
    induction m with
    | zero =>
      intro i hi
      refine Ev.succ ?_
      simp only [impl_ascends.l0]
      refine Ev.neg (by omega) (Ev.some_ ?_)
      rw [drop_end l i (by omega)]
      cases prevOf l i <;> rfl
    | succ m ih =>
      intro i hi
      refine Ev.succ ?_
      simp only [impl_ascends.l0]
      have ih' := ih (i + 1) (by omega)
      rw [asc_step l n i (by omega)]
      rw [show wrap64 (n - 1) = n - 1 from w64 (by omega) (by omega), up1 i (by omega)]
      refine Ev.pos (by omega) (Ev.pos (by omega) (Ev.pos (by omega) (Ev.bnd0 (impl_inRange_eq _ _ _) ?_)))
      by_cases hv : 0 ≤ rd l (i : Int) ∧ rd l (i : Int) ≤ n - 1
      · refine Ev.pos (by simpa using hv) ?_
        by_cases h0 : (i : Int) > 0
        · rw [show wrap64 ((i : Int) - 1) = (i : Int) - 1 from w64 (by omega) (by omega)]
          refine Ev.pos h0 (Ev.pos (by omega) (Ev.pos (by omega) ?_))
          by_cases h1 : rd l (i : Int) ≤ rd l ((i : Int) - 1)
          · refine Ev.pos h1 (Ev.some_ ?_)
            have h2 : ¬ (rd l ((i : Int) - 1) < rd l (i : Int)) := by omega
            have h3 : ¬ (i = 0) := by omega
            simp [h2, h3]
          · refine Ev.neg h1 (Ev_eq ih' ?_)
            have h2 : rd l ((i : Int) - 1) < rd l (i : Int) := by omega
            simp [hv, h2]
        · refine Ev.neg h0 (Ev_eq ih' ?_)
          rw [show decide (0 ≤ rd l (i : Int) ∧ rd l (i : Int) ≤ n - 1) = true from decide_eq_true hv, show decide (i = 0) = true from decide_eq_true (by omega)]
          rfl
      · refine Ev.neg (by simpa using hv) (Ev.some_ ?_)
        rw [show decide (0 ≤ rd l (i : Int) ∧ rd l (i : Int) ≤ n - 1) = false from by simpa using hv]
        rfl
  exact key l.length 0 (by omega)
theorem impl_GraphOk_ev (l : List (List Int)) (hl : l.length ≤ 140737488351232) (hx : ∀ x ∈ l, x.length ≤ 140737488351232) : Ev (fun k => impl_GraphOk.f k l) (graphOk l) := by
  simp only [impl_GraphOk.f]
  have key : ∀ (m i : Nat), i + m = l.length → Ev (fun k => impl_GraphOk.l0 k l l (l.length : Int) (i : Int)) (decide (l.length ≤ 40) && gAll i (l.drop i)) := by
    intro m
    induction m with
    | zero =>
      intro i hi
      refine Ev.succ ?_
      simp only [impl_GraphOk.l0]
      refine Ev.neg (by omega) (Ev.some_ ?_)
      rw [drop_end l i (by omega)]
      simp [gAll]
      omega
    | succ m ih =>
      intro i hi
      refine Ev.succ ?_
      simp only [impl_GraphOk.l0]
      have ih' := ih (i + 1) (by omega)
      have hr := rdL_nat l i (by omega)
      rw [hr, up1 i (by omega), List.drop_eq_getElem_cons (show i < l.length by omega)]
      simp only [gAll]
      refine Ev.pos (by omega) (Ev.pos (by omega) (Ev.pos (by omega) ?_))
      by_cases h4 : ((l[i]'(by omega)).length : Int) > 4
      · refine Ev.pos h4 (Ev.some_ ?_)
        rw [show decide ((l[i]'(by omega)).length ≤ 4) = false from by simp; omega]
        simp
      · refine Ev.neg h4 (Ev.bnd (impl_ascends_ev _ _ (hx _ (List.getElem_mem _)) (by omega) (by omega)) ?_)
        rw [show decide ((l[i]'(by omega)).length ≤ 4) = true from by simp; omega]
        by_cases ha : asc (i : Int) none (l[i]'(by omega)) = true
        · refine Ev.pos ha (Ev_eq ih' ?_)
          rw [ha]; rfl
        · refine Ev.neg ha (Ev.some_ ?_)
          rw [Bool.eq_false_iff.2 ha]
          simp
  exact key l.length 0 (by omega)
theorem laws_markIntS_ev (l : List Int) (m : Int) (hl : l.length ≤ 140737488351232) (hm0 : 0 ≤ m) (hm : m ≤ 140737488351232) : Ev (fun k => laws_markIntS.f k l m) (m + l.length, markL (fun x => x) m l.length) := by
  simp only [laws_markIntS.f]
  have key : ∀ (n i : Nat) (x : List Int) (c : Int), i + n = l.length → x.length = l.length → c = m + i → (∀ j, j < i → x[j]? = (markL (fun x => x) m l.length)[j]?) → Ev (fun k => laws_markIntS.l0 k x c (i : Int)) (m + l.length, markL (fun x => x) m l.length) := by
    intro n
    induction n with
    | zero =>
      intro i x c hi hx hc hj
      refine Ev.succ ?_
      simp only [laws_markIntS.l0]
      refine Ev.neg (by omega) (Ev.some_ ?_)
      have : x = markL (fun x => x) m l.length := by
        apply List.ext_getElem?
        intro j
        by_cases h : j < i
        · exact hj j h
        · rw [List.getElem?_eq_none (by omega), List.getElem?_eq_none (by rw [markL_length]; omega)]
      rw [this, hc, show i = l.length by omega]
    | succ n ih =>
      intro i x c hi hx hc hj
      refine Ev.succ ?_
      simp only [laws_markIntS.l0]
      refine Ev.pos (by omega) (Ev.pos (by omega) ?_)
      have e : wrap64 ((i : Int) + 1) = ((i + 1 : Nat) : Int) := by rw [w64 (by omega) (by omega)]; omega
      have e1 : wrap64 (c + 1) = c + 1 := w64 (by omega) (by omega)
      have e2 : ((i : Int)).toNat = i := by omega
      rw [e, e1, e2]
      refine ih (i + 1) _ _ (by omega) (by rw [List.length_set]; exact hx) (by omega) ?_
      intro j hj'
      by_cases h : j = i
      · subst h
        rw [List.getElem?_set_self (by omega), markL_get _ _ _ _ (by omega), hc]
      · rw [List.getElem?_set_ne (by omega)]
        exact hj j (by omega)
  exact key l.length 0 l m (by omega) rfl (by omega) (fun j h => absurd h (by omega))
theorem laws_heldIntS_ev (m : Int) (n0 : Nat) (hl : n0 ≤ 140737488351232) (hm0 : 0 ≤ m) (hm : m ≤ 140737488351232) : Ev (fun k => laws_heldIntS.f k (markL (fun x => x) m n0) m) (m + n0) := by
  simp only [laws_heldIntS.f]
  have key : ∀ (n i : Nat) (c : Int), i + n = n0 → c = m + i → Ev (fun k => laws_heldIntS.l0 k (markL (fun x => x) m n0) c (i : Int)) (m + n0) := by
    intro n
    induction n with
    | zero =>
      intro i c hi hc
      refine Ev.succ ?_
      simp only [laws_heldIntS.l0]
      exact Ev.neg (by rw [markL_length]; omega) (Ev.some_ (by omega))
    | succ n ih =>
      intro i c hi hc
      refine Ev.succ ?_
      simp only [laws_heldIntS.l0]
      have e : wrap64 ((i : Int) + 1) = ((i + 1 : Nat) : Int) := by rw [w64 (by omega) (by omega)]; omega
      have e1 : wrap64 (c + 1) = c + 1 := w64 (by omega) (by omega)
      rw [e, e1]
      refine Ev.pos (by rw [markL_length]; omega) (Ev.pos (by omega) (Ev.pos ?_ (ih (i + 1) _ (by omega) (by omega))))
      have := markL_get (fun x => x) m n0 i (by omega)
      have e3 : ((i : Int)).toNat = i := by omega
      simp only [rd, List.getD, e3, this, Option.getD_some, hc]
  exact key n0 0 m (by omega) (by omega)
theorem sumN_bound : ∀ (l : List (List Int)), (∀ x ∈ l, x.length ≤ 1048576) → Go.Proofs.YtgaidbbfimdogaaH.sumN (l.map List.length) ≤ l.length * 1048576
  | [], _ => by simp [Go.Proofs.YtgaidbbfimdogaaH.sumN]
  | x :: l, h => by
    have h1 := h x (by simp)
    have h2 := sumN_bound l (fun y hy => h y (List.mem_cons_of_mem _ hy))
    simp only [List.map_cons, Go.Proofs.YtgaidbbfimdogaaH.sumN, List.length_cons]
    omega
theorem laws_markIntSS_eq (l : List (List Int)) (m : Int) (hm0 : 0 ≤ m) (hm : m ≤ 1152921504606846976) (hl : l.length ≤ 1048576) (hx : ∀ x ∈ l, x.length ≤ 1048576) : ∃ r, laws_markIntSS.f l m = some r ∧ m ≤ r ∧ r ≤ m + 1099511627776 := by
  have h := sumN_bound l hx
  refine ⟨m + Go.Proofs.YtgaidbbfimdogaaH.sumN (l.map List.length), ?_, by omega, by omega⟩
  unfold laws_markIntSS.f
  rw [if_pos ⟨hm0, by omega⟩]
/-! ancestors -/
def row (ps : List (List Int)) (v : Nat) : List Int := ps.getD v []
/-- u is v, or an ancestor of it. -/
inductive Anc (ps : List (List Int)) : Nat → Nat → Prop
  | refl (v : Nat) : Anc ps v v
  | step {v p u : Nat} : (p : Int) ∈ row ps v → Anc ps p u → Anc ps v u
/-- Parents are smaller, and there. -/
def Down (ps : List (List Int)) : Prop := ∀ v, v < ps.length → ∀ p ∈ row ps v, 0 ≤ p ∧ p < (v : Int)
theorem asc_bound : ∀ (l : List Int) (n : Int) (o : Option Int), asc n o l = true → ∀ p ∈ l, 0 ≤ p ∧ p ≤ n - 1
  | [], _, _, _ => by simp
  | x :: l, n, o, h => by
    intro p hp
    have hx : 0 ≤ x ∧ x ≤ n - 1 := by
      cases o <;> simp [asc] at h <;> omega
    have hl : asc n (some x) l = true := by
      cases o <;> simp [asc] at h
      · exact h.2
      · exact h.2
    rcases List.mem_cons.1 hp with rfl | hp
    · exact hx
    · exact asc_bound l n (some x) hl p hp
theorem gAll_get : ∀ (ps : List (List Int)) (v : Nat), gAll v ps = true → ∀ i (h : i < ps.length), (ps[i]).length ≤ 4 ∧ asc ((v + i : Nat) : Int) none ps[i] = true
  | r :: ps, v, h, 0, _ => by
    simp [gAll] at h
    simpa using h.1
  | r :: ps, v, h, i + 1, hi => by
    have h2 : gAll (v + 1) ps = true := by
      simp [gAll] at h
      exact h.2
    have := gAll_get ps (v + 1) h2 i (by simpa using hi)
    have e : v + 1 + i = v + (i + 1) := by omega
    rw [e] at this
    simpa using this
theorem row_get (ps : List (List Int)) (v : Nat) (h : v < ps.length) : row ps v = ps[v] := by
  simp [row, List.getD, List.getElem?_eq_getElem h]
theorem graphOk_down {ps : List (List Int)} (h : graphOk ps = true) : Down ps := by
  intro v hv p hp
  simp only [graphOk, Bool.and_eq_true, decide_eq_true_eq] at h
  have := (gAll_get ps 0 h.2 v hv).2
  rw [row_get ps v hv] at hp
  have := asc_bound _ _ _ this p hp
  omega
theorem graphOk_len {ps : List (List Int)} (h : graphOk ps = true) : ps.length ≤ 40 := by
  simp only [graphOk, Bool.and_eq_true, decide_eq_true_eq] at h
  exact h.1
theorem Anc.le {ps : List (List Int)} (hd : Down ps) {v u : Nat} (h : Anc ps v u) : v < ps.length → u ≤ v := by
  induction h with
  | refl => intro _; exact Nat.le_refl _
  | step hp _ ih =>
    intro hv
    have := hd _ hv _ hp
    have := ih (by omega)
    omega
/-! impl.setOf: the numbers of a list below 64, as bits -/
def setStep (s : Nat) (v : Int) : Nat := if 0 ≤ v ∧ v ≤ 63 then s ||| 2 ^ v.toNat else s
def setN (l : List Int) : Nat := l.foldl setStep 0
theorem setStep_lt {s : Nat} (v : Int) (h : s < 2 ^ 64) : setStep s v < 2 ^ 64 := by
  unfold setStep
  split
  · exact or_lt h (two_pow_lt (by omega))
  · exact h
theorem setFold_lt : ∀ (l : List Int) (s : Nat), s < 2 ^ 64 → l.foldl setStep s < 2 ^ 64
  | [], _, h => h
  | v :: l, _, h => setFold_lt l _ (setStep_lt v h)
theorem setN_lt (l : List Int) : setN l < 2 ^ 64 := setFold_lt l 0 (by decide)
theorem impl_setOf_l0 (l : List Int) (hl : l.length ≤ 140737488351232) : ∀ (n i s : Nat), i + n = l.length → s < 2 ^ 64 → Ev (fun k => impl_setOf.l0 k (s : Int) l (l.length : Int) (i : Int)) (((l.drop i).foldl setStep s : Nat) : Int) := by
  intro n
  induction n with
  | zero =>
    intro i s hi hs
    refine Ev.succ ?_
    simp only [impl_setOf.l0]
    have e : l.drop i = [] := List.drop_eq_nil_iff.2 (by omega)
    exact Ev.neg (by omega) (Ev.some_ (by rw [e]; rfl))
  | succ n ih =>
    intro i s hi hs
    refine Ev.succ ?_
    simp only [impl_setOf.l0]
    have hd := drop_rd l i (by omega)
    refine Ev.pos (by omega) (Ev.pos (by omega) (Ev.pos (by omega) (Ev.bnd0 (impl_inRange_eq _ _ _) ?_)))
    rw [show wrap64 ((i : Int) + 1) = ((i + 1 : Nat) : Int) from by rw [w64 (by omega) (by omega)]; omega, hd, List.foldl_cons]
    by_cases hv : 0 ≤ rd l (i : Int) ∧ rd l (i : Int) ≤ 63
    · refine Ev.pos (by simpa using hv) ?_
      obtain ⟨v, hv'⟩ := Int.eq_ofNat_of_zero_le hv.1
      rw [hv'] at hv ⊢
      rw [wrapu64 _ (by omega) (by omega), shl64_one v (by omega), or64 _ _ hs (two_pow_lt (by omega))]
      refine Ev.pos (by omega) ?_
      have hst : setStep s (v : Int) = s ||| 2 ^ v := by rw [setStep, if_pos hv]; rfl
      rw [hst]
      exact ih (i + 1) _ (by omega) (or_lt hs (two_pow_lt (by omega)))
    · refine Ev.neg (by simpa using hv) ?_
      have hst : setStep s (rd l (i : Int)) = s := by rw [setStep, if_neg hv]
      rw [hst]
      exact ih (i + 1) _ (by omega) hs
theorem impl_setOf_ev (l : List Int) (hl : l.length ≤ 140737488351232) : Ev (fun k => impl_setOf.f k l) (setN l : Int) := by
  simp only [impl_setOf.f]
  exact impl_setOf_l0 l hl l.length 0 0 (by omega) (by decide)
theorem impl_set_has_eq (c : Nat) (hc : c < 2 ^ 64) (u : Int) : impl_set_has.f (c : Int) u = some (decide (0 ≤ u ∧ u ≤ 63) && c.testBit u.toNat) := by
  simp only [impl_set_has.f]
  rw [impl_inRange_eq]
  simp only [Option.bind_some]
  by_cases h : 0 ≤ u ∧ u ≤ 63
  · rw [if_pos (by simpa using h), wrapu64 _ (by omega) (by omega), if_pos (by omega)]
    obtain ⟨v, rfl⟩ := Int.eq_ofNat_of_zero_le h.1
    congr 1
    have e : shr .u64 (c : Int) (v : Int) = ((c / 2 ^ v : Nat) : Int) := by
      unfold shr
      have e : min ((v : Int)).toNat IntKind.u64.bits = v := by simp [IntKind.bits]; omega
      rw [e]
      simp
    rw [e]
    have hlt : c / 2 ^ v < 2 ^ 64 := Nat.lt_of_le_of_lt (Nat.div_le_self _ _) hc
    have := and64 (c / 2 ^ v) 1 hlt (by decide)
    rw [show ((1 : Nat) : Int) = 1 from rfl] at this
    rw [this, Nat.and_one_is_mod]
    rw [show decide (0 ≤ (v : Int) ∧ (v : Int) ≤ 63) = true from decide_eq_true h, Bool.true_and, Int.toNat_natCast, Nat.testBit_eq_decide_div_mod_eq]
    by_cases hm : c / 2 ^ v % 2 = 1
    · simp [hm]
    · have : c / 2 ^ v % 2 = 0 := by omega
      simp [this]
  · rw [if_neg (by simpa using h)]
    rw [show decide (0 ≤ u ∧ u ≤ 63) = false from by simpa using h]
    rfl
/-! versions that are nobody's parents -/
def usedBy (ps : List (List Int)) (v : Nat) : Bool := ps.any fun r => r.contains (v : Int)
def tipsL (ps : List (List Int)) : Nat → Nat → List Int → List Int
  | 0, _, acc => acc
  | n + 1, v, acc => tipsL ps n (v + 1) (if usedBy ps v = true then acc else acc ++ [(v : Int)])
def tipsR (ps : List (List Int)) : List Int := if graphOk ps = true then tipsL ps ps.length 0 [] else []
theorem tipsL_length (ps : List (List Int)) : ∀ (n v : Nat) (acc : List Int), (tipsL ps n v acc).length ≤ acc.length + n
  | 0, _, acc => by simp [tipsL]
  | n + 1, v, acc => by
    have := tipsL_length ps n (v + 1) (if usedBy ps v = true then acc else acc ++ [(v : Int)])
    rw [tipsL]
    split at this <;> (rename_i h; simp only [h, if_true, if_false, Bool.false_eq_true] at *; simp at this ⊢; omega)
theorem tipsR_length (ps : List (List Int)) : (tipsR ps).length ≤ 40 := by
  unfold tipsR
  split
  · have := tipsL_length ps ps.length 0 []
    have := graphOk_len (by assumption : graphOk ps = true)
    simp at *
    omega
  · simp
theorem row_le4 {ps : List (List Int)} (hg : graphOk ps = true) (i : Nat) (hi : i < ps.length) : (ps[i]).length ≤ 4 := by
  simp only [graphOk, Bool.and_eq_true, decide_eq_true_eq] at hg
  exact (gAll_get ps 0 hg.2 i hi).1
section
variable (ps : List (List Int)) (hg : graphOk ps = true)
include hg
theorem spec_Tips_l2 (acc : List Int) (v k : Nat) (hk : k < ps.length) (R : Bool → List Int) (ih : ∀ f, Ev (fun q => spec_Tips.l1 q ps acc (v : Int) f ((k + 1 : Nat) : Int)) (R f)) :
    ∀ (m j : Nat) (f : Bool), j + m = (ps[k]).length → Ev (fun q => spec_Tips.l2 q ps acc (v : Int) f (k : Int) (j : Int)) (R (f && !((ps[k]).drop j).contains (v : Int))) := by
  have hl := graphOk_len hg
  have h4 := row_le4 hg k hk
  intro m
  induction m with
  | zero =>
    intro j f hj
    refine Ev.succ ?_
    simp only [spec_Tips.l2]
    rw [rdL_nat ps k hk, drop_end _ j (by omega), up1 k (by omega)]
    refine Ev.pos (by omega) (Ev.pos (by omega) (Ev.neg (by omega) ?_))
    simpa using ih f
  | succ m IH =>
    intro j f hj
    have hrd : rd ps[k] (j : Int) = (ps[k])[j]'(by omega) := rd_nat _ _ _
    refine Ev.succ ?_
    simp only [spec_Tips.l2]
    rw [rdL_nat ps k hk, up1 j (by omega), hrd]
    refine Ev.pos (by omega) (Ev.pos (by omega) (Ev.pos (by omega) ?_))
    rw [List.drop_eq_getElem_cons (show j < (ps[k]).length by omega), List.contains_cons]
    cases f with
    | true =>
      refine Ev.pos rfl (Ev.pos (by omega) ?_)
      refine Ev_eq (IH (j + 1) _ (by omega)) ?_
      congr 1
      rw [Bool.true_and, Bool.not_or]
      congr 1
      simp only [bne]
      congr 1
      rw [Bool.eq_iff_iff, beq_iff_eq, beq_iff_eq]
      exact eq_comm
    | false =>
      refine Ev.neg (by simp) ?_
      exact Ev_eq (IH (j + 1) false (by omega)) rfl
theorem spec_Tips_l1 (acc : List Int) (v : Nat) (hv : acc.length ≤ 40) (Rt Rf : List Int) (it : Ev (fun q => spec_Tips.l0 q ps (acc ++ [(v : Int)]) ((v + 1 : Nat) : Int)) Rt) (if_ : Ev (fun q => spec_Tips.l0 q ps acc ((v + 1 : Nat) : Int)) Rf) (hvn : v < 1000) :
    ∀ (m k : Nat) (f : Bool), k + m = ps.length → Ev (fun q => spec_Tips.l1 q ps acc (v : Int) f (k : Int)) (if (f && !usedBy (ps.drop k) v) = true then Rt else Rf) := by
  have hl := graphOk_len hg
  intro m
  induction m with
  | zero =>
    intro k f hk
    refine Ev.succ ?_
    simp only [spec_Tips.l1]
    rw [drop_end ps k (by omega), up1 v (by omega)]
    refine Ev.neg (by omega) ?_
    cases f with
    | true => exact Ev.pos rfl (Ev.pos (by omega) (by simpa [usedBy] using it))
    | false => exact Ev.neg (by simp) (by simpa [usedBy] using if_)
  | succ m IH =>
    intro k f hk
    refine Ev.succ ?_
    simp only [spec_Tips.l1]
    refine Ev.pos (by omega) ?_
    have := spec_Tips_l2 ps hg acc v k (by omega) (fun f => if (f && !usedBy (ps.drop (k + 1)) v) = true then Rt else Rf) (fun f => IH (k + 1) f (by omega)) (ps[k]'(by omega)).length 0 f (by omega)
    refine Ev_eq this ?_
    rw [List.drop_zero, List.drop_eq_getElem_cons (show k < ps.length by omega)]
    simp only [usedBy, List.any_cons, Bool.not_or, Bool.and_assoc]
theorem spec_Tips_l0 : ∀ (m v : Nat) (acc : List Int), v + m = ps.length → acc.length ≤ v → Ev (fun q => spec_Tips.l0 q ps acc (v : Int)) (tipsL ps m v acc) := by
  have hl := graphOk_len hg
  intro m
  induction m with
  | zero =>
    intro v acc hv ha
    refine Ev.succ ?_
    simp only [spec_Tips.l0]
    exact Ev.neg (by omega) (Ev.now _)
  | succ m IH =>
    intro v acc hv ha
    refine Ev.succ ?_
    simp only [spec_Tips.l0]
    refine Ev.pos (by omega) ?_
    have := spec_Tips_l1 ps hg acc v (by omega) _ _ (IH (v + 1) (acc ++ [(v : Int)]) (by omega) (by simp; omega)) (IH (v + 1) acc (by omega) (by omega)) (by omega) ps.length 0 true (by omega)
    refine Ev_eq this ?_
    rw [List.drop_zero, tipsL]
    cases usedBy ps v <;> rfl
omit hg in
theorem setN_bit : ∀ (l : List Int) (s u : Nat), (l.foldl setStep s).testBit u = true ↔ (s.testBit u = true ∨ (u ≤ 63 ∧ (u : Int) ∈ l))
  | [], s, u => by simp
  | v :: l, s, u => by
    rw [List.foldl_cons, setN_bit l (setStep s v) u]
    unfold setStep
    split
    · rename_i h
      obtain ⟨w, rfl⟩ := Int.eq_ofNat_of_zero_le h.1
      rw [Nat.testBit_or, Int.toNat_natCast, Nat.testBit_two_pow]
      simp only [Bool.or_eq_true, decide_eq_true_eq, List.mem_cons]
      constructor
      · rintro ((h1 | h1) | ⟨h1, h2⟩)
        · exact .inl h1
        · exact .inr ⟨by omega, .inl (by omega)⟩
        · exact .inr ⟨h1, .inr h2⟩
      · rintro (h1 | ⟨h1, h2 | h2⟩)
        · exact .inl (.inl h1)
        · exact .inl (.inr (by omega))
        · exact .inr ⟨h1, h2⟩
    · rename_i h
      simp only [List.mem_cons]
      constructor
      · rintro (h1 | ⟨h1, h2⟩)
        · exact .inl h1
        · exact .inr ⟨h1, .inr h2⟩
      · rintro (h1 | ⟨h1, h2 | h2⟩)
        · exact .inl h1
        · exact absurd ⟨by omega, by omega⟩ h
        · exact .inr ⟨h1, h2⟩
theorem impl_Tips_l1 (s : Nat) (hs : s < 2 ^ 64) (hb : ∀ u : Nat, u < ps.length → (s.testBit u = true ↔ usedBy ps u = true)) : ∀ (m v : Nat) (acc : List Int), v + m = ps.length → acc.length ≤ v → Ev (fun q => impl_Tips.l1 q (s : Int) acc (ps.length : Int) (v : Int)) (tipsL ps m v acc) := by
  have hl := graphOk_len hg
  intro m
  induction m with
  | zero =>
    intro v acc hv ha
    refine Ev.succ ?_
    simp only [impl_Tips.l1]
    exact Ev.neg (by omega) (Ev.now _)
  | succ m IH =>
    intro v acc hv ha
    have e : (decide ((0 : Int) ≤ (v : Int) ∧ (v : Int) ≤ 63) && s.testBit ((v : Int)).toNat) = usedBy ps v := by
      rw [decide_eq_true (⟨by omega, by omega⟩ : (0 : Int) ≤ (v : Int) ∧ (v : Int) ≤ 63), Bool.true_and, Int.toNat_natCast, Bool.eq_iff_iff]
      exact hb v (by omega)
    refine Ev.succ ?_
    simp only [impl_Tips.l1]
    refine Ev.pos (by omega) (Ev.bnd0 (impl_set_has_eq s hs _) ?_)
    rw [e, up1 v (by omega), tipsL]
    by_cases h : usedBy ps v = true
    · rw [if_pos h]
      exact Ev.pos h (IH (v + 1) acc (by omega) (by omega))
    · rw [if_neg h]
      exact Ev.neg h (Ev.pos (by omega) (IH (v + 1) _ (by omega) (by simp; omega)))
theorem impl_Tips_l0 : ∀ (m i s : Nat), i + m = ps.length → s < 2 ^ 64 → (∀ u : Nat, u < ps.length → (s.testBit u = true ↔ usedBy (ps.take i) u = true)) → Ev (fun q => impl_Tips.l0 q ps (s : Int) ps (ps.length : Int) (i : Int)) (tipsL ps ps.length 0 []) := by
  have hl := graphOk_len hg
  intro m
  induction m with
  | zero =>
    intro i s hi hs hb
    refine Ev.succ ?_
    simp only [impl_Tips.l0]
    refine Ev.neg (by omega) ?_
    rw [List.take_of_length_le (by omega)] at hb
    exact impl_Tips_l1 ps hg s hs hb ps.length 0 [] (by omega) (by simp)
  | succ m IH =>
    intro i s hi hs hb
    have h4 := row_le4 hg i (by omega)
    refine Ev.succ ?_
    simp only [impl_Tips.l0]
    rw [rdL_nat ps i (by omega)]
    refine Ev.pos (by omega) (Ev.pos (by omega) (Ev.pos (by omega) (Ev.bnd (impl_setOf_ev _ (by omega)) ?_)))
    rw [or64 _ _ hs (setN_lt _), up1 i (by omega)]
    refine IH (i + 1) _ (by omega) (or_lt hs (setN_lt _)) (fun u hu => ?_)
    rw [Nat.testBit_or, List.take_succ_eq_append_getElem (by omega)]
    simp only [usedBy, List.any_append, List.any_cons, List.any_nil, Bool.or_false, Bool.or_eq_true, List.contains_iff_mem]
    have h1 := hb u hu
    have h2 := setN_bit (ps[i]'(by omega)) 0 u
    unfold setN
    simp only [usedBy] at h1
    rw [h1, h2]
    simp only [Nat.zero_testBit, Bool.false_eq_true, false_or]
    constructor
    · rintro (h | ⟨_, h⟩)
      · exact .inl h
      · exact .inr h
    · rintro (h | h)
      · exact .inl h
      · exact .inr ⟨by omega, h⟩
end
theorem spec_Tips_ev (ps : List (List Int)) (hl : ps.length ≤ 140737488351232) (hx : ∀ x ∈ ps, x.length ≤ 140737488351232) : Ev (fun k => spec_Tips.f k ps) (tipsR ps) := by
  simp only [spec_Tips.f, Option.bind_some]
  unfold tipsR
  refine Ev.bnd (spec_GraphOk_ev ps hl hx) ?_
  by_cases hg : graphOk ps = true
  · rw [if_pos hg]
    exact Ev.pos hg (spec_Tips_l0 ps hg ps.length 0 [] (by omega) (by simp))
  · rw [if_neg hg]
    exact Ev.neg hg (Ev.now _)
theorem impl_Tips_ev (ps : List (List Int)) (hl : ps.length ≤ 140737488351232) (hx : ∀ x ∈ ps, x.length ≤ 140737488351232) : Ev (fun k => impl_Tips.f k ps) (tipsR ps) := by
  simp only [impl_Tips.f]
  unfold tipsR
  refine Ev.bnd (impl_GraphOk_ev ps hl hx) ?_
  by_cases hg : graphOk ps = true
  · rw [if_pos hg]
    exact Ev.pos hg (impl_Tips_l0 ps hg ps.length 0 0 (by omega) (by decide) (fun u _ => by simp [usedBy]))
  · rw [if_neg hg]
    exact Ev.neg hg (Ev.now _)
theorem FnExactTips : laws_FnExactTips.Pure := by
  intro l hl
  refine Ev.rounds (r := true) ?_
  simp only [laws_FnExactTips.f]
  have hx : ∀ x ∈ l, x.length ≤ 140737488351232 := fun x hx => by have := (hl.2 x hx).1; omega
  obtain ⟨r, hr, hp⟩ := laws_szIntSS_ev l 1048576 (by omega) (by omega) (by omega) hx
  refine Ev.bnd hr ?_
  by_cases h : r < 0
  · exact Ev.pos h (Ev.now _)
  obtain ⟨p1, p2⟩ := hp (by omega)
  have h1 : l.length ≤ 11728124029610 := by omega
  have h2 : ∀ x ∈ l, x.length ≤ 35184372088832 := fun x hx => by have := p2 x hx; omega
  have hg := tipsR_length l
  obtain ⟨q, hq, hq1, hq2⟩ := laws_markIntSS_eq l 1 (by omega) (by omega) (by omega) (fun x hx => by have := p2 x hx; omega)
  refine Ev.neg h (Ev.bnd (laws_toIntSS_ev l h1 h2) (Ev.bnd (spec_Tips_ev l (by omega) hx) (Ev.bnd (laws_toIntSS_ev l h1 h2) (Ev.bnd (impl_Tips_ev l (by omega) hx) (Ev.bnd (laws_eqIntS_refl _ (by omega)) (Ev.pos rfl (Ev.bnd (laws_toIntSS_ev l h1 h2) (Ev.bnd (laws_eqIntSS_refl l (by omega) hx) (Ev.pos rfl (Ev.bnd0 hq (Ev.neg (by omega) (Ev.bnd (laws_eqIntS_refl _ (by omega)) (Ev.succ ?_)))))))))))))
  simp only [laws_FnExactTips.j0]
  exact Ev.neg (by simp) (Ev.bnd (laws_markIntS_ev _ 1 (by omega) (by omega) (by omega)) (Ev.bnd (laws_heldIntS_ev 1 _ (by omega) (by omega) (by omega)) (Ev.neg (by omega) (Ev.pos (by first | rfl | trivial) (Ev.bnd (laws_toIntSS_ev l h1 h2) (Ev.bnd (impl_Tips_ev l (by omega) hx) (Ev.bnd (laws_eqIntS_refl _ (by omega)) (Ev.pos rfl (Ev.bnd (laws_heldIntS_ev 1 _ (by omega) (by omega) (by omega)) (Ev.neg (by omega) (Ev.pos (by first | rfl | trivial) (Ev.now _))))))))))))

end Go.Proofs.Ytgaidbbfimdogaa.Pure
