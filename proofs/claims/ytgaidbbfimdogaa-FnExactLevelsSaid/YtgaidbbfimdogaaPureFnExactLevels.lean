/- The program's Levels returns what the reference's returns, for every graph that the row reads; the graph is left as it was, and the answer shares nothing with what came in or is told later. -/
import Derived.Test.YtgaidbbfimdogaaPFnExactLevelsx4
import Derived.Test.YtgaidbbfimdogaaGen
namespace Go.Proofs.Ytgaidbbfimdogaa.Pure
open Go.RowKit Go.Proofs.Ytgaidbbfimdogaa.PFnExactLevels Go.Proofs.YtgaidbbfimdogaaW.PrintWords Go.Proofs.YtgaidbbfimdogaaW.PrintLast Go.Proofs.YtgaidbbfimdogaaG

theorem laws_szIntSS_ev (l : List (List Int)) (m : Int) (hm0 : 0 ≤ m) (hm : m ≤ 140737488351232) (hl : l.length ≤ 140737488351232) (hx : ∀ x ∈ l, x.length ≤ 140737488351232) : ∃ r, Ev (fun k => laws_szIntSS.f k l m) r ∧ (0 ≤ r → (l.length : Int) + r ≤ m ∧ ∀ x ∈ l, ((x.length : Nat) : Int) ≤ m) := by
  have key : ∀ (n i : Nat) (c : Int), i + n = l.length → 0 ≤ c → c ≤ 140737488351232 → ∃ r, Ev (fun k => laws_szIntSS.l0 k l c (i : Int)) r ∧ (0 ≤ r → r ≤ c ∧ ∀ x ∈ l.drop i, ((x.length : Nat) : Int) ≤ c) := by
    intro n
    induction n with
    | zero =>
      intro i c hi hc0 hc
      refine ⟨c, Ev.succ ?_, fun _ => ⟨Int.le_refl _, ?_⟩⟩
      · simp only [laws_szIntSS.l0]
        exact Ev.neg (by omega) (Ev.now _)
      · rw [drop_end l i (by omega)]
        simp
    | succ n ih =>
      intro i c hi hc0 hc
      have hr : rd_L1 l (i : Int) = l[i]'(by omega) := by simp [rd_L1, List.getD, List.getElem?_eq_getElem (show i < l.length by omega)]
      have hs := hx _ (List.getElem_mem (show i < l.length by omega))
      have hd : l.drop i = l[i]'(by omega) :: l.drop (i + 1) := List.drop_eq_getElem_cons (by omega)
      have hw : wrap64 (c - (((rd_L1 l (i : Int)).length : Nat) : Int)) = c - (((l[i]'(by omega)).length : Nat) : Int) := by rw [hr]; exact w64 (by omega) (by omega)
      by_cases h : c - (((l[i]'(by omega)).length : Nat) : Int) < 0
      · refine ⟨-1, Ev.succ ?_, fun h => absurd h (by omega)⟩
        simp only [laws_szIntSS.l0]
        exact Ev.pos (by omega) (Ev.pos (by omega) (Ev.bnd0 (a := -1) (by simp only [laws_szIntS.f]; rw [if_pos (by rw [hw]; exact h)]) (Ev.pos (by omega) (Ev.now _))))
      · obtain ⟨r, hev, hp⟩ := ih (i + 1) (c - (((l[i]'(by omega)).length : Nat) : Int)) (by omega) (by omega) (by omega)
        refine ⟨r, Ev.succ ?_, fun h0 => ?_⟩
        · simp only [laws_szIntSS.l0]
          refine Ev.pos (by omega) (Ev.pos (by omega) (Ev.bnd0 (a := c - (((l[i]'(by omega)).length : Nat) : Int)) (by simp only [laws_szIntS.f]; rw [if_neg (by rw [hw]; exact h), hw]) (Ev.neg h ?_)))
          rw [up1 i (by omega)]
          exact hev
        · obtain ⟨p1, p2⟩ := hp h0
          refine ⟨by omega, fun x hx => ?_⟩
          rw [hd] at hx
          rcases List.mem_cons.1 hx with rfl | hx
          · omega
          · have := p2 x hx
            omega
  simp only [laws_szIntSS.f]
  by_cases h : wrap64 (m - (l.length : Int)) < 0
  · exact ⟨-1, Ev.pos h (Ev.now _), fun h => absurd h (by omega)⟩
  · have h1 : ¬ (m - (l.length : Int) < 0) := by rw [w64 (by omega) (by omega)] at h; exact h
    obtain ⟨r, hr, hp⟩ := key l.length 0 (m - (l.length : Int)) (by omega) (by omega) (by omega)
    refine ⟨r, Ev.neg h ?_, fun h0 => ?_⟩
    · rw [w64 (by omega) (by omega)]
      exact hr
    · obtain ⟨p1, p2⟩ := hp h0
      refine ⟨by omega, fun x hx => ?_⟩
      have := p2 x (by simpa using hx)
      omega
theorem laws_toIntS_l0 (l : List Int) (hl : l.length ≤ 140737488351232) : ∀ (n i : Nat) (x : List Int), i + n = l.length → x.length = l.length → (∀ j, j < i → x[j]? = l[j]?) → Ev (fun k => laws_toIntS.l0 k l x (i : Int)) l := by
  intro n
  induction n with
  | zero =>
    intro i x hi hx hj
    refine Ev.succ ?_
    simp only [laws_toIntS.l0]
    refine Ev.neg (by omega) (Ev.some_ ?_)
    apply List.ext_getElem?
    intro j
    by_cases h : j < i
    · exact hj j h
    · rw [List.getElem?_eq_none (by omega), List.getElem?_eq_none (by omega)]
  | succ n ih =>
    intro i x hi hx hj
    refine Ev.succ ?_
    simp only [laws_toIntS.l0]
    refine Ev.pos (by omega) (Ev.pos (by omega) (Ev.pos (by omega) ?_))
    have e : wrap64 ((i : Int) + 1) = ((i + 1 : Nat) : Int) := by rw [w64 (by omega) (by omega)]; omega
    have e2 : ((i : Int)).toNat = i := by omega
    rw [e, e2]
    refine ih (i + 1) _ (by omega) (by rw [List.length_set]; exact hx) ?_
    intro j hj'
    by_cases h : j = i
    · subst h
      rw [List.getElem?_set_self (by omega)]
      simp [rd, List.getD, List.getElem?_eq_getElem (show j < l.length by omega)]
    · rw [List.getElem?_set_ne (by omega)]
      exact hj j (by omega)
theorem laws_toIntS_ev (l : List Int) (hl : l.length ≤ 35184372088832) : Ev (fun k => laws_toIntS.f k l) l := by
  simp only [laws_toIntS.f]
  refine Ev.pos (by omega) (Ev.pos (by omega) ?_)
  exact laws_toIntS_l0 l (by omega) l.length 0 _ (by omega) (by simp) (fun j h => absurd h (by omega))

theorem laws_toIntSS_ev (l : List (List Int)) (hl : l.length ≤ 11728124029610) (hx : ∀ x ∈ l, x.length ≤ 35184372088832) : Ev (fun k => laws_toIntSS.f k l) l := by
  simp only [laws_toIntSS.f]
  refine Ev.pos (by omega) (Ev.pos (by omega) ?_)
  have key : ∀ (n i : Nat) (x : List (List Int)), i + n = l.length → x.length = l.length → (∀ j, j < i → x[j]? = l[j]?) → Ev (fun k => laws_toIntSS.l0 k l x (i : Int)) l := by
    intro n
    induction n with
    | zero =>
      intro i x hi hx hj
      refine Ev.succ ?_
      simp only [laws_toIntSS.l0]
      refine Ev.neg (by omega) (Ev.some_ ?_)
      apply List.ext_getElem?
      intro j
      by_cases h : j < i
      · exact hj j h
      · rw [List.getElem?_eq_none (by omega), List.getElem?_eq_none (by omega)]
    | succ n ih =>
      intro i x hi hx' hj
      refine Ev.succ ?_
      simp only [laws_toIntSS.l0]
      have hr : rd_L1 l (i : Int) = l[i]'(by omega) := by simp [rd_L1, List.getD, List.getElem?_eq_getElem (show i < l.length by omega)]
      refine Ev.pos (by omega) (Ev.pos (by omega) ?_)
      rw [up1 i (by omega), hr]
      refine Ev.bnd (laws_toIntS_ev _ (hx _ (List.getElem_mem _))) (Ev.pos (by omega) ?_)
      have e2 : ((i : Int)).toNat = i := by omega
      rw [e2]
      refine ih (i + 1) _ (by omega) (by rw [List.length_set]; exact hx') ?_
      intro j hj'
      by_cases h : j = i
      · subst h
        rw [List.getElem?_set_self (by omega), List.getElem?_eq_getElem (by omega)]
      · rw [List.getElem?_set_ne (by omega)]
        exact hj j (by omega)
  exact key l.length 0 _ (by omega) (by simp) (fun j h => absurd h (by omega))
theorem laws_eqIntS_refl (l : List Int) (hl : l.length ≤ 140737488351232) : Ev (fun k => laws_eqIntS.f k l l) true := by
  simp only [laws_eqIntS.f]
  refine Ev.pos (by first | rfl | trivial) ?_
  have key : ∀ (n i : Nat), i + n = l.length → Ev (fun k => laws_eqIntS.l0 k l l (i : Int)) true := by
    intro n
    induction n with
    | zero =>
      intro i hi
      refine Ev.succ ?_
      simp only [laws_eqIntS.l0]
      exact Ev.neg (by omega) (Ev.now _)
    | succ n ih =>
      intro i hi
      refine Ev.succ ?_
      simp only [laws_eqIntS.l0]
      have e : wrap64 ((i : Int) + 1) = ((i + 1 : Nat) : Int) := by rw [w64 (by omega) (by omega)]; omega
      rw [e]
      exact Ev.pos (by omega) (Ev.pos (by omega) (Ev.pos (by omega) (Ev.pos (by first | rfl | trivial) (ih (i + 1) (by omega)))))
  exact key l.length 0 (by omega)

theorem laws_eqIntSS_refl (l : List (List Int)) (hl : l.length ≤ 140737488351232) (hx : ∀ x ∈ l, x.length ≤ 140737488351232) : Ev (fun k => laws_eqIntSS.f k l l) true := by
  simp only [laws_eqIntSS.f]
  refine Ev.pos (by first | rfl | trivial) ?_
  have key : ∀ (n i : Nat), i + n = l.length → Ev (fun k => laws_eqIntSS.l0 k l l (i : Int)) true := by
    intro n
    induction n with
    | zero =>
      intro i hi
      refine Ev.succ ?_
      simp only [laws_eqIntSS.l0]
      exact Ev.neg (by omega) (Ev.now _)
    | succ n ih =>
      intro i hi
      refine Ev.succ ?_
      simp only [laws_eqIntSS.l0]
      refine Ev.pos (by omega) (Ev.pos (by omega) (Ev.pos (by omega) ?_))
      rw [up1 i (by omega)]
      have hr : rd_L1 l (i : Int) = l[i]'(by omega) := by simp [rd_L1, List.getD, List.getElem?_eq_getElem (show i < l.length by omega)]
      rw [hr]
      exact Ev.bnd (laws_eqIntS_refl _ (hx _ (List.getElem_mem _))) (Ev.pos (by first | rfl | trivial) (ih (i + 1) (by omega)))
  exact key l.length 0 (by omega)
theorem spec_l01In_eq (a b c : Int) : spec_l01In.f a b c = some (decide (b ≤ a ∧ a ≤ c)) := by
  unfold spec_l01In.f
  by_cases h : a ≥ b
  · rw [if_pos h]; simp [h]
  · rw [if_neg h]; simp; omega
/-! graphs: lists that ascend -/
def asc (n : Int) : Option Int → List Int → Bool
  | _, [] => true
  | none, v :: l => decide (0 ≤ v ∧ v ≤ n - 1) && asc n (some v) l
  | some p, v :: l => decide (0 ≤ v ∧ v ≤ n - 1) && decide (p < v) && asc n (some v) l
def prevOf (l : List Int) (i : Nat) : Option Int := if i = 0 then none else some (rd l ((i : Int) - 1))
theorem prevOf_succ (l : List Int) (i : Nat) : prevOf l (i + 1) = some (rd l (i : Int)) := by
  unfold prevOf
  rw [if_neg (by omega)]
  congr 2
  omega
theorem asc_step (l : List Int) (n : Int) (i : Nat) (h : i < l.length) : asc n (prevOf l i) (l.drop i) = (decide (0 ≤ rd l (i : Int) ∧ rd l (i : Int) ≤ n - 1) && (decide (i = 0) || decide (rd l ((i : Int) - 1) < rd l (i : Int))) && asc n (prevOf l (i + 1)) (l.drop (i + 1))) := by
  rw [prevOf_succ, drop_rd l i h]
  by_cases h0 : i = 0
  · subst h0
    simp [prevOf, asc]
  · have : prevOf l i = some (rd l ((i : Int) - 1)) := by rw [prevOf, if_neg h0]
    rw [this]
    simp [asc, h0]
def gAll : Nat → List (List Int) → Bool
  | _, [] => true
  | v, r :: ps => decide (r.length ≤ 4) && asc (v : Int) none r && gAll (v + 1) ps
/-- A right graph. -/
def graphOk (ps : List (List Int)) : Bool := decide (ps.length ≤ 40) && gAll 0 ps
theorem rdL_nat (l : List (List Int)) (i : Nat) (h : i < l.length) : rd_L1 l (i : Int) = l[i] := by
  simp [rd_L1, List.getD, List.getElem?_eq_getElem h]
theorem spec_l05Rise_ev (l : List Int) (n : Int) (hl : l.length ≤ 140737488351232) (hn : -4611686018427387904 ≤ n) (hn1 : n ≤ 4611686018427387904) : Ev (fun k => spec_l05Rise.f k l n) (asc n none l) := by
  simp only [spec_l05Rise.f]
  have key : ∀ (m i : Nat), i + m = l.length → Ev (fun k => spec_l05Rise.l0 k l n (i : Int)) (asc n (prevOf l i) (l.drop i)) := by
    intro m
    induction m with
    | zero =>
      intro i hi
      refine Ev.succ ?_
      simp only [spec_l05Rise.l0]
      refine Ev.neg (by omega) (Ev.some_ ?_)
      rw [drop_end l i (by omega)]
      cases prevOf l i <;> rfl
    | succ m ih =>
      intro i hi
      refine Ev.succ ?_
      simp only [spec_l05Rise.l0]
      have ih' := ih (i + 1) (by omega)
      rw [asc_step l n i (by omega)]
      rw [show wrap64 (n - 1) = n - 1 from w64 (by omega) (by omega), up1 i (by omega)]
      refine Ev.pos (by omega) (Ev.pos (by omega) (Ev.bnd0 (spec_l01In_eq _ _ _) ?_))
      by_cases hv : 0 ≤ rd l (i : Int) ∧ rd l (i : Int) ≤ n - 1
      · refine Ev.pos (by simpa using hv) ?_
        by_cases h0 : (i : Int) > 0
        · rw [show wrap64 ((i : Int) - 1) = (i : Int) - 1 from w64 (by omega) (by omega)]
          refine Ev.pos h0 (Ev.pos (by omega) (Ev.pos (by omega) ?_))
          by_cases h1 : rd l ((i : Int) - 1) ≥ rd l (i : Int)
          · refine Ev.pos h1 (Ev.some_ ?_)
            have h2 : ¬ (rd l ((i : Int) - 1) < rd l (i : Int)) := by omega
            have h3 : ¬ (i = 0) := by omega
            simp [h2, h3]
          · refine Ev.neg h1 (Ev_eq ih' ?_)
            have h2 : rd l ((i : Int) - 1) < rd l (i : Int) := by omega
            simp [hv, h2]
        · refine Ev.neg h0 (Ev_eq ih' ?_)
          rw [show decide (0 ≤ rd l (i : Int) ∧ rd l (i : Int) ≤ n - 1) = true from decide_eq_true hv, show decide (i = 0) = true from decide_eq_true (by omega)]
          rfl
      · refine Ev.neg (by simpa using hv) (Ev.some_ ?_)
        rw [show decide (0 ≤ rd l (i : Int) ∧ rd l (i : Int) ≤ n - 1) = false from by simpa using hv]
        rfl
  exact key l.length 0 (by omega)
theorem spec_GraphOk_ev (l : List (List Int)) (hl : l.length ≤ 140737488351232) (hx : ∀ x ∈ l, x.length ≤ 140737488351232) : Ev (fun k => spec_GraphOk.f k l) (graphOk l) := by
  simp only [spec_GraphOk.f]
  by_cases h40 : (l.length : Int) > 40
  · refine Ev.pos h40 (Ev.some_ ?_)
    simp [graphOk]; omega
  refine Ev.neg h40 ?_
  have key : ∀ (m i : Nat), i + m = l.length → Ev (fun k => spec_GraphOk.l0 k l (i : Int)) (gAll i (l.drop i)) := by
    intro m
    induction m with
    | zero =>
      intro i hi
      refine Ev.succ ?_
      simp only [spec_GraphOk.l0]
      refine Ev.neg (by omega) (Ev.some_ ?_)
      rw [drop_end l i (by omega)]
      rfl
    | succ m ih =>
      intro i hi
      refine Ev.succ ?_
      simp only [spec_GraphOk.l0]
      have ih' := ih (i + 1) (by omega)
      have hr := rdL_nat l i (by omega)
      rw [hr, up1 i (by omega), List.drop_eq_getElem_cons (show i < l.length by omega)]
      simp only [gAll]
      refine Ev.pos (by omega) (Ev.pos (by omega) ?_)
      by_cases h4 : ((l[i]'(by omega)).length : Int) > 4
      · refine Ev.pos h4 (Ev.some_ ?_)
        rw [show decide ((l[i]'(by omega)).length ≤ 4) = false from by simp; omega]
        rfl
      · refine Ev.neg h4 (Ev.bnd (spec_l05Rise_ev _ _ (hx _ (List.getElem_mem _)) (by omega) (by omega)) ?_)
        rw [show decide ((l[i]'(by omega)).length ≤ 4) = true from by simp; omega]
        by_cases ha : asc (i : Int) none (l[i]'(by omega)) = true
        · refine Ev.pos ha (Ev_eq ih' ?_)
          rw [ha]; rfl
        · refine Ev.neg ha (Ev.some_ ?_)
          rw [Bool.eq_false_iff.2 ha]; rfl
  refine Ev_eq (key l.length 0 (by omega)) ?_
  simp only [graphOk, List.drop_zero]
  rw [show decide (l.length ≤ 40) = true from by simp; omega]
  rfl
theorem impl_inRange_eq (a b c : Int) : impl_inRange.f a b c = some (decide (b ≤ a ∧ a ≤ c)) := by
  unfold impl_inRange.f
  by_cases h : a ≥ b
  · rw [if_pos h]; simp [h]
  · rw [if_neg h]; simp; omega
theorem impl_ascends_ev (l : List Int) (n : Int) (hl : l.length ≤ 140737488351232) (hn : -4611686018427387904 ≤ n) (hn1 : n ≤ 4611686018427387904) : Ev (fun k => impl_ascends.f k l n) (asc n none l) := by
  simp only [impl_ascends.f]
  have key : ∀ (m i : Nat), i + m = l.length → Ev (fun k => impl_ascends.l0 k l n l (l.length : Int) (i : Int)) (asc n (prevOf l i) (l.drop i)) := by
    intro m
    induction m with
    | zero =>
      intro i hi
      refine Ev.succ ?_
      simp only [impl_ascends.l0]
      refine Ev.neg (by omega) (Ev.some_ ?_)
      rw [drop_end l i (by omega)]
      cases prevOf l i <;> rfl
    | succ m ih =>
      intro i hi
      refine Ev.succ ?_
      simp only [impl_ascends.l0]
      have ih' := ih (i + 1) (by omega)
      rw [asc_step l n i (by omega)]
      rw [show wrap64 (n - 1) = n - 1 from w64 (by omega) (by omega), up1 i (by omega)]
      refine Ev.pos (by omega) (Ev.pos (by omega) (Ev.pos (by omega) (Ev.bnd0 (impl_inRange_eq _ _ _) ?_)))
      by_cases hv : 0 ≤ rd l (i : Int) ∧ rd l (i : Int) ≤ n - 1
      · refine Ev.pos (by simpa using hv) ?_
        by_cases h0 : (i : Int) > 0
        · rw [show wrap64 ((i : Int) - 1) = (i : Int) - 1 from w64 (by omega) (by omega)]
          refine Ev.pos h0 (Ev.pos (by omega) (Ev.pos (by omega) ?_))
          by_cases h1 : rd l (i : Int) ≤ rd l ((i : Int) - 1)
          · refine Ev.pos h1 (Ev.some_ ?_)
            have h2 : ¬ (rd l ((i : Int) - 1) < rd l (i : Int)) := by omega
            have h3 : ¬ (i = 0) := by omega
            simp [h2, h3]
          · refine Ev.neg h1 (Ev_eq ih' ?_)
            have h2 : rd l ((i : Int) - 1) < rd l (i : Int) := by omega
            simp [hv, h2]
        · refine Ev.neg h0 (Ev_eq ih' ?_)
          rw [show decide (0 ≤ rd l (i : Int) ∧ rd l (i : Int) ≤ n - 1) = true from decide_eq_true hv, show decide (i = 0) = true from decide_eq_true (by omega)]
          rfl
      · refine Ev.neg (by simpa using hv) (Ev.some_ ?_)
        rw [show decide (0 ≤ rd l (i : Int) ∧ rd l (i : Int) ≤ n - 1) = false from by simpa using hv]
        rfl
  exact key l.length 0 (by omega)
theorem impl_GraphOk_ev (l : List (List Int)) (hl : l.length ≤ 140737488351232) (hx : ∀ x ∈ l, x.length ≤ 140737488351232) : Ev (fun k => impl_GraphOk.f k l) (graphOk l) := by
  simp only [impl_GraphOk.f]
  have key : ∀ (m i : Nat), i + m = l.length → Ev (fun k => impl_GraphOk.l0 k l l (l.length : Int) (i : Int)) (decide (l.length ≤ 40) && gAll i (l.drop i)) := by
    intro m
    induction m with
    | zero =>
      intro i hi
      refine Ev.succ ?_
      simp only [impl_GraphOk.l0]
      refine Ev.neg (by omega) (Ev.some_ ?_)
      rw [drop_end l i (by omega)]
      simp [gAll]
      omega
    | succ m ih =>
      intro i hi
      refine Ev.succ ?_
      simp only [impl_GraphOk.l0]
      have ih' := ih (i + 1) (by omega)
      have hr := rdL_nat l i (by omega)
      rw [hr, up1 i (by omega), List.drop_eq_getElem_cons (show i < l.length by omega)]
      simp only [gAll]
      refine Ev.pos (by omega) (Ev.pos (by omega) (Ev.pos (by omega) ?_))
      by_cases h4 : ((l[i]'(by omega)).length : Int) > 4
      · refine Ev.pos h4 (Ev.some_ ?_)
        rw [show decide ((l[i]'(by omega)).length ≤ 4) = false from by simp; omega]
        simp
      · refine Ev.neg h4 (Ev.bnd (impl_ascends_ev _ _ (hx _ (List.getElem_mem _)) (by omega) (by omega)) ?_)
        rw [show decide ((l[i]'(by omega)).length ≤ 4) = true from by simp; omega]
        by_cases ha : asc (i : Int) none (l[i]'(by omega)) = true
        · refine Ev.pos ha (Ev_eq ih' ?_)
          rw [ha]; rfl
        · refine Ev.neg ha (Ev.some_ ?_)
          rw [Bool.eq_false_iff.2 ha]
          simp
  exact key l.length 0 (by omega)
theorem laws_markIntS_ev (l : List Int) (m : Int) (hl : l.length ≤ 140737488351232) (hm0 : 0 ≤ m) (hm : m ≤ 140737488351232) : Ev (fun k => laws_markIntS.f k l m) (m + l.length, markL (fun x => x) m l.length) := by
  simp only [laws_markIntS.f]
  have key : ∀ (n i : Nat) (x : List Int) (c : Int), i + n = l.length → x.length = l.length → c = m + i → (∀ j, j < i → x[j]? = (markL (fun x => x) m l.length)[j]?) → Ev (fun k => laws_markIntS.l0 k x c (i : Int)) (m + l.length, markL (fun x => x) m l.length) := by
    intro n
    induction n with
    | zero =>
      intro i x c hi hx hc hj
      refine Ev.succ ?_
      simp only [laws_markIntS.l0]
      refine Ev.neg (by omega) (Ev.some_ ?_)
      have : x = markL (fun x => x) m l.length := by
        apply List.ext_getElem?
        intro j
        by_cases h : j < i
        · exact hj j h
        · rw [List.getElem?_eq_none (by omega), List.getElem?_eq_none (by rw [markL_length]; omega)]
      rw [this, hc, show i = l.length by omega]
    | succ n ih =>
      intro i x c hi hx hc hj
      refine Ev.succ ?_
      simp only [laws_markIntS.l0]
      refine Ev.pos (by omega) (Ev.pos (by omega) ?_)
      have e : wrap64 ((i : Int) + 1) = ((i + 1 : Nat) : Int) := by rw [w64 (by omega) (by omega)]; omega
      have e1 : wrap64 (c + 1) = c + 1 := w64 (by omega) (by omega)
      have e2 : ((i : Int)).toNat = i := by omega
      rw [e, e1, e2]
      refine ih (i + 1) _ _ (by omega) (by rw [List.length_set]; exact hx) (by omega) ?_
      intro j hj'
      by_cases h : j = i
      · subst h
        rw [List.getElem?_set_self (by omega), markL_get _ _ _ _ (by omega), hc]
      · rw [List.getElem?_set_ne (by omega)]
        exact hj j (by omega)
  exact key l.length 0 l m (by omega) rfl (by omega) (fun j h => absurd h (by omega))
theorem laws_heldIntS_ev (m : Int) (n0 : Nat) (hl : n0 ≤ 140737488351232) (hm0 : 0 ≤ m) (hm : m ≤ 140737488351232) : Ev (fun k => laws_heldIntS.f k (markL (fun x => x) m n0) m) (m + n0) := by
  simp only [laws_heldIntS.f]
  have key : ∀ (n i : Nat) (c : Int), i + n = n0 → c = m + i → Ev (fun k => laws_heldIntS.l0 k (markL (fun x => x) m n0) c (i : Int)) (m + n0) := by
    intro n
    induction n with
    | zero =>
      intro i c hi hc
      refine Ev.succ ?_
      simp only [laws_heldIntS.l0]
      exact Ev.neg (by rw [markL_length]; omega) (Ev.some_ (by omega))
    | succ n ih =>
      intro i c hi hc
      refine Ev.succ ?_
      simp only [laws_heldIntS.l0]
      have e : wrap64 ((i : Int) + 1) = ((i + 1 : Nat) : Int) := by rw [w64 (by omega) (by omega)]; omega
      have e1 : wrap64 (c + 1) = c + 1 := w64 (by omega) (by omega)
      rw [e, e1]
      refine Ev.pos (by rw [markL_length]; omega) (Ev.pos (by omega) (Ev.pos ?_ (ih (i + 1) _ (by omega) (by omega))))
      have := markL_get (fun x => x) m n0 i (by omega)
      have e3 : ((i : Int)).toNat = i := by omega
      simp only [rd, List.getD, e3, this, Option.getD_some, hc]
  exact key n0 0 m (by omega) (by omega)
theorem sumN_bound : ∀ (l : List (List Int)), (∀ x ∈ l, x.length ≤ 1048576) → Go.Proofs.YtgaidbbfimdogaaH.sumN (l.map List.length) ≤ l.length * 1048576
  | [], _ => by simp [Go.Proofs.YtgaidbbfimdogaaH.sumN]
  | x :: l, h => by
    have h1 := h x (by simp)
    have h2 := sumN_bound l (fun y hy => h y (List.mem_cons_of_mem _ hy))
    simp only [List.map_cons, Go.Proofs.YtgaidbbfimdogaaH.sumN, List.length_cons]
    omega
theorem laws_markIntSS_eq (l : List (List Int)) (m : Int) (hm0 : 0 ≤ m) (hm : m ≤ 1152921504606846976) (hl : l.length ≤ 1048576) (hx : ∀ x ∈ l, x.length ≤ 1048576) : ∃ r, laws_markIntSS.f l m = some r ∧ m ≤ r ∧ r ≤ m + 1099511627776 := by
  have h := sumN_bound l hx
  refine ⟨m + Go.Proofs.YtgaidbbfimdogaaH.sumN (l.map List.length), ?_, by omega, by omega⟩
  unfold laws_markIntSS.f
  rw [if_pos ⟨hm0, by omega⟩]
/-! ancestors -/
def row (ps : List (List Int)) (v : Nat) : List Int := ps.getD v []
/-- u is v, or an ancestor of it. -/
inductive Anc (ps : List (List Int)) : Nat → Nat → Prop
  | refl (v : Nat) : Anc ps v v
  | step {v p u : Nat} : (p : Int) ∈ row ps v → Anc ps p u → Anc ps v u
/-- Parents are smaller, and there. -/
def Down (ps : List (List Int)) : Prop := ∀ v, v < ps.length → ∀ p ∈ row ps v, 0 ≤ p ∧ p < (v : Int)
theorem asc_bound : ∀ (l : List Int) (n : Int) (o : Option Int), asc n o l = true → ∀ p ∈ l, 0 ≤ p ∧ p ≤ n - 1
  | [], _, _, _ => by simp
  | x :: l, n, o, h => by
    intro p hp
    have hx : 0 ≤ x ∧ x ≤ n - 1 := by
      cases o <;> simp [asc] at h <;> omega
    have hl : asc n (some x) l = true := by
      cases o <;> simp [asc] at h
      · exact h.2
      · exact h.2
    rcases List.mem_cons.1 hp with rfl | hp
    · exact hx
    · exact asc_bound l n (some x) hl p hp
theorem gAll_get : ∀ (ps : List (List Int)) (v : Nat), gAll v ps = true → ∀ i (h : i < ps.length), (ps[i]).length ≤ 4 ∧ asc ((v + i : Nat) : Int) none ps[i] = true
  | r :: ps, v, h, 0, _ => by
    simp [gAll] at h
    simpa using h.1
  | r :: ps, v, h, i + 1, hi => by
    have h2 : gAll (v + 1) ps = true := by
      simp [gAll] at h
      exact h.2
    have := gAll_get ps (v + 1) h2 i (by simpa using hi)
    have e : v + 1 + i = v + (i + 1) := by omega
    rw [e] at this
    simpa using this
theorem row_get (ps : List (List Int)) (v : Nat) (h : v < ps.length) : row ps v = ps[v] := by
  simp [row, List.getD, List.getElem?_eq_getElem h]
theorem graphOk_down {ps : List (List Int)} (h : graphOk ps = true) : Down ps := by
  intro v hv p hp
  simp only [graphOk, Bool.and_eq_true, decide_eq_true_eq] at h
  have := (gAll_get ps 0 h.2 v hv).2
  rw [row_get ps v hv] at hp
  have := asc_bound _ _ _ this p hp
  omega
theorem graphOk_len {ps : List (List Int)} (h : graphOk ps = true) : ps.length ≤ 40 := by
  simp only [graphOk, Bool.and_eq_true, decide_eq_true_eq] at h
  exact h.1
theorem Anc.le {ps : List (List Int)} (hd : Down ps) {v u : Nat} (h : Anc ps v u) : v < ps.length → u ≤ v := by
  induction h with
  | refl => intro _; exact Nat.le_refl _
  | step hp _ ih =>
    intro hv
    have := hd _ hv _ hp
    have := ih (by omega)
    omega
/-! levels of versions -/
def lvStep (acc : List Int) (n p : Int) : Int := if rd acc p + 1 > n then rd acc p + 1 else n
def lvOf (acc : List Int) (ps : List Int) : Int := ps.foldl (lvStep acc) 0
def levels : List (List Int) → List Int → List Int
  | [], acc => acc
  | r :: rs, acc => levels rs (acc ++ [lvOf acc r])
def levelsR (ps : List (List Int)) : List Int := if graphOk ps = true then levels ps [] else []
def LvIn (acc : List Int) (b : Int) : Prop := ∀ p : Int, 0 ≤ p → p < acc.length → 0 ≤ rd acc p ∧ rd acc p ≤ b
theorem lvStep_in {acc : List Int} {b n p : Int} (h : LvIn acc b) (h0 : 0 ≤ p) (h1 : p < acc.length) (n0 : 0 ≤ n) (n1 : n ≤ b + 1) : 0 ≤ lvStep acc n p ∧ lvStep acc n p ≤ b + 1 := by
  have := h p h0 h1
  unfold lvStep
  split <;> omega
theorem rd_app (a b : List Int) (p : Int) (h0 : 0 ≤ p) (h1 : p < a.length) : rd (a ++ b) p = rd a p := by
  obtain ⟨i, rfl⟩ := Int.eq_ofNat_of_zero_le h0
  rw [rd_nat _ i (by simp; omega), rd_nat _ i (by omega), List.getElem_append_left (by omega)]
theorem rd_mid (a b : List Int) (x : Int) : rd (a ++ x :: b) (a.length : Int) = x := by
  rw [rd_nat _ _ (by simp)]
  simp
theorem LvIn.snoc {acc : List Int} {b x : Int} (h : LvIn acc b) (h0 : 0 ≤ x) (h1 : x ≤ b + 1) : LvIn (acc ++ [x]) (b + 1) := by
  intro p p0 p1
  by_cases c : p < acc.length
  · rw [rd_app _ _ _ p0 c]
    have := h p p0 c
    omega
  · have e : p = (acc.length : Int) := by simp at p1; omega
    rw [e, rd_mid]
    exact ⟨h0, h1⟩
theorem levels_length : ∀ (ps : List (List Int)) (acc : List Int), (levels ps acc).length = acc.length + ps.length
  | [], acc => by simp [levels]
  | r :: rs, acc => by rw [levels, levels_length rs]; simp; omega
theorem levelsR_length (ps : List (List Int)) : (levelsR ps).length ≤ 40 := by
  unfold levelsR
  split
  · rw [levels_length]
    have := graphOk_len (by assumption : graphOk ps = true)
    simp
    omega
  · simp
theorem drop_row (ps : List (List Int)) (i : Nat) (h : i < ps.length) : ps.drop i = row ps i :: ps.drop (i + 1) := by
  rw [List.drop_eq_getElem_cons h, row_get ps i h]
section
variable (ps : List (List Int)) (hg : graphOk ps = true)
include hg
theorem spec_Levels_l1 (i : Nat) (hi : i < ps.length) (acc : List Int) (ha : acc.length = i) (hin : LvIn acc i) (ih : ∀ x : Int, 0 ≤ x → x ≤ (i : Int) + 1 → Ev (fun k => spec_Levels.l0 k ps (acc ++ [x]) ((i + 1 : Nat) : Int)) (levels (ps.drop (i + 1)) (acc ++ [x]))) :
    ∀ (m j : Nat) (n : Int), j + m = (row ps i).length → 0 ≤ n → n ≤ (i : Int) + 1 → Ev (fun k => spec_Levels.l1 k ps acc (i : Int) n (j : Int)) (levels (ps.drop (i + 1)) (acc ++ [((row ps i).drop j).foldl (lvStep acc) n])) := by
  have hd := graphOk_down hg
  have hl := graphOk_len hg
  have hrow := rdL_nat ps i hi
  have hrg := row_get ps i hi
  have hr4 : (row ps i).length ≤ 4 := by
    have := hg
    simp only [graphOk, Bool.and_eq_true, decide_eq_true_eq] at this
    have := (gAll_get ps 0 this.2 i hi).1
    rw [← hrg] at this
    exact this
  intro m
  induction m with
  | zero =>
    intro j n hj n0 n1
    refine Ev.succ ?_
    simp only [spec_Levels.l1]
    rw [hrow, ← hrg, up1 i (by omega)]
    rw [drop_end (row ps i) j (by omega), List.foldl_nil]
    exact Ev.pos (by omega) (Ev.pos (by omega) (Ev.neg (by omega) (Ev.pos (by omega) (ih n n0 n1))))
  | succ m IH =>
    intro j n hj n0 n1
    have hp := hd i hi _ (List.getElem_mem (show j < (row ps i).length by omega))
    have hrd : rd (row ps i) (j : Int) = (row ps i)[j]'(by omega) := rd_nat _ _ _
    have hv := hin _ hp.1 (by omega)
    have hst := lvStep_in hin hp.1 (by omega) n0 n1
    refine Ev.succ ?_
    simp only [spec_Levels.l1]
    rw [hrow, ← hrg, hrd, up1 j (by omega), w64 (by omega) (by omega)]
    rw [List.drop_eq_getElem_cons (show j < (row ps i).length by omega), List.foldl_cons]
    refine Ev.pos (by omega) (Ev.pos (by omega) (Ev.pos (by omega) (Ev.pos (by omega) (Ev.pos (by omega) (Ev.pos (by omega) ?_)))))
    have key := IH (j + 1) _ (by omega) hst.1 hst.2
    by_cases c : rd acc (row ps i)[j] + 1 > n
    · refine Ev.pos c ?_
      have e : lvStep acc n (row ps i)[j] = rd acc (row ps i)[j] + 1 := by rw [lvStep, if_pos c]
      rw [e] at key ⊢
      exact key
    · refine Ev.neg c ?_
      have e : lvStep acc n (row ps i)[j] = n := by rw [lvStep, if_neg c]
      rw [e] at key ⊢
      exact key
theorem lv_step_in (i : Nat) (hi : i < ps.length) (acc : List Int) (ha : acc.length = i) (hin : LvIn acc i) : 0 ≤ lvOf acc (row ps i) ∧ lvOf acc (row ps i) ≤ (i : Int) + 1 := by
  have hd := graphOk_down hg
  have key : ∀ (l : List Int) (n : Int), (∀ p ∈ l, 0 ≤ p ∧ p < (i : Int)) → 0 ≤ n → n ≤ (i : Int) + 1 → 0 ≤ l.foldl (lvStep acc) n ∧ l.foldl (lvStep acc) n ≤ (i : Int) + 1 := by
    intro l
    induction l with
    | nil => intro n _ h0 h1; exact ⟨h0, h1⟩
    | cons p l ih =>
      intro n hl h0 h1
      have hp := hl p (by simp)
      have := lvStep_in hin hp.1 (by omega) h0 h1
      rw [List.foldl_cons]
      exact ih _ (fun q hq => hl q (List.mem_cons_of_mem _ hq)) this.1 this.2
  exact key _ 0 (hd i hi) (by omega) (by omega)
theorem spec_Levels_l0 (hx : ∀ x ∈ ps, x.length ≤ 140737488351232) : ∀ (m i : Nat) (acc : List Int), i + m = ps.length → acc.length = i → LvIn acc i → Ev (fun k => spec_Levels.l0 k ps acc (i : Int)) (levels (ps.drop i) acc) := by
  have hl := graphOk_len hg
  intro m
  induction m with
  | zero =>
    intro i acc hi ha hin
    refine Ev.succ ?_
    simp only [spec_Levels.l0]
    rw [drop_end ps i (by omega)]
    refine Ev.neg (by omega) (Ev.succ ?_)
    simp only [spec_Levels.j1]
    exact Ev.neg (by simp) (Ev.now _)
  | succ m IH =>
    intro i acc hi ha hin
    have hlt : i < ps.length := by omega
    refine Ev.succ ?_
    simp only [spec_Levels.l0]
    refine Ev.pos (by omega) (Ev.bnd (spec_GraphOk_ev ps (by omega) hx) (Ev.succ ?_))
    simp only [spec_Levels.j1]
    refine Ev.pos hg ?_
    rw [drop_row ps i hlt]
    exact spec_Levels_l1 ps hg i hlt acc ha hin (fun x h0 h1 => IH (i + 1) (acc ++ [x]) (by omega) (by simp [ha]) (by have := hin.snoc h0 h1; rw [show ((i + 1 : Nat) : Int) = (i : Int) + 1 from by omega]; exact this)) (row ps i).length 0 0 (by omega) (by omega) (by omega)
theorem impl_Levels_l1 (i : Nat) (hi : i < ps.length) (acc : List Int) (ha : acc.length = i) (hin : LvIn acc i) (z : List Int) (hz : acc.length + 1 + z.length = ps.length) (ih : ∀ x : Int, 0 ≤ x → x ≤ (i : Int) + 1 → Ev (fun k => impl_Levels.l0 k (acc ++ x :: z) ps (ps.length : Int) ((i + 1 : Nat) : Int)) (levels (ps.drop (i + 1)) (acc ++ [x]))) :
    ∀ (m j : Nat) (n : Int), j + m = (row ps i).length → 0 ≤ n → n ≤ (i : Int) + 1 → Ev (fun k => impl_Levels.l1 k (acc ++ n :: z) (i : Int) ps (ps.length : Int) (i : Int) (row ps i) ((row ps i).length : Int) (j : Int)) (levels (ps.drop (i + 1)) (acc ++ [((row ps i).drop j).foldl (lvStep acc) n])) := by
  have hd := graphOk_down hg
  have hl := graphOk_len hg
  have hrg := row_get ps i hi
  have hr4 : (row ps i).length ≤ 4 := by
    have := hg
    simp only [graphOk, Bool.and_eq_true, decide_eq_true_eq] at this
    have := (gAll_get ps 0 this.2 i hi).1
    rw [← hrg] at this
    exact this
  intro m
  induction m with
  | zero =>
    intro j n hj n0 n1
    refine Ev.succ ?_
    simp only [impl_Levels.l1]
    rw [up1 i (by omega)]
    rw [drop_end (row ps i) j (by omega), List.foldl_nil]
    exact Ev.neg (by omega) (ih n n0 n1)
  | succ m IH =>
    intro j n hj n0 n1
    have hp := hd i hi _ (List.getElem_mem (show j < (row ps i).length by omega))
    have hrd : rd (row ps i) (j : Int) = (row ps i)[j]'(by omega) := rd_nat _ _ _
    have hv := hin _ hp.1 (by omega)
    have hst := lvStep_in hin hp.1 (by omega) n0 n1
    have hlen : (acc ++ n :: z).length = ps.length := by simp; omega
    have e1 : rd (acc ++ n :: z) (row ps i)[j] = rd acc (row ps i)[j] := rd_app _ _ _ hp.1 (by omega)
    have e2 : rd (acc ++ n :: z) (i : Int) = n := by rw [← ha]; exact rd_mid _ _ _
    have e3 : mx n (rd acc (row ps i)[j] + 1) = lvStep acc n (row ps i)[j]  := rfl
    have e4 : ∀ v, (acc ++ n :: z).set i v = acc ++ v :: z := by
      intro v
      rw [← ha, List.set_append_right _ _ (Nat.le_refl _), Nat.sub_self, List.set_cons_zero]
    refine Ev.succ ?_
    simp only [impl_Levels.l1]
    rw [hrd, up1 j (by omega), hlen, e1, e2, w64 (by omega) (by omega), Int.toNat_natCast, e3, e4]
    rw [List.drop_eq_getElem_cons (show j < (row ps i).length by omega), List.foldl_cons]
    exact Ev.pos (by omega) (Ev.pos (by omega) (Ev.pos (by omega) (Ev.pos (by omega) (Ev.pos (by omega) (Ev.pos (by omega) (Ev.pos (by omega) (IH (j + 1) _ (by omega) hst.1 hst.2)))))))
theorem impl_Levels_l0 : ∀ (m i : Nat) (acc : List Int), i + m = ps.length → acc.length = i → LvIn acc i → Ev (fun k => impl_Levels.l0 k (acc ++ List.replicate m 0) ps (ps.length : Int) (i : Int)) (levels (ps.drop i) acc) := by
  have hl := graphOk_len hg
  intro m
  induction m with
  | zero =>
    intro i acc hi ha hin
    refine Ev.succ ?_
    simp only [impl_Levels.l0]
    rw [drop_end ps i (by omega)]
    exact Ev.neg (by omega) (Ev.some_ (by simp [levels]))
  | succ m IH =>
    intro i acc hi ha hin
    have hlt : i < ps.length := by omega
    refine Ev.succ ?_
    simp only [impl_Levels.l0]
    rw [rdL_nat ps i hlt, ← row_get ps i hlt, List.replicate_succ]
    refine Ev.pos (by omega) (Ev.pos (by omega) (Ev.pos (by omega) ?_))
    rw [drop_row ps i hlt]
    exact impl_Levels_l1 ps hg i hlt acc ha hin (List.replicate m 0) (by simp; omega) (fun x h0 h1 => by
      have := IH (i + 1) (acc ++ [x]) (by omega) (by simp [ha]) (by have := hin.snoc h0 h1; rw [show ((i + 1 : Nat) : Int) = (i : Int) + 1 from by omega]; exact this)
      rw [List.append_assoc, List.singleton_append] at this
      exact this) (row ps i).length 0 0 (by omega) (by omega) (by omega)
end
theorem LvIn_nil : LvIn [] 0 := by
  intro p h0 h1
  simp at h1
  omega
theorem spec_Levels_ev (ps : List (List Int)) (hl : ps.length ≤ 140737488351232) (hx : ∀ x ∈ ps, x.length ≤ 140737488351232) : Ev (fun k => spec_Levels.f k ps) (levelsR ps) := by
  simp only [spec_Levels.f]
  unfold levelsR
  by_cases hg : graphOk ps = true
  · rw [if_pos hg]
    exact spec_Levels_l0 ps hg hx ps.length 0 [] (by omega) rfl LvIn_nil
  · rw [if_neg hg]
    refine Ev.succ ?_
    simp only [spec_Levels.l0]
    have h0 : (0 : Int) < (ps.length : Int) := by
      cases ps with
      | nil => exact absurd rfl hg
      | cons r rs => simp only [List.length_cons]; omega
    refine Ev.pos h0 (Ev.bnd (spec_GraphOk_ev ps hl hx) (Ev.succ ?_))
    simp only [spec_Levels.j1]
    exact Ev.neg hg (Ev.now _)
theorem impl_Levels_ev (ps : List (List Int)) (hl : ps.length ≤ 1048576) (hx : ∀ x ∈ ps, x.length ≤ 140737488351232) : Ev (fun k => impl_Levels.f k ps) (levelsR ps) := by
  simp only [impl_Levels.f]
  unfold levelsR
  refine Ev.bnd (impl_GraphOk_ev ps (by omega) hx) ?_
  by_cases hg : graphOk ps = true
  · rw [if_pos hg]
    refine Ev.pos hg (Ev.pos (by omega) (Ev.pos (by omega) ?_))
    rw [Int.toNat_natCast]
    have := impl_Levels_l0 ps hg ps.length 0 [] (by omega) rfl LvIn_nil
    simpa using this
  · rw [if_neg hg]
    exact Ev.neg hg (Ev.now _)
theorem FnExactLevels : laws_FnExactLevels.Pure := by
  intro l hl
  refine Ev.rounds (r := true) ?_
  simp only [laws_FnExactLevels.f]
  have hx : ∀ x ∈ l, x.length ≤ 140737488351232 := fun x hx => by have := (hl.2 x hx).1; omega
  obtain ⟨r, hr, hp⟩ := laws_szIntSS_ev l 1048576 (by omega) (by omega) (by omega) hx
  refine Ev.bnd hr ?_
  by_cases h : r < 0
  · exact Ev.pos h (Ev.now _)
  obtain ⟨p1, p2⟩ := hp (by omega)
  have h1 : l.length ≤ 11728124029610 := by omega
  have h2 : ∀ x ∈ l, x.length ≤ 35184372088832 := fun x hx => by have := p2 x hx; omega
  have hg := levelsR_length l
  obtain ⟨q, hq, hq1, hq2⟩ := laws_markIntSS_eq l 1 (by omega) (by omega) (by omega) (fun x hx => by have := p2 x hx; omega)
  refine Ev.neg h (Ev.bnd (laws_toIntSS_ev l h1 h2) (Ev.bnd (spec_Levels_ev l (by omega) hx) (Ev.bnd (laws_toIntSS_ev l h1 h2) (Ev.bnd (impl_Levels_ev l (by omega) hx) (Ev.bnd (laws_eqIntS_refl _ (by omega)) (Ev.pos rfl (Ev.bnd (laws_toIntSS_ev l h1 h2) (Ev.bnd (laws_eqIntSS_refl l (by omega) hx) (Ev.pos rfl (Ev.bnd0 hq (Ev.neg (by omega) (Ev.bnd (laws_eqIntS_refl _ (by omega)) (Ev.succ ?_)))))))))))))
  simp only [laws_FnExactLevels.j0]
  exact Ev.neg (by simp) (Ev.bnd (laws_markIntS_ev _ 1 (by omega) (by omega) (by omega)) (Ev.bnd (laws_heldIntS_ev 1 _ (by omega) (by omega) (by omega)) (Ev.neg (by omega) (Ev.pos (by first | rfl | trivial) (Ev.bnd (laws_toIntSS_ev l h1 h2) (Ev.bnd (impl_Levels_ev l (by omega) hx) (Ev.bnd (laws_eqIntS_refl _ (by omega)) (Ev.pos rfl (Ev.bnd (laws_heldIntS_ev 1 _ (by omega) (by omega) (by omega)) (Ev.neg (by omega) (Ev.pos (by first | rfl | trivial) (Ev.now _))))))))))))

end Go.Proofs.Ytgaidbbfimdogaa.Pure
