/- The program's IsAncestor returns what the reference's returns, for every graph and any two numbers that the row reads; the graph is left as it was. -/
import Derived.Test.YtpojmcpfgllbfaaPFnExactIsAncestorx4
import Derived.Test.YtpojmcpfgllbfaaGen
namespace Go.Proofs.Ytpojmcpfgllbfaa.Pure
open Go.RowKit Go.Proofs.Ytpojmcpfgllbfaa.PFnExactIsAncestor Go.Proofs.YtpojmcpfgllbfaaW.PrintWords Go.Proofs.YtpojmcpfgllbfaaW.PrintLast Go.Proofs.YtpojmcpfgllbfaaG

theorem laws_szIntSS_ev (l : List (List Int)) (m : Int) (hm0 : 0 ≤ m) (hm : m ≤ 140737488351232) (hl : l.length ≤ 140737488351232) (hx : ∀ x ∈ l, x.length ≤ 140737488351232) : ∃ r, Ev (fun k => laws_szIntSS.f k l m) r ∧ (0 ≤ r → (l.length : Int) + r ≤ m ∧ ∀ x ∈ l, ((x.length : Nat) : Int) ≤ m) := by
  have key : ∀ (n i : Nat) (c : Int), i + n = l.length → 0 ≤ c → c ≤ 140737488351232 → ∃ r, Ev (fun k => laws_szIntSS.l0 k l c (i : Int)) r ∧ (0 ≤ r → r ≤ c ∧ ∀ x ∈ l.drop i, ((x.length : Nat) : Int) ≤ c) := by
    intro n
    induction n with
    | zero =>
      intro i c hi hc0 hc
      refine ⟨c, Ev.succ ?_, fun _ => ⟨Int.le_refl _, ?_⟩⟩
      · simp only [laws_szIntSS.l0]
        exact Ev.neg (by omega) (Ev.now _)
      · rw [drop_end l i (by omega)]
        simp
    | succ n ih =>
      intro i c hi hc0 hc
      have hr : rd_L1 l (i : Int) = l[i]'(by omega) := by simp [rd_L1, List.getD, List.getElem?_eq_getElem (show i < l.length by omega)]
      have hs := hx _ (List.getElem_mem (show i < l.length by omega))
      have hd : l.drop i = l[i]'(by omega) :: l.drop (i + 1) := List.drop_eq_getElem_cons (by omega)
      have hw : wrap64 (c - (((rd_L1 l (i : Int)).length : Nat) : Int)) = c - (((l[i]'(by omega)).length : Nat) : Int) := by rw [hr]; exact w64 (by omega) (by omega)
      by_cases h : c - (((l[i]'(by omega)).length : Nat) : Int) < 0
      · refine ⟨-1, Ev.succ ?_, fun h => absurd h (by omega)⟩
        simp only [laws_szIntSS.l0]
        exact Ev.pos (by omega) (Ev.pos (by omega) (Ev.bnd0 (a := -1) (by simp only [laws_szIntS.f]; rw [if_pos (by rw [hw]; exact h)]) (Ev.pos (by omega) (Ev.now _))))
      · obtain ⟨r, hev, hp⟩ := ih (i + 1) (c - (((l[i]'(by omega)).length : Nat) : Int)) (by omega) (by omega) (by omega)
        refine ⟨r, Ev.succ ?_, fun h0 => ?_⟩
        · simp only [laws_szIntSS.l0]
          refine Ev.pos (by omega) (Ev.pos (by omega) (Ev.bnd0 (a := c - (((l[i]'(by omega)).length : Nat) : Int)) (by simp only [laws_szIntS.f]; rw [if_neg (by rw [hw]; exact h), hw]) (Ev.neg h ?_)))
          rw [up1 i (by omega)]
          exact hev
        · obtain ⟨p1, p2⟩ := hp h0
          refine ⟨by omega, fun x hx => ?_⟩
          rw [hd] at hx
          rcases List.mem_cons.1 hx with rfl | hx
          · omega
          · have := p2 x hx
            omega
  simp only [laws_szIntSS.f]
  by_cases h : wrap64 (m - (l.length : Int)) < 0
  · exact ⟨-1, Ev.pos h (Ev.now _), fun h => absurd h (by omega)⟩
  · have h1 : ¬ (m - (l.length : Int) < 0) := by rw [w64 (by omega) (by omega)] at h; exact h
    obtain ⟨r, hr, hp⟩ := key l.length 0 (m - (l.length : Int)) (by omega) (by omega) (by omega)
    refine ⟨r, Ev.neg h ?_, fun h0 => ?_⟩
    · rw [w64 (by omega) (by omega)]
      exact hr
    · obtain ⟨p1, p2⟩ := hp h0
      refine ⟨by omega, fun x hx => ?_⟩
      have := p2 x (by simpa using hx)
      omega
theorem laws_toIntS_l0 (l : List Int) (hl : l.length ≤ 140737488351232) : ∀ (n i : Nat) (x : List Int), i + n = l.length → x.length = l.length → (∀ j, j < i → x[j]? = l[j]?) → Ev (fun k => laws_toIntS.l0 k l x (i : Int)) l := by
  intro n
  induction n with
  | zero =>
    intro i x hi hx hj
    refine Ev.succ ?_
    simp only [laws_toIntS.l0]
    refine Ev.neg (by omega) (Ev.some_ ?_)
    apply List.ext_getElem?
    intro j
    by_cases h : j < i
    · exact hj j h
    · rw [List.getElem?_eq_none (by omega), List.getElem?_eq_none (by omega)]
  | succ n ih =>
    intro i x hi hx hj
    refine Ev.succ ?_
    simp only [laws_toIntS.l0]
    refine Ev.pos (by omega) (Ev.pos (by omega) (Ev.pos (by omega) ?_))
    have e : wrap64 ((i : Int) + 1) = ((i + 1 : Nat) : Int) := by rw [w64 (by omega) (by omega)]; omega
    have e2 : ((i : Int)).toNat = i := by omega
    rw [e, e2]
    refine ih (i + 1) _ (by omega) (by rw [List.length_set]; exact hx) ?_
    intro j hj'
    by_cases h : j = i
    · subst h
      rw [List.getElem?_set_self (by omega)]
      simp [rd, List.getD, List.getElem?_eq_getElem (show j < l.length by omega)]
    · rw [List.getElem?_set_ne (by omega)]
      exact hj j (by omega)
theorem laws_toIntS_ev (l : List Int) (hl : l.length ≤ 35184372088832) : Ev (fun k => laws_toIntS.f k l) l := by
  simp only [laws_toIntS.f]
  refine Ev.pos (by omega) (Ev.pos (by omega) ?_)
  exact laws_toIntS_l0 l (by omega) l.length 0 _ (by omega) (by simp) (fun j h => absurd h (by omega))

theorem laws_toIntSS_ev (l : List (List Int)) (hl : l.length ≤ 11728124029610) (hx : ∀ x ∈ l, x.length ≤ 35184372088832) : Ev (fun k => laws_toIntSS.f k l) l := by
  simp only [laws_toIntSS.f]
  refine Ev.pos (by omega) (Ev.pos (by omega) ?_)
  have key : ∀ (n i : Nat) (x : List (List Int)), i + n = l.length → x.length = l.length → (∀ j, j < i → x[j]? = l[j]?) → Ev (fun k => laws_toIntSS.l0 k l x (i : Int)) l := by
    intro n
    induction n with
    | zero =>
      intro i x hi hx hj
      refine Ev.succ ?_
      simp only [laws_toIntSS.l0]
      refine Ev.neg (by omega) (Ev.some_ ?_)
      apply List.ext_getElem?
      intro j
      by_cases h : j < i
      · exact hj j h
      · rw [List.getElem?_eq_none (by omega), List.getElem?_eq_none (by omega)]
    | succ n ih =>
      intro i x hi hx' hj
      refine Ev.succ ?_
      simp only [laws_toIntSS.l0]
      have hr : rd_L1 l (i : Int) = l[i]'(by omega) := by simp [rd_L1, List.getD, List.getElem?_eq_getElem (show i < l.length by omega)]
      refine Ev.pos (by omega) (Ev.pos (by omega) ?_)
      rw [up1 i (by omega), hr]
      refine Ev.bnd (laws_toIntS_ev _ (hx _ (List.getElem_mem _))) (Ev.pos (by omega) ?_)
      have e2 : ((i : Int)).toNat = i := by omega
      rw [e2]
      refine ih (i + 1) _ (by omega) (by rw [List.length_set]; exact hx') ?_
      intro j hj'
      by_cases h : j = i
      · subst h
        rw [List.getElem?_set_self (by omega), List.getElem?_eq_getElem (by omega)]
      · rw [List.getElem?_set_ne (by omega)]
        exact hj j (by omega)
  exact key l.length 0 _ (by omega) (by simp) (fun j h => absurd h (by omega))
theorem laws_eqIntS_refl (l : List Int) (hl : l.length ≤ 140737488351232) : Ev (fun k => laws_eqIntS.f k l l) true := by
  simp only [laws_eqIntS.f]
  refine Ev.pos (by first | rfl | trivial) ?_
  have key : ∀ (n i : Nat), i + n = l.length → Ev (fun k => laws_eqIntS.l0 k l l (i : Int)) true := by
    intro n
    induction n with
    | zero =>
      intro i hi
      refine Ev.succ ?_
      simp only [laws_eqIntS.l0]
      exact Ev.neg (by omega) (Ev.now _)
    | succ n ih =>
      intro i hi
      refine Ev.succ ?_
      simp only [laws_eqIntS.l0]
      have e : wrap64 ((i : Int) + 1) = ((i + 1 : Nat) : Int) := by rw [w64 (by omega) (by omega)]; omega
      rw [e]
      exact Ev.pos (by omega) (Ev.pos (by omega) (Ev.pos (by omega) (Ev.pos (by first | rfl | trivial) (ih (i + 1) (by omega)))))
  exact key l.length 0 (by omega)

theorem laws_eqIntSS_refl (l : List (List Int)) (hl : l.length ≤ 140737488351232) (hx : ∀ x ∈ l, x.length ≤ 140737488351232) : Ev (fun k => laws_eqIntSS.f k l l) true := by
  simp only [laws_eqIntSS.f]
  refine Ev.pos (by first | rfl | trivial) ?_
  have key : ∀ (n i : Nat), i + n = l.length → Ev (fun k => laws_eqIntSS.l0 k l l (i : Int)) true := by
    intro n
    induction n with
    | zero =>
      intro i hi
      refine Ev.succ ?_
      simp only [laws_eqIntSS.l0]
      exact Ev.neg (by omega) (Ev.now _)
    | succ n ih =>
      intro i hi
      refine Ev.succ ?_
      simp only [laws_eqIntSS.l0]
      refine Ev.pos (by omega) (Ev.pos (by omega) (Ev.pos (by omega) ?_))
      rw [up1 i (by omega)]
      have hr : rd_L1 l (i : Int) = l[i]'(by omega) := by simp [rd_L1, List.getD, List.getElem?_eq_getElem (show i < l.length by omega)]
      rw [hr]
      exact Ev.bnd (laws_eqIntS_refl _ (hx _ (List.getElem_mem _))) (Ev.pos (by first | rfl | trivial) (ih (i + 1) (by omega)))
  exact key l.length 0 (by omega)
theorem spec_l01In_eq (a b c : Int) : spec_l01In.f a b c = some (decide (b ≤ a ∧ a ≤ c)) := by
  unfold spec_l01In.f
  by_cases h : a ≥ b
  · rw [if_pos h]; simp [h]
  · rw [if_neg h]; simp; omega
/-! graphs: lists that ascend -/
def asc (n : Int) : Option Int → List Int → Bool
  | _, [] => true
  | none, v :: l => decide (0 ≤ v ∧ v ≤ n - 1) && asc n (some v) l
  | some p, v :: l => decide (0 ≤ v ∧ v ≤ n - 1) && decide (p < v) && asc n (some v) l
def prevOf (l : List Int) (i : Nat) : Option Int := if i = 0 then none else some (rd l ((i : Int) - 1))
theorem prevOf_succ (l : List Int) (i : Nat) : prevOf l (i + 1) = some (rd l (i : Int)) := by
  unfold prevOf
  rw [if_neg (by omega)]
  congr 2
  omega
theorem asc_step (l : List Int) (n : Int) (i : Nat) (h : i < l.length) : asc n (prevOf l i) (l.drop i) = (decide (0 ≤ rd l (i : Int) ∧ rd l (i : Int) ≤ n - 1) && (decide (i = 0) || decide (rd l ((i : Int) - 1) < rd l (i : Int))) && asc n (prevOf l (i + 1)) (l.drop (i + 1))) := by
  rw [prevOf_succ, drop_rd l i h]
  by_cases h0 : i = 0
  · subst h0
    simp [prevOf, asc]
  · have : prevOf l i = some (rd l ((i : Int) - 1)) := by rw [prevOf, if_neg h0]
    rw [this]
    simp [asc, h0]
def gAll : Nat → List (List Int) → Bool
  | _, [] => true
  | v, r :: ps => decide (r.length ≤ 4) && asc (v : Int) none r && gAll (v + 1) ps
/-- A right graph. -/
def graphOk (ps : List (List Int)) : Bool := decide (ps.length ≤ 40) && gAll 0 ps
theorem rdL_nat (l : List (List Int)) (i : Nat) (h : i < l.length) : rd_L1 l (i : Int) = l[i] := by
  simp [rd_L1, List.getD, List.getElem?_eq_getElem h]
theorem spec_l05Rise_ev (l : List Int) (n : Int) (hl : l.length ≤ 140737488351232) (hn : -4611686018427387904 ≤ n) (hn1 : n ≤ 4611686018427387904) : Ev (fun k => spec_l05Rise.f k l n) (asc n none l) := by
  simp only [spec_l05Rise.f]
  have key : ∀ (m i : Nat), i + m = l.length → Ev (fun k => spec_l05Rise.l0 k l n (i : Int)) (asc n (prevOf l i) (l.drop i)) := by
    intro m
    induction m with
    | zero =>
      intro i hi
      refine Ev.succ ?_
      simp only [spec_l05Rise.l0]
      refine Ev.neg (by omega) (Ev.some_ ?_)
      rw [drop_end l i (by omega)]
      cases prevOf l i <;> rfl
    | succ m ih =>
      intro i hi
      refine Ev.succ ?_
      simp only [spec_l05Rise.l0]
      have ih' := ih (i + 1) (by omega)
      rw [asc_step l n i (by omega)]
      rw [show wrap64 (n - 1) = n - 1 from w64 (by omega) (by omega), up1 i (by omega)]
      refine Ev.pos (by omega) (Ev.pos (by omega) (Ev.bnd0 (spec_l01In_eq _ _ _) ?_))
      by_cases hv : 0 ≤ rd l (i : Int) ∧ rd l (i : Int) ≤ n - 1
      · refine Ev.pos (by simpa using hv) ?_
        by_cases h0 : (i : Int) > 0
        · rw [show wrap64 ((i : Int) - 1) = (i : Int) - 1 from w64 (by omega) (by omega)]
          refine Ev.pos h0 (Ev.pos (by omega) (Ev.pos (by omega) ?_))
          by_cases h1 : rd l ((i : Int) - 1) ≥ rd l (i : Int)
          · refine Ev.pos h1 (Ev.some_ ?_)
            have h2 : ¬ (rd l ((i : Int) - 1) < rd l (i : Int)) := by omega
            have h3 : ¬ (i = 0) := by omega
            simp [h2, h3]
          · refine Ev.neg h1 (Ev_eq ih' ?_)
            have h2 : rd l ((i : Int) - 1) < rd l (i : Int) := by omega
            simp [hv, h2]
        · refine Ev.neg h0 (Ev_eq ih' ?_)
          rw [show decide (0 ≤ rd l (i : Int) ∧ rd l (i : Int) ≤ n - 1) = true from decide_eq_true hv, show decide (i = 0) = true from decide_eq_true (by omega)]
          rfl
      · refine Ev.neg (by simpa using hv) (Ev.some_ ?_)
        rw [show decide (0 ≤ rd l (i : Int) ∧ rd l (i : Int) ≤ n - 1) = false from by simpa using hv]
        rfl
  exact key l.length 0 (by omega)
theorem spec_GraphOk_ev (l : List (List Int)) (hl : l.length ≤ 140737488351232) (hx : ∀ x ∈ l, x.length ≤ 140737488351232) : Ev (fun k => spec_GraphOk.f k l) (graphOk l) := by
  simp only [spec_GraphOk.f]
  by_cases h40 : (l.length : Int) > 40
  · refine Ev.pos h40 (Ev.some_ ?_)
    simp [graphOk]; omega
  refine Ev.neg h40 ?_
  have key : ∀ (m i : Nat), i + m = l.length → Ev (fun k => spec_GraphOk.l0 k l (i : Int)) (gAll i (l.drop i)) := by
    intro m
    induction m with
    | zero =>
      intro i hi
      refine Ev.succ ?_
      simp only [spec_GraphOk.l0]
      refine Ev.neg (by omega) (Ev.some_ ?_)
      rw [drop_end l i (by omega)]
      rfl
    | succ m ih =>
      intro i hi
      refine Ev.succ ?_
      simp only [spec_GraphOk.l0]
      have ih' := ih (i + 1) (by omega)
      have hr := rdL_nat l i (by omega)
      rw [hr, up1 i (by omega), List.drop_eq_getElem_cons (show i < l.length by omega)]
      simp only [gAll]
      refine Ev.pos (by omega) (Ev.pos (by omega) ?_)
      by_cases h4 : ((l[i]'(by omega)).length : Int) > 4
      · refine Ev.pos h4 (Ev.some_ ?_)
        rw [show decide ((l[i]'(by omega)).length ≤ 4) = false from by simp; omega]
        rfl
      · refine Ev.neg h4 (Ev.bnd (spec_l05Rise_ev _ _ (hx _ (List.getElem_mem _)) (by omega) (by omega)) ?_)
        rw [show decide ((l[i]'(by omega)).length ≤ 4) = true from by simp; omega]
        by_cases ha : asc (i : Int) none (l[i]'(by omega)) = true
        · refine Ev.pos ha (Ev_eq ih' ?_)
          rw [ha]; rfl
        · refine Ev.neg ha (Ev.some_ ?_)
          rw [Bool.eq_false_iff.2 ha]; rfl
  refine Ev_eq (key l.length 0 (by omega)) ?_
  simp only [graphOk, List.drop_zero]
  rw [show decide (l.length ≤ 40) = true from by simp; omega]
  rfl
theorem impl_inRange_eq (a b c : Int) : impl_inRange.f a b c = some (decide (b ≤ a ∧ a ≤ c)) := by
  unfold impl_inRange.f
  by_cases h : a ≥ b
  · rw [if_pos h]; simp [h]
  · rw [if_neg h]; simp; omega
theorem impl_ascends_ev (l : List Int) (n : Int) (hl : l.length ≤ 140737488351232) (hn : -4611686018427387904 ≤ n) (hn1 : n ≤ 4611686018427387904) : Ev (fun k => impl_ascends.f k l n) (asc n none l) := by
  simp only [impl_ascends.f]
  have key : ∀ (m i : Nat), i + m = l.length → Ev (fun k => impl_ascends.l0 k l n l (l.length : Int) (i : Int)) (asc n (prevOf l i) (l.drop i)) := by
    intro m
    induction m with
    | zero =>
      intro i hi
      refine Ev.succ ?_
      simp only [impl_ascends.l0]
      refine Ev.neg (by omega) (Ev.some_ ?_)
      rw [drop_end l i (by omega)]
      cases prevOf l i <;> rfl
    | succ m ih =>
      intro i hi
      refine Ev.succ ?_
      simp only [impl_ascends.l0]
      have ih' := ih (i + 1) (by omega)
      rw [asc_step l n i (by omega)]
      rw [show wrap64 (n - 1) = n - 1 from w64 (by omega) (by omega), up1 i (by omega)]
      refine Ev.pos (by omega) (Ev.pos (by omega) (Ev.pos (by omega) (Ev.bnd0 (impl_inRange_eq _ _ _) ?_)))
      by_cases hv : 0 ≤ rd l (i : Int) ∧ rd l (i : Int) ≤ n - 1
      · refine Ev.pos (by simpa using hv) ?_
        by_cases h0 : (i : Int) > 0
        · rw [show wrap64 ((i : Int) - 1) = (i : Int) - 1 from w64 (by omega) (by omega)]
          refine Ev.pos h0 (Ev.pos (by omega) (Ev.pos (by omega) ?_))
          by_cases h1 : rd l (i : Int) ≤ rd l ((i : Int) - 1)
          · refine Ev.pos h1 (Ev.some_ ?_)
            have h2 : ¬ (rd l ((i : Int) - 1) < rd l (i : Int)) := by omega
            have h3 : ¬ (i = 0) := by omega
            simp [h2, h3]
          · refine Ev.neg h1 (Ev_eq ih' ?_)
            have h2 : rd l ((i : Int) - 1) < rd l (i : Int) := by omega
            simp [hv, h2]
        · refine Ev.neg h0 (Ev_eq ih' ?_)
          rw [show decide (0 ≤ rd l (i : Int) ∧ rd l (i : Int) ≤ n - 1) = true from decide_eq_true hv, show decide (i = 0) = true from decide_eq_true (by omega)]
          rfl
      · refine Ev.neg (by simpa using hv) (Ev.some_ ?_)
        rw [show decide (0 ≤ rd l (i : Int) ∧ rd l (i : Int) ≤ n - 1) = false from by simpa using hv]
        rfl
  exact key l.length 0 (by omega)
theorem impl_GraphOk_ev (l : List (List Int)) (hl : l.length ≤ 140737488351232) (hx : ∀ x ∈ l, x.length ≤ 140737488351232) : Ev (fun k => impl_GraphOk.f k l) (graphOk l) := by
  simp only [impl_GraphOk.f]
  have key : ∀ (m i : Nat), i + m = l.length → Ev (fun k => impl_GraphOk.l0 k l l (l.length : Int) (i : Int)) (decide (l.length ≤ 40) && gAll i (l.drop i)) := by
    intro m
    induction m with
    | zero =>
      intro i hi
      refine Ev.succ ?_
      simp only [impl_GraphOk.l0]
      refine Ev.neg (by omega) (Ev.some_ ?_)
      rw [drop_end l i (by omega)]
      simp [gAll]
      omega
    | succ m ih =>
      intro i hi
      refine Ev.succ ?_
      simp only [impl_GraphOk.l0]
      have ih' := ih (i + 1) (by omega)
      have hr := rdL_nat l i (by omega)
      rw [hr, up1 i (by omega), List.drop_eq_getElem_cons (show i < l.length by omega)]
      simp only [gAll]
      refine Ev.pos (by omega) (Ev.pos (by omega) (Ev.pos (by omega) ?_))
      by_cases h4 : ((l[i]'(by omega)).length : Int) > 4
      · refine Ev.pos h4 (Ev.some_ ?_)
        rw [show decide ((l[i]'(by omega)).length ≤ 4) = false from by simp; omega]
        simp
      · refine Ev.neg h4 (Ev.bnd (impl_ascends_ev _ _ (hx _ (List.getElem_mem _)) (by omega) (by omega)) ?_)
        rw [show decide ((l[i]'(by omega)).length ≤ 4) = true from by simp; omega]
        by_cases ha : asc (i : Int) none (l[i]'(by omega)) = true
        · refine Ev.pos ha (Ev_eq ih' ?_)
          rw [ha]; rfl
        · refine Ev.neg ha (Ev.some_ ?_)
          rw [Bool.eq_false_iff.2 ha]
          simp
  exact key l.length 0 (by omega)
/-! ancestors -/
def row (ps : List (List Int)) (v : Nat) : List Int := ps.getD v []
/-- u is v, or an ancestor of it. -/
inductive Anc (ps : List (List Int)) : Nat → Nat → Prop
  | refl (v : Nat) : Anc ps v v
  | step {v p u : Nat} : (p : Int) ∈ row ps v → Anc ps p u → Anc ps v u
/-- Parents are smaller, and there. -/
def Down (ps : List (List Int)) : Prop := ∀ v, v < ps.length → ∀ p ∈ row ps v, 0 ≤ p ∧ p < (v : Int)
theorem asc_bound : ∀ (l : List Int) (n : Int) (o : Option Int), asc n o l = true → ∀ p ∈ l, 0 ≤ p ∧ p ≤ n - 1
  | [], _, _, _ => by simp
  | x :: l, n, o, h => by
    intro p hp
    have hx : 0 ≤ x ∧ x ≤ n - 1 := by
      cases o <;> simp [asc] at h <;> omega
    have hl : asc n (some x) l = true := by
      cases o <;> simp [asc] at h
      · exact h.2
      · exact h.2
    rcases List.mem_cons.1 hp with rfl | hp
    · exact hx
    · exact asc_bound l n (some x) hl p hp
theorem gAll_get : ∀ (ps : List (List Int)) (v : Nat), gAll v ps = true → ∀ i (h : i < ps.length), (ps[i]).length ≤ 4 ∧ asc ((v + i : Nat) : Int) none ps[i] = true
  | r :: ps, v, h, 0, _ => by
    simp [gAll] at h
    simpa using h.1
  | r :: ps, v, h, i + 1, hi => by
    have h2 : gAll (v + 1) ps = true := by
      simp [gAll] at h
      exact h.2
    have := gAll_get ps (v + 1) h2 i (by simpa using hi)
    have e : v + 1 + i = v + (i + 1) := by omega
    rw [e] at this
    simpa using this
theorem row_get (ps : List (List Int)) (v : Nat) (h : v < ps.length) : row ps v = ps[v] := by
  simp [row, List.getD, List.getElem?_eq_getElem h]
theorem graphOk_down {ps : List (List Int)} (h : graphOk ps = true) : Down ps := by
  intro v hv p hp
  simp only [graphOk, Bool.and_eq_true, decide_eq_true_eq] at h
  have := (gAll_get ps 0 h.2 v hv).2
  rw [row_get ps v hv] at hp
  have := asc_bound _ _ _ this p hp
  omega
theorem graphOk_len {ps : List (List Int)} (h : graphOk ps = true) : ps.length ≤ 40 := by
  simp only [graphOk, Bool.and_eq_true, decide_eq_true_eq] at h
  exact h.1
theorem Anc.le {ps : List (List Int)} (hd : Down ps) {v u : Nat} (h : Anc ps v u) : v < ps.length → u ≤ v := by
  induction h with
  | refl => intro _; exact Nat.le_refl _
  | step hp _ ih =>
    intro hv
    have := hd _ hv _ hp
    have := ih (by omega)
    omega
/-! spec.l05Set: which versions are in the closure of one of a list -/
def gB (x : List Bool) (u : Nat) : Bool := x.getD u false
theorem gB_set (x : List Bool) (i u : Nat) (h : i < x.length) : gB (x.set i true) u = (gB x u || decide (u = i)) := by
  unfold gB
  by_cases hu : u = i
  · subst hu
    simp [List.getD, List.getElem?_set_self h]
  · simp [List.getD, List.getElem?_set_ne (Ne.symm hu), hu]
/-- What an array of marks tells: every mark is an ancestor of one of a list. -/
def Sound (ps : List (List Int)) (S : List Int) (x : List Bool) : Prop := ∀ u, gB x u = true → ∃ s : Nat, (s : Int) ∈ S ∧ s < ps.length ∧ Anc ps s u
def Holds (ps : List (List Int)) (S : List Int) (x : List Bool) : Prop := ∀ s : Nat, (s : Int) ∈ S → s < ps.length → gB x s = true
def Closed (ps : List (List Int)) (x : List Bool) (v : Nat) : Prop := ∀ y, v ≤ y → y < ps.length → gB x y = true → ∀ p : Nat, (p : Int) ∈ row ps y → gB x p = true
theorem marks_all {ps : List (List Int)} {S : List Int} {x : List Bool} (hd : Down ps) (h1 : Sound ps S x) (h2 : Holds ps S x) (h3 : Closed ps x 0) (u : Nat) : gB x u = true ↔ ∃ s : Nat, (s : Int) ∈ S ∧ s < ps.length ∧ Anc ps s u := by
  refine ⟨h1 u, ?_⟩
  rintro ⟨s, hs, hl, ha⟩
  have key : ∀ {v w : Nat}, Anc ps v w → v < ps.length → gB x v = true → gB x w = true := by
    intro v w h
    induction h with
    | refl => intro _ h; exact h
    | step hp _ ih =>
      intro hv hb
      have := hd _ hv _ hp
      exact ih (by omega) (h3 _ (Nat.zero_le _) hv hb _ hp)
  exact key ha hl (h2 s hs hl)
theorem rdB_nat (x : List Bool) (i : Nat) : rdOf false x (i : Int) = gB x i := rfl
theorem Anc.trans {ps : List (List Int)} {a b c : Nat} (h : Anc ps a b) (k : Anc ps b c) : Anc ps a c := by
  induction h with
  | refl => exact k
  | step hp _ ih => exact Anc.step hp (ih k)
section
variable (ps : List (List Int)) (S : List Int) (hd : Down ps) (hn : ps.length ≤ 1000000) (hS : S.length ≤ 140737488351232) (hx : ∀ r ∈ ps, r.length ≤ 1000000)
include hd hn hx
theorem spec_l05Set_l2 (v : Nat) (hv : v < ps.length) (Q : List Bool → Prop) (hQ : ∀ z : List Bool, z.length = ps.length → Sound ps S z → Holds ps S z → Closed ps z v → ∃ r, Ev (fun k => spec_l05Set.l1 k ps z ((v : Int) - 1)) r ∧ Q r) :
    ∀ (n i : Nat) (x : List Bool), i + n = (row ps v).length → x.length = ps.length → Sound ps S x → Holds ps S x → Closed ps x (v + 1) → gB x v = true → (∀ j (h : j < (row ps v).length), j < i → gB x ((row ps v)[j]).toNat = true) → ∃ r, Ev (fun k => spec_l05Set.l2 k ps x (v : Int) (i : Int)) r ∧ Q r := by
  have hrow := rdL_nat ps v hv
  have hrg := row_get ps v hv
  have hrl : (row ps v).length ≤ 1000000 := by rw [hrg]; exact hx _ (List.getElem_mem _)
  intro n
  induction n with
  | zero =>
    intro i x hi hl h1 h2 h3 hb hj
    obtain ⟨r, hr, hq⟩ := hQ x hl h1 h2 (by
      intro y hy hyl hyb p hp
      by_cases e : y = v
      · subst e
        obtain ⟨j, hjl, hje⟩ := List.getElem_of_mem hp
        have := hj j hjl (by omega)
        rw [hje] at this
        simpa using this
      · exact h3 y (by omega) hyl hyb p hp)
    refine ⟨r, Ev.succ ?_, hq⟩
    simp only [spec_l05Set.l2]
    rw [hrow, ← hrg]
    refine Ev.pos (by omega) (Ev.pos (by omega) (Ev.neg (by omega) ?_))
    rw [w64 (by omega) (by omega)]
    exact hr
  | succ n ih =>
    intro i x hi hl h1 h2 h3 hb hj
    have hp := hd v hv _ (List.getElem_mem (show i < (row ps v).length by omega))
    have hrd : rd (row ps v) (i : Int) = (row ps v)[i]'(by omega) := rd_nat _ _ _
    obtain ⟨p, hpe⟩ := Int.eq_ofNat_of_zero_le hp.1
    have hmem : (p : Int) ∈ row ps v := by rw [← hpe]; exact List.getElem_mem _
    have hpl : p < x.length := by omega
    obtain ⟨r, hr, hq⟩ := ih (i + 1) (x.set p true) (by omega) (by rw [List.length_set]; exact hl) (by
        intro u hu
        rw [gB_set x p u hpl] at hu
        simp only [Bool.or_eq_true, decide_eq_true_eq] at hu
        rcases hu with hu | rfl
        · exact h1 u hu
        · obtain ⟨s, hs, hsl, ha⟩ := h1 v hb
          exact ⟨s, hs, hsl, ha.trans (Anc.step hmem (Anc.refl _))⟩) (by
        intro s hs hsl
        rw [gB_set x p s hpl, h2 s hs hsl]
        rfl) (by
        intro y hy hyl hyb q hq
        rw [gB_set x p y hpl] at hyb
        rw [gB_set x p q hpl]
        have : ¬ (y = p) := by omega
        simp only [this, decide_false, Bool.or_false] at hyb
        rw [h3 y hy hyl hyb q hq]
        rfl) (by rw [gB_set x p v hpl, hb]; rfl) (by
        intro j hjl hji
        rw [gB_set x p _ hpl]
        by_cases e : j = i
        · subst e
          rw [hpe]
          simp
        · rw [hj j hjl (by omega)]
          rfl)
    refine ⟨r, Ev.succ ?_, hq⟩
    simp only [spec_l05Set.l2]
    rw [hrow, ← hrg, hrd, hpe, up1 i (by omega), rdB_nat, Int.toNat_natCast]
    exact Ev.pos (by omega) (Ev.pos (by omega) (Ev.pos (by omega) (Ev.pos (by omega) (Ev.pos hb (Ev.pos (by omega) (Ev.pos (by omega) (Ev.pos (by omega) hr)))))))
theorem spec_l05Set_l1 : ∀ (v : Nat) (x : List Bool), v ≤ ps.length → x.length = ps.length → Sound ps S x → Holds ps S x → Closed ps x v → ∃ r, Ev (fun k => spec_l05Set.l1 k ps x ((v : Int) - 1)) r ∧ (r.length = ps.length ∧ ∀ u, gB r u = true ↔ ∃ s : Nat, (s : Int) ∈ S ∧ s < ps.length ∧ Anc ps s u) := by
  intro v
  induction v with
  | zero =>
    intro x _ hl h1 h2 h3
    refine ⟨x, Ev.succ ?_, hl, marks_all hd h1 h2 h3⟩
    simp only [spec_l05Set.l1]
    exact Ev.neg (by omega) (Ev.now _)
  | succ v ih =>
    intro x hv hl h1 h2 h3
    have e : (((v + 1 : Nat) : Int) - 1) = (v : Int) := by omega
    rw [e]
    by_cases hb : gB x v = true
    · obtain ⟨r, hr, hq⟩ := spec_l05Set_l2 ps S hd hn hx v (by omega) _ (fun z hzl a b c => ih z (by omega) hzl a b c) (row ps v).length 0 x (by omega) hl h1 h2 h3 hb (fun j _ h => absurd h (by omega))
      refine ⟨r, Ev.succ ?_, hq⟩
      simp only [spec_l05Set.l1]
      exact Ev.pos (by omega) hr
    · obtain ⟨r, hr, hq⟩ := ih x (by omega) hl h1 h2 (by
        intro y hy hyl hyb p hp
        by_cases e : y = v
        · subst e; exact absurd hyb hb
        · exact h3 y (by omega) hyl hyb p hp)
      refine ⟨r, Ev.succ ?_, hq⟩
      simp only [spec_l05Set.l1]
      refine Ev.pos (by omega) (Ev.succ ?_)
      simp only [spec_l05Set.l2]
      rw [rdL_nat ps v (by omega), rdB_nat, show wrap64 ((v : Int) - 1) = (v : Int) - 1 from w64 (by omega) (by omega)]
      refine Ev.pos (by omega) (Ev.pos (by omega) ?_)
      by_cases hz : ((0 : Int) < ((ps[v]'(by omega)).length : Int))
      · exact Ev.pos hz (Ev.pos (by omega) (Ev.neg hb hr))
      · exact Ev.neg hz hr
include hS
theorem spec_l05Set_ev : ∃ r, Ev (fun k => spec_l05Set.f k ps S) r ∧ (r.length = ps.length ∧ ∀ u, gB r u = true ↔ ∃ s : Nat, (s : Int) ∈ S ∧ s < ps.length ∧ Anc ps s u) := by
  have key : ∀ (n i : Nat) (x : List Bool), i + n = S.length → x.length = ps.length → Sound ps S x → (∀ s : Nat, (s : Int) ∈ S.take i → s < ps.length → gB x s = true) → ∃ r, Ev (fun k => spec_l05Set.l0 k ps S x (i : Int)) r ∧ (r.length = ps.length ∧ ∀ u, gB r u = true ↔ ∃ s : Nat, (s : Int) ∈ S ∧ s < ps.length ∧ Anc ps s u) := by
    intro n
    induction n with
    | zero =>
      intro i x hi hl h1 h2
      obtain ⟨r, hr, hq⟩ := spec_l05Set_l1 ps S hd hn hx ps.length x (Nat.le_refl _) hl h1 (fun s hs hsl => h2 s (by rw [List.take_of_length_le (by omega)]; exact hs) hsl) (fun y hy hyl => absurd hyl (by omega))
      refine ⟨r, Ev.succ ?_, hq⟩
      simp only [spec_l05Set.l0]
      refine Ev.neg (by omega) ?_
      rw [w64 (by omega) (by omega)]
      exact hr
    | succ n ih =>
      intro i x hi hl h1 h2
      have hrd : rd S (i : Int) = S[i]'(by omega) := rd_nat _ _ _
      have htk : S.take (i + 1) = S.take i ++ [S[i]'(by omega)] := List.take_succ_eq_append_getElem (by omega)
      by_cases hv : 0 ≤ S[i]'(by omega) ∧ S[i]'(by omega) ≤ (ps.length : Int) - 1
      · obtain ⟨s, hse⟩ := Int.eq_ofNat_of_zero_le hv.1
        have hmem : (s : Int) ∈ S := by rw [← hse]; exact List.getElem_mem _
        have hsl : s < x.length := by omega
        obtain ⟨r, hr, hq⟩ := ih (i + 1) (x.set s true) (by omega) (by rw [List.length_set]; exact hl) (by
          intro u hu
          rw [gB_set x s u hsl] at hu
          simp only [Bool.or_eq_true, decide_eq_true_eq] at hu
          rcases hu with hu | rfl
          · exact h1 u hu
          · exact ⟨u, hmem, by omega, Anc.refl _⟩) (by
          intro t ht htl
          rw [gB_set x s t hsl]
          rw [htk] at ht
          rcases List.mem_append.1 ht with ht | ht
          · rw [h2 t ht htl]; rfl
          · have : t = s := by have := List.mem_singleton.1 ht; omega
            simp [this])
        refine ⟨r, Ev.succ ?_, hq⟩
        simp only [spec_l05Set.l0]
        rw [hrd, w64 (by omega) (by omega), up1 i (by omega)]
        refine Ev.pos (by omega) (Ev.pos (by omega) (Ev.bnd0 (spec_l01In_eq _ _ _) (Ev.pos (by simpa using hv) ?_)))
        rw [hse, Int.toNat_natCast]
        exact Ev.pos (by omega) (Ev.pos (by omega) hr)
      · obtain ⟨r, hr, hq⟩ := ih (i + 1) x (by omega) hl h1 (by
          intro t ht htl
          rw [htk] at ht
          rcases List.mem_append.1 ht with ht | ht
          · exact h2 t ht htl
          · have := List.mem_singleton.1 ht
            exact absurd ⟨by omega, by omega⟩ hv)
        refine ⟨r, Ev.succ ?_, hq⟩
        simp only [spec_l05Set.l0]
        rw [hrd, w64 (by omega) (by omega), up1 i (by omega)]
        exact Ev.pos (by omega) (Ev.pos (by omega) (Ev.bnd0 (spec_l01In_eq _ _ _) (Ev.neg (by simpa using hv) hr)))
  have hz : ∀ u, gB (List.replicate ps.length false) u = false := by
    intro u
    simp only [gB, List.getD, List.getElem?_replicate]
    split <;> rfl
  obtain ⟨r, hr, hq⟩ := key S.length 0 (List.replicate ps.length false) (by omega) (by simp) (fun u hu => by rw [hz] at hu; cases hu) (fun s hs => by simp at hs)
  refine ⟨r, ?_, hq⟩
  simp only [spec_l05Set.f]
  refine Ev.pos (by omega) (Ev.pos (by omega) ?_)
  rw [Int.toNat_natCast]
  exact hr
end
/-! impl's closures, as bits -/
/-- All are words of 64 bits. -/
def Words (x : List Int) : Prop := ∀ v, v < x.length → 0 ≤ rd x (v : Int) ∧ rd x (v : Int) < 18446744073709551616
def wd (x : List Int) (v : Nat) : Nat := (rd x (v : Int)).toNat
theorem wd_lt {x : List Int} (h : Words x) {v : Nat} (hv : v < x.length) : wd x v < 2 ^ 64 := by
  have := h v hv
  unfold wd
  omega
theorem wd_cast {x : List Int} (h : Words x) {v : Nat} (hv : v < x.length) : rd x (v : Int) = (wd x v : Int) := by
  have := h v hv
  unfold wd
  omega
theorem impl_unionOf_ev (x : List Int) (hx : Words x) (l : List Int) (hl : l.length ≤ 140737488351232) (hp : ∀ p ∈ l, 0 ≤ p ∧ p < (x.length : Int)) :
    ∃ s : Nat, Ev (fun k => impl_unionOf.f k x l) (s : Int) ∧ s < 2 ^ 64 ∧ ∀ u, s.testBit u = true ↔ ∃ p : Nat, (p : Int) ∈ l ∧ (wd x p).testBit u = true := by
  simp only [impl_unionOf.f]
  have key : ∀ (n i s : Nat), i + n = l.length → s < 2 ^ 64 → ∃ r : Nat, Ev (fun k => impl_unionOf.l0 k x (s : Int) l (l.length : Int) (i : Int)) (r : Int) ∧ r < 2 ^ 64 ∧ ∀ u, r.testBit u = true ↔ (s.testBit u = true ∨ ∃ p : Nat, (p : Int) ∈ l.drop i ∧ (wd x p).testBit u = true) := by
    intro n
    induction n with
    | zero =>
      intro i s hi hs
      refine ⟨s, Ev.succ ?_, hs, fun u => ?_⟩
      · simp only [impl_unionOf.l0]
        exact Ev.neg (by omega) (Ev.now _)
      · rw [drop_end l i (by omega)]
        simp
    | succ n ih =>
      intro i s hi hs
      have hrd : rd l (i : Int) = l[i]'(by omega) := rd_nat _ _ _
      have hpi := hp _ (List.getElem_mem (show i < l.length by omega))
      obtain ⟨p, hpe⟩ := Int.eq_ofNat_of_zero_le hpi.1
      rw [hpe] at hpi
      have hlt := wd_lt hx (show p < x.length by omega)
      obtain ⟨r, hr, hr1, hr2⟩ := ih (i + 1) (s ||| wd x p) (by omega) (or_lt hs hlt)
      refine ⟨r, Ev.succ ?_, hr1, fun u => ?_⟩
      · simp only [impl_unionOf.l0]
        rw [hrd, hpe, wd_cast hx (show p < x.length by omega), or64 _ _ hs hlt, up1 i (by omega)]
        exact Ev.pos (by omega) (Ev.pos (by omega) (Ev.pos (by omega) (Ev.pos (by omega) (Ev.pos (by omega) hr))))
      · rw [hr2 u, Nat.testBit_or, List.drop_eq_getElem_cons (show i < l.length by omega), hpe]
        simp only [Bool.or_eq_true, List.mem_cons]
        constructor
        · rintro ((h | h) | ⟨q, hq, h⟩)
          · exact .inl h
          · exact .inr ⟨p, .inl rfl, h⟩
          · exact .inr ⟨q, .inr hq, h⟩
        · rintro (h | ⟨q, hq | hq, h⟩)
          · exact .inl (.inl h)
          · have : q = p := by omega
            exact .inl (.inr (this ▸ h))
          · exact .inr ⟨q, hq, h⟩
  obtain ⟨r, hr, hr1, hr2⟩ := key l.length 0 0 (by omega) (by decide)
  exact ⟨r, hr, hr1, fun u => by simpa using hr2 u⟩
theorem anc_iff (ps : List (List Int)) (v u : Nat) : Anc ps v u ↔ (u = v ∨ ∃ p : Nat, (p : Int) ∈ row ps v ∧ Anc ps p u) := by
  constructor
  · intro h
    cases h with
    | refl => exact .inl rfl
    | step hp ha => exact .inr ⟨_, hp, ha⟩
  · rintro (rfl | ⟨p, hp, ha⟩)
    · exact Anc.refl _
    · exact Anc.step hp ha
/-- Word v is the closure of version v. -/
def Clo (ps : List (List Int)) (x : List Int) (n : Nat) : Prop := ∀ v, v < n → ∀ u, (wd x v).testBit u = true ↔ Anc ps v u
theorem rd_set (x : List Int) (i : Nat) (a : Int) (v : Nat) (h : i < x.length) : rd (x.set i a) (v : Int) = if v = i then a else rd x (v : Int) := by
  by_cases e : v = i
  · subst e
    simp [rd, List.getD, List.getElem?_set_self h]
  · simp [rd, List.getD, List.getElem?_set_ne (Ne.symm e), e]
theorem impl_closures_ev (ps : List (List Int)) (hd : Down ps) (hn : ps.length ≤ 60) (hr : ∀ r ∈ ps, r.length ≤ 1000000) : ∃ x, Ev (fun k => impl_closures.f k ps) x ∧ x.length = ps.length ∧ Words x ∧ Clo ps x ps.length := by
  simp only [impl_closures.f]
  have key : ∀ (n i : Nat) (x : List Int), i + n = ps.length → x.length = ps.length → Words x → Clo ps x i → ∃ y, Ev (fun k => impl_closures.l0 k x ps (ps.length : Int) (i : Int)) y ∧ y.length = ps.length ∧ Words y ∧ Clo ps y ps.length := by
    intro n
    induction n with
    | zero =>
      intro i x hi hl hw hc
      refine ⟨x, Ev.succ ?_, hl, hw, by rw [show ps.length = i by omega]; exact hc⟩
      simp only [impl_closures.l0]
      exact Ev.neg (by omega) (Ev.now _)
    | succ n ih =>
      intro i x hi hl hw hc
      have hrow := rdL_nat ps i (by omega)
      have hrg := row_get ps i (by omega)
      obtain ⟨s, hs, hs1, hs2⟩ := impl_unionOf_ev x hw (ps[i]'(by omega)) (by have := hr _ (List.getElem_mem (show i < ps.length by omega)); omega) (fun p hp => by
        have := hd i (by omega) p (by rw [hrg]; exact hp)
        omega)
      have h2 : 2 ^ i < 2 ^ 64 := two_pow_lt (by omega)
      have hor := or_lt hs1 h2
      obtain ⟨y, hy, hy1⟩ := ih (i + 1) (x.set i ((s ||| 2 ^ i : Nat) : Int)) (by omega) (by rw [List.length_set]; exact hl) (by
        intro v hv
        rw [List.length_set] at hv
        rw [rd_set x i _ v (by omega)]
        split
        · omega
        · exact hw v hv) (by
        intro v hv u
        unfold wd
        rw [rd_set x i _ v (by omega)]
        by_cases e : v = i
        · subst e
          rw [if_pos rfl, Int.toNat_natCast, Nat.testBit_or, anc_iff]
          simp only [Bool.or_eq_true, Nat.testBit_two_pow, decide_eq_true_eq]
          rw [hs2 u]
          constructor
          · rintro (⟨p, hp, h⟩ | h)
            · rw [← hrg] at hp
              have := hd v (by omega) _ hp
              exact .inr ⟨p, hp, (hc p (by omega) u).1 h⟩
            · exact .inl h.symm
          · rintro (h | ⟨p, hp, h⟩)
            · exact .inr h.symm
            · have := hd v (by omega) _ hp
              rw [hrg] at hp
              exact .inl ⟨p, hp, (hc p (by omega) u).2 h⟩
        · rw [if_neg e]
          exact hc v (by omega) u)
      refine ⟨y, Ev.succ ?_, hy1⟩
      simp only [impl_closures.l0]
      rw [hrow, up1 i (by omega), wrapu64 _ (by omega) (by omega), shl64_one i (by omega)]
      refine Ev.pos (by omega) (Ev.pos (by omega) (Ev.pos (by omega) (Ev.bnd hs (Ev.pos (by omega) (Ev.pos (by omega) ?_)))))
      rw [or64 _ _ hs1 h2, Int.toNat_natCast]
      exact hy
  obtain ⟨y, hy, hy1⟩ := key ps.length 0 (List.replicate ps.length 0) (by omega) (by simp) (fun v hv => by
    rw [List.length_replicate] at hv
    simp [rd, List.getD, hv]) (fun v hv => absurd hv (by omega))
  refine ⟨y, ?_, hy1⟩
  refine Ev.pos (by omega) (Ev.pos (by omega) ?_)
  rw [Int.toNat_natCast]
  exact hy
theorem impl_set_has_eq (c : Nat) (hc : c < 2 ^ 64) (u : Int) : impl_set_has.f (c : Int) u = some (decide (0 ≤ u ∧ u ≤ 63) && c.testBit u.toNat) := by
  simp only [impl_set_has.f]
  rw [impl_inRange_eq]
  simp only [Option.bind_some]
  by_cases h : 0 ≤ u ∧ u ≤ 63
  · rw [if_pos (by simpa using h), wrapu64 _ (by omega) (by omega), if_pos (by omega)]
    obtain ⟨v, rfl⟩ := Int.eq_ofNat_of_zero_le h.1
    congr 1
    have e : shr .u64 (c : Int) (v : Int) = ((c / 2 ^ v : Nat) : Int) := by
      unfold shr
      have e : min ((v : Int)).toNat IntKind.u64.bits = v := by simp [IntKind.bits]; omega
      rw [e]
      simp
    rw [e]
    have hlt : c / 2 ^ v < 2 ^ 64 := Nat.lt_of_le_of_lt (Nat.div_le_self _ _) hc
    have := and64 (c / 2 ^ v) 1 hlt (by decide)
    rw [show ((1 : Nat) : Int) = 1 from rfl] at this
    rw [this, Nat.and_one_is_mod]
    rw [show decide (0 ≤ (v : Int) ∧ (v : Int) ≤ 63) = true from decide_eq_true h, Bool.true_and, Int.toNat_natCast, Nat.testBit_eq_decide_div_mod_eq]
    by_cases hm : c / 2 ^ v % 2 = 1
    · simp [hm]
    · have : c / 2 ^ v % 2 = 0 := by omega
      simp [this]
  · rw [if_neg (by simpa using h)]
    rw [show decide (0 ≤ u ∧ u ≤ 63) = false from by simpa using h]
    rfl
theorem impl_isPlace_eq (a : Int) (n : Nat) (hn : n ≤ 140737488351232) : impl_isPlace.f a (n : Int) = some (decide (0 ≤ a ∧ a ≤ (n : Int) - 1)) := by
  simp only [impl_isPlace.f]
  rw [w64 (by omega) (by omega), impl_inRange_eq]
  rfl
open Classical in
/-- What IsAncestor answers. -/
noncomputable def isAnc (ps : List (List Int)) (a b : Int) : Bool := graphOk ps && decide (0 ≤ a ∧ a ≤ (ps.length : Int) - 1) && decide (0 ≤ b ∧ b ≤ (ps.length : Int) - 1) && decide (Anc ps b.toNat a.toNat)
theorem spec_l05Has_ev (ps : List (List Int)) (hl : ps.length ≤ 140737488351232) (hx : ∀ x ∈ ps, x.length ≤ 140737488351232) (v : Int) : Ev (fun k => spec_l05Has.f k ps v) (graphOk ps && decide (0 ≤ v ∧ v ≤ (ps.length : Int) - 1)) := by
  simp only [spec_l05Has.f]
  refine Ev.bnd (spec_GraphOk_ev ps hl hx) ?_
  by_cases h : graphOk ps = true
  · refine Ev.pos h ?_
    rw [w64 (by omega) (by omega)]
    exact Ev.bnd0 (spec_l01In_eq _ _ _) (Ev.some_ (by rw [h]; rfl))
  · exact Ev.neg h (Ev.some_ (by rw [Bool.eq_false_iff.2 h]; rfl))
theorem rows4 {ps : List (List Int)} (h : graphOk ps = true) : ∀ r ∈ ps, r.length ≤ 1000000 := by
  intro r hr
  simp only [graphOk, Bool.and_eq_true, decide_eq_true_eq] at h
  obtain ⟨i, hi, rfl⟩ := List.getElem_of_mem hr
  have := (gAll_get ps 0 h.2 i hi).1
  omega
open Classical in
theorem spec_IsAncestor_ev (ps : List (List Int)) (hl : ps.length ≤ 140737488351232) (hx : ∀ x ∈ ps, x.length ≤ 140737488351232) (a b : Int) : Ev (fun k => spec_IsAncestor.f k ps a b) (isAnc ps a b) := by
  simp only [spec_IsAncestor.f]
  refine Ev.bnd (spec_l05Has_ev ps hl hx a) ?_
  by_cases h1 : (graphOk ps && decide (0 ≤ a ∧ a ≤ (ps.length : Int) - 1)) = true
  · refine Ev.pos h1 (Ev.bnd (spec_l05Has_ev ps hl hx b) ?_)
    have h1' := h1
    simp only [Bool.and_eq_true, decide_eq_true_eq] at h1'
    by_cases h2 : (graphOk ps && decide (0 ≤ b ∧ b ≤ (ps.length : Int) - 1)) = true
    · refine Ev.pos h2 ?_
      have h2' := h2
      simp only [Bool.and_eq_true, decide_eq_true_eq] at h2'
      have hd := graphOk_down h1'.1
      have hn := graphOk_len h1'.1
      obtain ⟨r, hr, hrl, hru⟩ := spec_l05Set_ev ps [b] hd (by omega) (by simp) (rows4 h1'.1)
      refine Ev.bnd hr (Ev.pos (by omega) (Ev.pos (by omega) (Ev.some_ ?_)))
      obtain ⟨a, rfl⟩ := Int.eq_ofNat_of_zero_le h1'.2.1
      obtain ⟨b, rfl⟩ := Int.eq_ofNat_of_zero_le h2'.2.1
      rw [rdB_nat]
      simp only [isAnc, h1'.1, decide_eq_true h1'.2, decide_eq_true h2'.2, Bool.true_and, Int.toNat_natCast]
      rw [Bool.eq_iff_iff, hru a, @decide_eq_true_eq _ _]
      constructor
      · rintro ⟨s, hs, _, ha⟩
        have : s = b := by have := List.mem_singleton.1 hs; omega
        exact this ▸ ha
      · intro ha
        exact ⟨b, by simp, by omega, ha⟩
    · refine Ev.neg h2 (Ev.some_ ?_)
      have h3 : decide (0 ≤ b ∧ b ≤ (ps.length : Int) - 1) = false := by
        rw [h1'.1, Bool.true_and] at h2
        exact Bool.eq_false_iff.2 h2
      simp only [isAnc, h3, Bool.and_false, Bool.false_and]
  · refine Ev.neg h1 (Ev.some_ ?_)
    simp only [isAnc, Bool.eq_false_iff.2 h1, Bool.false_and]
open Classical in
theorem impl_IsAncestor_ev (ps : List (List Int)) (hl : ps.length ≤ 140737488351232) (hx : ∀ x ∈ ps, x.length ≤ 140737488351232) (a b : Int) : Ev (fun k => impl_IsAncestor.f k ps a b) (isAnc ps a b) := by
  simp only [impl_IsAncestor.f]
  refine Ev.bnd0 (impl_isPlace_eq a ps.length hl) ?_
  by_cases ha : 0 ≤ a ∧ a ≤ (ps.length : Int) - 1
  · refine Ev.pos (decide_eq_true ha) (Ev.bnd0 (impl_isPlace_eq b ps.length hl) ?_)
    by_cases hb : 0 ≤ b ∧ b ≤ (ps.length : Int) - 1
    · refine Ev.pos (decide_eq_true hb) (Ev.bnd (impl_GraphOk_ev ps hl hx) (Ev.succ ?_))
      simp only [impl_IsAncestor.j0]
      by_cases hg : graphOk ps = true
      · refine Ev.neg (by simp [hg]) ?_
        have hd := graphOk_down hg
        have hn := graphOk_len hg
        obtain ⟨x, hx1, hxl, hw, hc⟩ := impl_closures_ev ps hd (by omega) (rows4 hg)
        obtain ⟨u, rfl⟩ := Int.eq_ofNat_of_zero_le ha.1
        obtain ⟨v, rfl⟩ := Int.eq_ofNat_of_zero_le hb.1
        refine Ev.bnd hx1 (Ev.pos (by omega) (Ev.pos (by omega) ?_))
        rw [wd_cast hw (show v < x.length by omega)]
        refine Ev.bnd0 (impl_set_has_eq _ (wd_lt hw (by omega)) _) (Ev.some_ ?_)
        rw [show decide (0 ≤ (u : Int) ∧ (u : Int) ≤ 63) = true from decide_eq_true ⟨by omega, by omega⟩, Bool.true_and, Int.toNat_natCast]
        simp only [isAnc, hg, decide_eq_true ha, decide_eq_true hb, Bool.true_and, Int.toNat_natCast]
        rw [Bool.eq_iff_iff, hc v (by omega) u, @decide_eq_true_eq _ _]
      · refine Ev.pos (by simp [Bool.eq_false_iff.2 hg]) (Ev.some_ ?_)
        simp only [isAnc, Bool.eq_false_iff.2 hg, Bool.false_and]
    · refine Ev.neg (by simpa using hb) (Ev.succ ?_)
      simp only [impl_IsAncestor.j0]
      refine Ev.pos trivial (Ev.some_ ?_)
      simp only [isAnc, show decide (0 ≤ b ∧ b ≤ (ps.length : Int) - 1) = false from by simpa using hb, Bool.and_false, Bool.false_and]
  · refine Ev.neg (by simpa using ha) (Ev.succ ?_)
    simp only [impl_IsAncestor.j0]
    refine Ev.pos trivial (Ev.some_ ?_)
    simp only [isAnc, show decide (0 ≤ a ∧ a ≤ (ps.length : Int) - 1) = false from by simpa using ha, Bool.and_false, Bool.false_and]
theorem FnExactIsAncestor : laws_FnExactIsAncestor.Pure := by
  intro l a b hl _ _
  refine Ev.rounds (r := true) ?_
  simp only [laws_FnExactIsAncestor.f]
  have hx : ∀ x ∈ l, x.length ≤ 140737488351232 := fun x hx => by have := (hl.2 x hx).1; omega
  obtain ⟨r, hr, hp⟩ := laws_szIntSS_ev l 1048576 (by omega) (by omega) (by omega) hx
  refine Ev.bnd hr ?_
  by_cases h : r < 0
  · exact Ev.pos h (Ev.now _)
  obtain ⟨p1, p2⟩ := hp (by omega)
  have h1 : l.length ≤ 11728124029610 := by omega
  have h2 : ∀ x ∈ l, x.length ≤ 35184372088832 := fun x hx => by have := p2 x hx; omega
  exact Ev.neg h (Ev.bnd (laws_toIntSS_ev l h1 h2) (Ev.bnd (spec_IsAncestor_ev l (by omega) hx a b) (Ev.bnd (laws_toIntSS_ev l h1 h2) (Ev.bnd (impl_IsAncestor_ev l (by omega) hx a b) (Ev.neg (by simp) (Ev.bnd (laws_toIntSS_ev l h1 h2) (Ev.bnd (laws_eqIntSS_refl l (by omega) hx) (Ev.pos rfl (Ev.now _)))))))))

end Go.Proofs.Ytpojmcpfgllbfaa.Pure
