/- The program's WeaveText returns what the reference's returns, for every weave that the row reads; the weave is left as it was. -/
import Derived.Test.YtmodgiingohphaaPFnExactWeaveTextx17
import Derived.Test.YtmodgiingohphaaGen
namespace Go.Proofs.Ytmodgiingohphaa.Pure
open Go.RowKit Go.Proofs.Ytmodgiingohphaa.PFnExactWeaveText Go.Proofs.YtmodgiingohphaaW.PrintWords Go.Proofs.YtmodgiingohphaaW.PrintLast Go.Proofs.YtmodgiingohphaaG

theorem laws_szIntSS_ev (l : List (List Int)) (m : Int) (hm0 : 0 ≤ m) (hm : m ≤ 140737488351232) (hl : l.length ≤ 140737488351232) (hx : ∀ x ∈ l, x.length ≤ 140737488351232) : ∃ r, Ev (fun k => laws_szIntSS.f k l m) r ∧ (0 ≤ r → (l.length : Int) + r ≤ m ∧ ∀ x ∈ l, ((x.length : Nat) : Int) ≤ m) := by
  have key : ∀ (n i : Nat) (c : Int), i + n = l.length → 0 ≤ c → c ≤ 140737488351232 → ∃ r, Ev (fun k => laws_szIntSS.l0 k l c (i : Int)) r ∧ (0 ≤ r → r ≤ c ∧ ∀ x ∈ l.drop i, ((x.length : Nat) : Int) ≤ c) := by
    intro n
    induction n with
    | zero =>
      intro i c hi hc0 hc
      refine ⟨c, Ev.succ ?_, fun _ => ⟨Int.le_refl _, ?_⟩⟩
      · simp only [laws_szIntSS.l0]
        exact Ev.neg (by omega) (Ev.now _)
      · rw [drop_end l i (by omega)]
        simp
    | succ n ih =>
      intro i c hi hc0 hc
      have hr : rd_L1 l (i : Int) = l[i]'(by omega) := by simp [rd_L1, List.getD, List.getElem?_eq_getElem (show i < l.length by omega)]
      have hs := hx _ (List.getElem_mem (show i < l.length by omega))
      have hd : l.drop i = l[i]'(by omega) :: l.drop (i + 1) := List.drop_eq_getElem_cons (by omega)
      have hw : wrap64 (c - (((rd_L1 l (i : Int)).length : Nat) : Int)) = c - (((l[i]'(by omega)).length : Nat) : Int) := by rw [hr]; exact w64 (by omega) (by omega)
      by_cases h : c - (((l[i]'(by omega)).length : Nat) : Int) < 0
      · refine ⟨-1, Ev.succ ?_, fun h => absurd h (by omega)⟩
        simp only [laws_szIntSS.l0]
        exact Ev.pos (by omega) (Ev.pos (by omega) (Ev.bnd0 (a := -1) (by simp only [laws_szIntS.f]; rw [if_pos (by rw [hw]; exact h)]) (Ev.pos (by omega) (Ev.now _))))
      · obtain ⟨r, hev, hp⟩ := ih (i + 1) (c - (((l[i]'(by omega)).length : Nat) : Int)) (by omega) (by omega) (by omega)
        refine ⟨r, Ev.succ ?_, fun h0 => ?_⟩
        · simp only [laws_szIntSS.l0]
          refine Ev.pos (by omega) (Ev.pos (by omega) (Ev.bnd0 (a := c - (((l[i]'(by omega)).length : Nat) : Int)) (by simp only [laws_szIntS.f]; rw [if_neg (by rw [hw]; exact h), hw]) (Ev.neg h ?_)))
          rw [up1 i (by omega)]
          exact hev
        · obtain ⟨p1, p2⟩ := hp h0
          refine ⟨by omega, fun x hx => ?_⟩
          rw [hd] at hx
          rcases List.mem_cons.1 hx with rfl | hx
          · omega
          · have := p2 x hx
            omega
  simp only [laws_szIntSS.f]
  by_cases h : wrap64 (m - (l.length : Int)) < 0
  · exact ⟨-1, Ev.pos h (Ev.now _), fun h => absurd h (by omega)⟩
  · have h1 : ¬ (m - (l.length : Int) < 0) := by rw [w64 (by omega) (by omega)] at h; exact h
    obtain ⟨r, hr, hp⟩ := key l.length 0 (m - (l.length : Int)) (by omega) (by omega) (by omega)
    refine ⟨r, Ev.neg h ?_, fun h0 => ?_⟩
    · rw [w64 (by omega) (by omega)]
      exact hr
    · obtain ⟨p1, p2⟩ := hp h0
      refine ⟨by omega, fun x hx => ?_⟩
      have := p2 x (by simpa using hx)
      omega
theorem laws_toIntS_l0 (l : List Int) (hl : l.length ≤ 140737488351232) : ∀ (n i : Nat) (x : List Int), i + n = l.length → x.length = l.length → (∀ j, j < i → x[j]? = l[j]?) → Ev (fun k => laws_toIntS.l0 k l x (i : Int)) l := by
  intro n
  induction n with
  | zero =>
    intro i x hi hx hj
    refine Ev.succ ?_
    simp only [laws_toIntS.l0]
    refine Ev.neg (by omega) (Ev.some_ ?_)
    apply List.ext_getElem?
    intro j
    by_cases h : j < i
    · exact hj j h
    · rw [List.getElem?_eq_none (by omega), List.getElem?_eq_none (by omega)]
  | succ n ih =>
    intro i x hi hx hj
    refine Ev.succ ?_
    simp only [laws_toIntS.l0]
    refine Ev.pos (by omega) (Ev.pos (by omega) (Ev.pos (by omega) ?_))
    have e : wrap64 ((i : Int) + 1) = ((i + 1 : Nat) : Int) := by rw [w64 (by omega) (by omega)]; omega
    have e2 : ((i : Int)).toNat = i := by omega
    rw [e, e2]
    refine ih (i + 1) _ (by omega) (by rw [List.length_set]; exact hx) ?_
    intro j hj'
    by_cases h : j = i
    · subst h
      rw [List.getElem?_set_self (by omega)]
      simp [rd, List.getD, List.getElem?_eq_getElem (show j < l.length by omega)]
    · rw [List.getElem?_set_ne (by omega)]
      exact hj j (by omega)
theorem laws_toIntS_ev (l : List Int) (hl : l.length ≤ 35184372088832) : Ev (fun k => laws_toIntS.f k l) l := by
  simp only [laws_toIntS.f]
  refine Ev.pos (by omega) (Ev.pos (by omega) ?_)
  exact laws_toIntS_l0 l (by omega) l.length 0 _ (by omega) (by simp) (fun j h => absurd h (by omega))

theorem laws_toIntSS_ev (l : List (List Int)) (hl : l.length ≤ 11728124029610) (hx : ∀ x ∈ l, x.length ≤ 35184372088832) : Ev (fun k => laws_toIntSS.f k l) l := by
  simp only [laws_toIntSS.f]
  refine Ev.pos (by omega) (Ev.pos (by omega) ?_)
  have key : ∀ (n i : Nat) (x : List (List Int)), i + n = l.length → x.length = l.length → (∀ j, j < i → x[j]? = l[j]?) → Ev (fun k => laws_toIntSS.l0 k l x (i : Int)) l := by
    intro n
    induction n with
    | zero =>
      intro i x hi hx hj
      refine Ev.succ ?_
      simp only [laws_toIntSS.l0]
      refine Ev.neg (by omega) (Ev.some_ ?_)
      apply List.ext_getElem?
      intro j
      by_cases h : j < i
      · exact hj j h
      · rw [List.getElem?_eq_none (by omega), List.getElem?_eq_none (by omega)]
    | succ n ih =>
      intro i x hi hx' hj
      refine Ev.succ ?_
      simp only [laws_toIntSS.l0]
      have hr : rd_L1 l (i : Int) = l[i]'(by omega) := by simp [rd_L1, List.getD, List.getElem?_eq_getElem (show i < l.length by omega)]
      refine Ev.pos (by omega) (Ev.pos (by omega) ?_)
      rw [up1 i (by omega), hr]
      refine Ev.bnd (laws_toIntS_ev _ (hx _ (List.getElem_mem _))) (Ev.pos (by omega) ?_)
      have e2 : ((i : Int)).toNat = i := by omega
      rw [e2]
      refine ih (i + 1) _ (by omega) (by rw [List.length_set]; exact hx') ?_
      intro j hj'
      by_cases h : j = i
      · subst h
        rw [List.getElem?_set_self (by omega), List.getElem?_eq_getElem (by omega)]
      · rw [List.getElem?_set_ne (by omega)]
        exact hj j (by omega)
  exact key l.length 0 _ (by omega) (by simp) (fun j h => absurd h (by omega))
theorem laws_eqIntS_refl (l : List Int) (hl : l.length ≤ 140737488351232) : Ev (fun k => laws_eqIntS.f k l l) true := by
  simp only [laws_eqIntS.f]
  refine Ev.pos (by first | rfl | trivial) ?_
  have key : ∀ (n i : Nat), i + n = l.length → Ev (fun k => laws_eqIntS.l0 k l l (i : Int)) true := by
    intro n
    induction n with
    | zero =>
      intro i hi
      refine Ev.succ ?_
      simp only [laws_eqIntS.l0]
      exact Ev.neg (by omega) (Ev.now _)
    | succ n ih =>
      intro i hi
      refine Ev.succ ?_
      simp only [laws_eqIntS.l0]
      have e : wrap64 ((i : Int) + 1) = ((i + 1 : Nat) : Int) := by rw [w64 (by omega) (by omega)]; omega
      rw [e]
      exact Ev.pos (by omega) (Ev.pos (by omega) (Ev.pos (by omega) (Ev.pos (by first | rfl | trivial) (ih (i + 1) (by omega)))))
  exact key l.length 0 (by omega)

theorem laws_eqIntSS_refl (l : List (List Int)) (hl : l.length ≤ 140737488351232) (hx : ∀ x ∈ l, x.length ≤ 140737488351232) : Ev (fun k => laws_eqIntSS.f k l l) true := by
  simp only [laws_eqIntSS.f]
  refine Ev.pos (by first | rfl | trivial) ?_
  have key : ∀ (n i : Nat), i + n = l.length → Ev (fun k => laws_eqIntSS.l0 k l l (i : Int)) true := by
    intro n
    induction n with
    | zero =>
      intro i hi
      refine Ev.succ ?_
      simp only [laws_eqIntSS.l0]
      exact Ev.neg (by omega) (Ev.now _)
    | succ n ih =>
      intro i hi
      refine Ev.succ ?_
      simp only [laws_eqIntSS.l0]
      refine Ev.pos (by omega) (Ev.pos (by omega) (Ev.pos (by omega) ?_))
      rw [up1 i (by omega)]
      have hr : rd_L1 l (i : Int) = l[i]'(by omega) := by simp [rd_L1, List.getD, List.getElem?_eq_getElem (show i < l.length by omega)]
      rw [hr]
      exact Ev.bnd (laws_eqIntS_refl _ (hx _ (List.getElem_mem _))) (Ev.pos (by first | rfl | trivial) (ih (i + 1) (by omega)))
  exact key l.length 0 (by omega)
/-! what a law does with a weave that came in -/
theorem laws_szBody_eq (s : ByteArray) (a b : Int) (d : List Int) (m : Int) (hm0 : 0 ≤ m) (hm : m ≤ 140737488351232) (hs : s.size ≤ 140737488351232) (hd : d.length ≤ 140737488351232) : ∃ r, laws_szBody.f s a b d m = some r ∧ (0 ≤ r → r ≤ m ∧ (s.size : Int) ≤ m ∧ (d.length : Int) ≤ m) := by
  simp only [laws_szBody.f, laws_szIntS.f]
  rw [w64 (by omega) (by omega)]
  by_cases h : m - (s.size : Int) < 0
  · exact ⟨-1, by rw [if_pos h], fun h => by omega⟩
  · rw [if_neg h, w64 (by omega) (by omega)]
    by_cases h2 : m - (s.size : Int) - (d.length : Int) < 0
    · exact ⟨-1, by rw [if_pos h2]; simp, fun h => by omega⟩
    · refine ⟨m - s.size - d.length, by rw [if_neg h2]; simp only [Option.bind_some]; rw [if_neg h2], fun _ => ⟨by omega, by omega, by omega⟩⟩
theorem laws_szBodyS_ev (l : List S120) (m : Int) (hm0 : 0 ≤ m) (hm : m ≤ 140737488351232) (hl : l.length ≤ 140737488351232) (hx : ∀ x ∈ l, x.f0.size ≤ 140737488351232 ∧ x.f3.length ≤ 140737488351232) : ∃ r, Ev (fun k => laws_szBodyS.f k l m) r ∧ (0 ≤ r → (l.length : Int) + r ≤ m ∧ ∀ x ∈ l, (x.f0.size : Int) ≤ m ∧ (x.f3.length : Int) ≤ m) := by
  have key : ∀ (n i : Nat) (c : Int), i + n = l.length → 0 ≤ c → c ≤ 140737488351232 → ∃ r, Ev (fun k => laws_szBodyS.l0 k l c (i : Int)) r ∧ (0 ≤ r → r ≤ c ∧ ∀ x ∈ l.drop i, (x.f0.size : Int) ≤ c ∧ (x.f3.length : Int) ≤ c) := by
    intro n
    induction n with
    | zero =>
      intro i c hi hc0 hc
      refine ⟨c, Ev.succ ?_, fun _ => ⟨Int.le_refl _, ?_⟩⟩
      · simp only [laws_szBodyS.l0]
        exact Ev.neg (by omega) (Ev.now _)
      · rw [drop_end l i (by omega)]
        simp
    | succ n ih =>
      intro i c hi hc0 hc
      have hr : rd_T120 l (i : Int) = l[i]'(by omega) := by simp [rd_T120, List.getD, List.getElem?_eq_getElem (show i < l.length by omega)]
      have hs := hx _ (List.getElem_mem (show i < l.length by omega))
      have hd : l.drop i = l[i]'(by omega) :: l.drop (i + 1) := List.drop_eq_getElem_cons (by omega)
      obtain ⟨q, hq, hqp⟩ := laws_szBody_eq (l[i]'(by omega)).f0 (l[i]'(by omega)).f1 (l[i]'(by omega)).f2 (l[i]'(by omega)).f3 c hc0 hc hs.1 hs.2
      by_cases h : q < 0
      · refine ⟨-1, Ev.succ ?_, fun h => absurd h (by omega)⟩
        simp only [laws_szBodyS.l0]
        rw [hr]
        exact Ev.pos (by omega) (Ev.pos (by omega) (Ev.bnd0 hq (Ev.pos h (Ev.now _))))
      · obtain ⟨q1, q2, q3⟩ := hqp (by omega)
        obtain ⟨r, hev, hp⟩ := ih (i + 1) q (by omega) (by omega) (by omega)
        refine ⟨r, Ev.succ ?_, fun h0 => ?_⟩
        · simp only [laws_szBodyS.l0]
          rw [hr, up1 i (by omega)]
          exact Ev.pos (by omega) (Ev.pos (by omega) (Ev.bnd0 hq (Ev.neg h hev)))
        · obtain ⟨p1, p2⟩ := hp h0
          refine ⟨by omega, fun x hx => ?_⟩
          rw [hd] at hx
          rcases List.mem_cons.1 hx with rfl | hx
          · exact ⟨q2, q3⟩
          · have := p2 x hx
            omega
  simp only [laws_szBodyS.f]
  by_cases h : wrap64 (m - (l.length : Int)) < 0
  · exact ⟨-1, Ev.pos h (Ev.now _), fun h => absurd h (by omega)⟩
  · have h1 : ¬ (m - (l.length : Int) < 0) := by rw [w64 (by omega) (by omega)] at h; exact h
    obtain ⟨r, hr, hp⟩ := key l.length 0 (m - (l.length : Int)) (by omega) (by omega) (by omega)
    refine ⟨r, Ev.neg h ?_, fun h0 => ?_⟩
    · rw [w64 (by omega) (by omega)]
      exact hr
    · obtain ⟨p1, p2⟩ := hp h0
      refine ⟨by omega, fun x hx => ?_⟩
      have := p2 x (by simpa using hx)
      omega
/-- What a weave that may be tried bears. -/
def Fine (p : List (List Int)) (b : List S123) : Prop := p.length ≤ 1048576 ∧ (∀ x ∈ p, x.length ≤ 1048576) ∧ b.length ≤ 1048576 ∧ ∀ x ∈ b, x.f0.size ≤ 1048576 ∧ x.f3.length ≤ 1048576
def ofL (b : S120) : S123 := ⟨b.f0, b.f1, b.f2, b.f3⟩
theorem laws_szWeave_ev (p : List (List Int)) (b : List S120) (hp : p.length ≤ 140737488351232) (hpx : ∀ x ∈ p, x.length ≤ 140737488351232) (hb : b.length ≤ 140737488351232) (hbx : ∀ x ∈ b, x.f0.size ≤ 140737488351232 ∧ x.f3.length ≤ 140737488351232) :
    ∃ r, Ev (fun k => laws_szWeave.f k p b 1048576) r ∧ (0 ≤ r → Fine p (b.map ofL)) := by
  simp only [laws_szWeave.f]
  obtain ⟨r, hr, hrp⟩ := laws_szIntSS_ev p 1048576 (by omega) (by omega) hp hpx
  by_cases h : r < 0
  · exact ⟨-1, Ev.bnd hr (Ev.pos h (Ev.now _)), fun h => by omega⟩
  · obtain ⟨p1, p2⟩ := hrp (by omega)
    obtain ⟨q, hq, hqp⟩ := laws_szBodyS_ev b r (by omega) (by omega) hb hbx
    by_cases h2 : q < 0
    · exact ⟨-1, Ev.bnd hr (Ev.neg h (Ev.bnd hq (Ev.pos h2 (Ev.now _)))), fun h => by omega⟩
    · obtain ⟨q1, q2⟩ := hqp (by omega)
      refine ⟨q, Ev.bnd hr (Ev.neg h (Ev.bnd hq (Ev.neg h2 (Ev.now _)))), fun _ => ⟨by omega, fun x hx => by have := p2 x hx; omega, by rw [List.length_map]; omega, fun x hx => ?_⟩⟩
      obtain ⟨y, hy, rfl⟩ := List.mem_map.1 hx
      have := q2 y hy
      exact ⟨by simp only [ofL]; omega, by simp only [ofL]; omega⟩
theorem laws_toBodyS_ev (l : List S120) (hl : l.length ≤ 1048576) (hx : ∀ x ∈ l, x.f3.length ≤ 35184372088832) : Ev (fun k => laws_toBodyS.f k l) (l.map ofL) := by
  simp only [laws_toBodyS.f]
  refine Ev.pos (by omega) (Ev.pos (by omega) ?_)
  have key : ∀ (n i : Nat) (x : List S123), i + n = l.length → x.length = l.length → (∀ j, j < i → x[j]? = (l.map ofL)[j]?) → Ev (fun k => laws_toBodyS.l0 k l x (i : Int)) (l.map ofL) := by
    intro n
    induction n with
    | zero =>
      intro i x hi hx hj
      refine Ev.succ ?_
      simp only [laws_toBodyS.l0]
      refine Ev.neg (by omega) (Ev.some_ ?_)
      apply List.ext_getElem?
      intro j
      by_cases h : j < i
      · exact hj j h
      · rw [List.getElem?_eq_none (by omega), List.getElem?_eq_none (by rw [List.length_map]; omega)]
    | succ n ih =>
      intro i x hi hx' hj
      refine Ev.succ ?_
      simp only [laws_toBodyS.l0]
      have hr : rd_T120 l (i : Int) = l[i]'(by omega) := by simp [rd_T120, List.getD, List.getElem?_eq_getElem (show i < l.length by omega)]
      refine Ev.pos (by omega) (Ev.pos (by omega) ?_)
      rw [up1 i (by omega), hr]
      simp only [laws_toBody.f]
      refine Ev.bnd (Ev.bnd (laws_toIntS_ev _ (hx _ (List.getElem_mem _))) (Ev.now _)) (Ev.pos (by omega) ?_)
      have e2 : ((i : Int)).toNat = i := by omega
      rw [e2]
      refine ih (i + 1) _ (by omega) (by rw [List.length_set]; exact hx') ?_
      intro j hj'
      by_cases h : j = i
      · subst h
        rw [List.getElem?_set_self (by omega), List.getElem?_map, List.getElem?_eq_getElem (by omega)]
        rfl
      · rw [List.getElem?_set_ne (by omega)]
        exact hj j (by omega)
  exact key l.length 0 _ (by omega) (by simp) (fun j h => absurd h (by omega))
theorem laws_toWeave_ev (p : List (List Int)) (b : List S120) (h : Fine p (b.map ofL)) : Ev (fun k => laws_toWeave.f k p b) (p, b.map ofL) := by
  obtain ⟨h1, h2, h3, h4⟩ := h
  rw [List.length_map] at h3
  simp only [laws_toWeave.f]
  exact Ev.bnd (laws_toIntSS_ev p (by omega) (fun x hx => by have := h2 x hx; omega)) (Ev.bnd (laws_toBodyS_ev b h3 (fun x hx => by have := (h4 (ofL x) (List.mem_map.2 ⟨x, hx, rfl⟩)).2; simp only [ofL] at this; omega)) (Ev.now _))
theorem laws_eqBodyS_refl (l : List S123) (hl : l.length ≤ 140737488351232) (hx : ∀ x ∈ l, x.f3.length ≤ 140737488351232) : Ev (fun k => laws_eqBodyS.f k l l) true := by
  simp only [laws_eqBodyS.f]
  refine Ev.pos (by first | rfl | trivial) ?_
  have key : ∀ (n i : Nat), i + n = l.length → Ev (fun k => laws_eqBodyS.l0 k l l (i : Int)) true := by
    intro n
    induction n with
    | zero =>
      intro i hi
      refine Ev.succ ?_
      simp only [laws_eqBodyS.l0]
      exact Ev.neg (by omega) (Ev.now _)
    | succ n ih =>
      intro i hi
      refine Ev.succ ?_
      simp only [laws_eqBodyS.l0]
      have hr : rd_T123 l (i : Int) = l[i]'(by omega) := by simp [rd_T123, List.getD, List.getElem?_eq_getElem (show i < l.length by omega)]
      refine Ev.pos (by omega) (Ev.pos (by omega) (Ev.pos (by omega) ?_))
      rw [up1 i (by omega), hr]
      simp only [laws_eqBody.f]
      exact Ev.bnd (Ev.pos (by first | rfl | trivial) (Ev.pos (by first | rfl | trivial) (Ev.pos (by first | rfl | trivial) (Ev.bnd (laws_eqIntS_refl _ (hx _ (List.getElem_mem _))) (Ev.pos rfl (Ev.now _)))))) (Ev.pos rfl (ih (i + 1) (by omega)))
  exact key l.length 0 (by omega)
theorem laws_eqWeave_refl (p : List (List Int)) (b : List S123) (h : Fine p b) : Ev (fun k => laws_eqWeave.f k p b p b) true := by
  obtain ⟨h1, h2, h3, h4⟩ := h
  simp only [laws_eqWeave.f]
  exact Ev.bnd (laws_eqIntSS_refl p (by omega) (fun x hx => by have := h2 x hx; omega)) (Ev.pos rfl (Ev.bnd (laws_eqBodyS_refl b (by omega) (fun x hx => by have := (h4 x hx).2; omega)) (Ev.pos rfl (Ev.now _))))
theorem spec_l01In_eq (a b c : Int) : spec_l01In.f a b c = some (decide (b ≤ a ∧ a ≤ c)) := by
  unfold spec_l01In.f
  by_cases h : a ≥ b
  · rw [if_pos h]; simp [h]
  · rw [if_neg h]; simp; omega
/-! graphs: lists that ascend -/
def asc (n : Int) : Option Int → List Int → Bool
  | _, [] => true
  | none, v :: l => decide (0 ≤ v ∧ v ≤ n - 1) && asc n (some v) l
  | some p, v :: l => decide (0 ≤ v ∧ v ≤ n - 1) && decide (p < v) && asc n (some v) l
def prevOf (l : List Int) (i : Nat) : Option Int := if i = 0 then none else some (rd l ((i : Int) - 1))
theorem prevOf_succ (l : List Int) (i : Nat) : prevOf l (i + 1) = some (rd l (i : Int)) := by
  unfold prevOf
  rw [if_neg (by omega)]
  congr 2
  omega
theorem asc_step (l : List Int) (n : Int) (i : Nat) (h : i < l.length) : asc n (prevOf l i) (l.drop i) = (decide (0 ≤ rd l (i : Int) ∧ rd l (i : Int) ≤ n - 1) && (decide (i = 0) || decide (rd l ((i : Int) - 1) < rd l (i : Int))) && asc n (prevOf l (i + 1)) (l.drop (i + 1))) := by
  rw [prevOf_succ, drop_rd l i h]
  by_cases h0 : i = 0
  · subst h0
    simp [prevOf, asc]
  · have : prevOf l i = some (rd l ((i : Int) - 1)) := by rw [prevOf, if_neg h0]
    rw [this]
    simp [asc, h0]
def gAll : Nat → List (List Int) → Bool
  | _, [] => true
  | v, r :: ps => decide (r.length ≤ 4) && asc (v : Int) none r && gAll (v + 1) ps
/-- A right graph. -/
def graphOk (ps : List (List Int)) : Bool := decide (ps.length ≤ 40) && gAll 0 ps
theorem rdL_nat (l : List (List Int)) (i : Nat) (h : i < l.length) : rd_L1 l (i : Int) = l[i] := by
  simp [rd_L1, List.getD, List.getElem?_eq_getElem h]
theorem spec_l05Rise_ev (l : List Int) (n : Int) (hl : l.length ≤ 140737488351232) (hn : -4611686018427387904 ≤ n) (hn1 : n ≤ 4611686018427387904) : Ev (fun k => spec_l05Rise.f k l n) (asc n none l) := by
  simp only [spec_l05Rise.f]
  have key : ∀ (m i : Nat), i + m = l.length → Ev (fun k => spec_l05Rise.l0 k l n (i : Int)) (asc n (prevOf l i) (l.drop i)) := by
    intro m
    induction m with
    | zero =>
      intro i hi
      refine Ev.succ ?_
      simp only [spec_l05Rise.l0]
      refine Ev.neg (by omega) (Ev.some_ ?_)
      rw [drop_end l i (by omega)]
      cases prevOf l i <;> rfl
    | succ m ih =>
      intro i hi
      refine Ev.succ ?_
      simp only [spec_l05Rise.l0]
      have ih' := ih (i + 1) (by omega)
      rw [asc_step l n i (by omega)]
      rw [show wrap64 (n - 1) = n - 1 from w64 (by omega) (by omega), up1 i (by omega)]
      refine Ev.pos (by omega) (Ev.pos (by omega) (Ev.bnd0 (spec_l01In_eq _ _ _) ?_))
      by_cases hv : 0 ≤ rd l (i : Int) ∧ rd l (i : Int) ≤ n - 1
      · refine Ev.pos (by simpa using hv) ?_
        by_cases h0 : (i : Int) > 0
        · rw [show wrap64 ((i : Int) - 1) = (i : Int) - 1 from w64 (by omega) (by omega)]
          refine Ev.pos h0 (Ev.pos (by omega) (Ev.pos (by omega) ?_))
          by_cases h1 : rd l ((i : Int) - 1) ≥ rd l (i : Int)
          · refine Ev.pos h1 (Ev.some_ ?_)
            have h2 : ¬ (rd l ((i : Int) - 1) < rd l (i : Int)) := by omega
            have h3 : ¬ (i = 0) := by omega
            simp [h2, h3]
          · refine Ev.neg h1 (Ev_eq ih' ?_)
            have h2 : rd l ((i : Int) - 1) < rd l (i : Int) := by omega
            simp [hv, h2]
        · refine Ev.neg h0 (Ev_eq ih' ?_)
          rw [show decide (0 ≤ rd l (i : Int) ∧ rd l (i : Int) ≤ n - 1) = true from decide_eq_true hv, show decide (i = 0) = true from decide_eq_true (by omega)]
          rfl
      · refine Ev.neg (by simpa using hv) (Ev.some_ ?_)
        rw [show decide (0 ≤ rd l (i : Int) ∧ rd l (i : Int) ≤ n - 1) = false from by simpa using hv]
        rfl
  exact key l.length 0 (by omega)
theorem spec_GraphOk_ev (l : List (List Int)) (hl : l.length ≤ 140737488351232) (hx : ∀ x ∈ l, x.length ≤ 140737488351232) : Ev (fun k => spec_GraphOk.f k l) (graphOk l) := by
  simp only [spec_GraphOk.f]
  by_cases h40 : (l.length : Int) > 40
  · refine Ev.pos h40 (Ev.some_ ?_)
    simp [graphOk]; omega
  refine Ev.neg h40 ?_
  have key : ∀ (m i : Nat), i + m = l.length → Ev (fun k => spec_GraphOk.l0 k l (i : Int)) (gAll i (l.drop i)) := by
    intro m
    induction m with
    | zero =>
      intro i hi
      refine Ev.succ ?_
      simp only [spec_GraphOk.l0]
      refine Ev.neg (by omega) (Ev.some_ ?_)
      rw [drop_end l i (by omega)]
      rfl
    | succ m ih =>
      intro i hi
      refine Ev.succ ?_
      simp only [spec_GraphOk.l0]
      have ih' := ih (i + 1) (by omega)
      have hr := rdL_nat l i (by omega)
      rw [hr, up1 i (by omega), List.drop_eq_getElem_cons (show i < l.length by omega)]
      simp only [gAll]
      refine Ev.pos (by omega) (Ev.pos (by omega) ?_)
      by_cases h4 : ((l[i]'(by omega)).length : Int) > 4
      · refine Ev.pos h4 (Ev.some_ ?_)
        rw [show decide ((l[i]'(by omega)).length ≤ 4) = false from by simp; omega]
        rfl
      · refine Ev.neg h4 (Ev.bnd (spec_l05Rise_ev _ _ (hx _ (List.getElem_mem _)) (by omega) (by omega)) ?_)
        rw [show decide ((l[i]'(by omega)).length ≤ 4) = true from by simp; omega]
        by_cases ha : asc (i : Int) none (l[i]'(by omega)) = true
        · refine Ev.pos ha (Ev_eq ih' ?_)
          rw [ha]; rfl
        · refine Ev.neg ha (Ev.some_ ?_)
          rw [Bool.eq_false_iff.2 ha]; rfl
  refine Ev_eq (key l.length 0 (by omega)) ?_
  simp only [graphOk, List.drop_zero]
  rw [show decide (l.length ≤ 40) = true from by simp; omega]
  rfl
theorem spec_LineOk_ev (s : ByteArray) (hs : s.size ≤ 140737488351232) : Ev (fun k => spec_LineOk.f k s) (lineOk s) := by
  simp only [spec_LineOk.f]
  have key : ∀ (n i : Nat), i + n = s.size → Ev (fun k => spec_LineOk.l0 k s (i : Int)) (decide ((10 : Int) ∉ (bytesOf s).drop i ∧ s.size ≤ 60)) := by
    intro n
    induction n with
    | zero =>
      intro i hi
      refine Ev.succ ?_
      simp only [spec_LineOk.l0]
      refine Ev.neg (by omega) (Ev.some_ ?_)
      rw [drop_end _ _ (by rw [bytesOf_length]; omega)]
      simp
      omega
    | succ n ih =>
      intro i hi
      refine Ev.succ ?_
      simp only [spec_LineOk.l0]
      refine Ev.pos (by omega) (Ev.pos (by omega) ?_)
      rw [up1 i (by omega), drop_bt s i (by omega)]
      by_cases h : bt s (i : Int) = 10
      · exact Ev.pos h (Ev.some_ (by simp [h]))
      · refine Ev.neg h (Ev_eq (ih (i + 1) (by omega)) ?_)
        have : ((10 : Int) ∉ bt s (i : Int) :: (bytesOf s).drop (i + 1)) ↔ ((10 : Int) ∉ (bytesOf s).drop (i + 1)) := by
          rw [List.mem_cons]
          constructor
          · intro h1 h2; exact h1 (.inr h2)
          · intro h1 h2
            rcases h2 with h2 | h2
            · exact h h2.symm
            · exact h1 h2
        simp only [this]
  exact key s.size 0 (by omega)
theorem impl_inRange_eq (a b c : Int) : impl_inRange.f a b c = some (decide (b ≤ a ∧ a ≤ c)) := by
  unfold impl_inRange.f
  by_cases h : a ≥ b
  · rw [if_pos h]; simp [h]
  · rw [if_neg h]; simp; omega
theorem impl_ascends_ev (l : List Int) (n : Int) (hl : l.length ≤ 140737488351232) (hn : -4611686018427387904 ≤ n) (hn1 : n ≤ 4611686018427387904) : Ev (fun k => impl_ascends.f k l n) (asc n none l) := by
  simp only [impl_ascends.f]
  have key : ∀ (m i : Nat), i + m = l.length → Ev (fun k => impl_ascends.l0 k l n l (l.length : Int) (i : Int)) (asc n (prevOf l i) (l.drop i)) := by
    intro m
    induction m with
    | zero =>
      intro i hi
      refine Ev.succ ?_
      simp only [impl_ascends.l0]
      refine Ev.neg (by omega) (Ev.some_ ?_)
      rw [drop_end l i (by omega)]
      cases prevOf l i <;> rfl
    | succ m ih =>
      intro i hi
      refine Ev.succ ?_
      simp only [impl_ascends.l0]
      have ih' := ih (i + 1) (by omega)
      rw [asc_step l n i (by omega)]
      rw [show wrap64 (n - 1) = n - 1 from w64 (by omega) (by omega), up1 i (by omega)]
      refine Ev.pos (by omega) (Ev.pos (by omega) (Ev.pos (by omega) (Ev.bnd0 (impl_inRange_eq _ _ _) ?_)))
      by_cases hv : 0 ≤ rd l (i : Int) ∧ rd l (i : Int) ≤ n - 1
      · refine Ev.pos (by simpa using hv) ?_
        by_cases h0 : (i : Int) > 0
        · rw [show wrap64 ((i : Int) - 1) = (i : Int) - 1 from w64 (by omega) (by omega)]
          refine Ev.pos h0 (Ev.pos (by omega) (Ev.pos (by omega) ?_))
          by_cases h1 : rd l (i : Int) ≤ rd l ((i : Int) - 1)
          · refine Ev.pos h1 (Ev.some_ ?_)
            have h2 : ¬ (rd l ((i : Int) - 1) < rd l (i : Int)) := by omega
            have h3 : ¬ (i = 0) := by omega
            simp [h2, h3]
          · refine Ev.neg h1 (Ev_eq ih' ?_)
            have h2 : rd l ((i : Int) - 1) < rd l (i : Int) := by omega
            simp [hv, h2]
        · refine Ev.neg h0 (Ev_eq ih' ?_)
          rw [show decide (0 ≤ rd l (i : Int) ∧ rd l (i : Int) ≤ n - 1) = true from decide_eq_true hv, show decide (i = 0) = true from decide_eq_true (by omega)]
          rfl
      · refine Ev.neg (by simpa using hv) (Ev.some_ ?_)
        rw [show decide (0 ≤ rd l (i : Int) ∧ rd l (i : Int) ≤ n - 1) = false from by simpa using hv]
        rfl
  exact key l.length 0 (by omega)
theorem impl_GraphOk_ev (l : List (List Int)) (hl : l.length ≤ 140737488351232) (hx : ∀ x ∈ l, x.length ≤ 140737488351232) : Ev (fun k => impl_GraphOk.f k l) (graphOk l) := by
  simp only [impl_GraphOk.f]
  have key : ∀ (m i : Nat), i + m = l.length → Ev (fun k => impl_GraphOk.l0 k l l (l.length : Int) (i : Int)) (decide (l.length ≤ 40) && gAll i (l.drop i)) := by
    intro m
    induction m with
    | zero =>
      intro i hi
      refine Ev.succ ?_
      simp only [impl_GraphOk.l0]
      refine Ev.neg (by omega) (Ev.some_ ?_)
      rw [drop_end l i (by omega)]
      simp [gAll]
      omega
    | succ m ih =>
      intro i hi
      refine Ev.succ ?_
      simp only [impl_GraphOk.l0]
      have ih' := ih (i + 1) (by omega)
      have hr := rdL_nat l i (by omega)
      rw [hr, up1 i (by omega), List.drop_eq_getElem_cons (show i < l.length by omega)]
      simp only [gAll]
      refine Ev.pos (by omega) (Ev.pos (by omega) (Ev.pos (by omega) ?_))
      by_cases h4 : ((l[i]'(by omega)).length : Int) > 4
      · refine Ev.pos h4 (Ev.some_ ?_)
        rw [show decide ((l[i]'(by omega)).length ≤ 4) = false from by simp; omega]
        simp
      · refine Ev.neg h4 (Ev.bnd (impl_ascends_ev _ _ (hx _ (List.getElem_mem _)) (by omega) (by omega)) ?_)
        rw [show decide ((l[i]'(by omega)).length ≤ 4) = true from by simp; omega]
        by_cases ha : asc (i : Int) none (l[i]'(by omega)) = true
        · refine Ev.pos ha (Ev_eq ih' ?_)
          rw [ha]; rfl
        · refine Ev.neg ha (Ev.some_ ?_)
          rw [Bool.eq_false_iff.2 ha]
          simp
  exact key l.length 0 (by omega)
theorem impl_LineOk_eq (s : ByteArray) : impl_LineOk.f s = some (lineOk s) := by
  simp only [impl_LineOk.f]
  by_cases h : (s.size : Int) ≤ 60
  · rw [if_pos h]
    simp only [strings_Contains.f]
    rw [if_pos (by rfl)]
    simp only [Option.bind_some]
    congr 1
    have h1 := indexByte_mem 10 s.data.toList
    have h2 := byte_mem s 10
    simp only [lineOk]
    rw [← decide_not]
    congr 1
    rw [show (⟨#[10]⟩ : ByteArray).data.toList.headD 0 = (10 : UInt8) from rfl, h1, h2]
    simp only [eq_iff_iff]
    constructor
    · intro h3; exact ⟨h3, by omega⟩
    · intro h3; exact h3.1
  · rw [if_neg h]
    congr 1
    simp only [lineOk]
    symm
    rw [decide_eq_false_iff_not]
    omega
/-! ancestors -/
def row (ps : List (List Int)) (v : Nat) : List Int := ps.getD v []
/-- u is v, or an ancestor of it. -/
inductive Anc (ps : List (List Int)) : Nat → Nat → Prop
  | refl (v : Nat) : Anc ps v v
  | step {v p u : Nat} : (p : Int) ∈ row ps v → Anc ps p u → Anc ps v u
/-- Parents are smaller, and there. -/
def Down (ps : List (List Int)) : Prop := ∀ v, v < ps.length → ∀ p ∈ row ps v, 0 ≤ p ∧ p < (v : Int)
theorem asc_bound : ∀ (l : List Int) (n : Int) (o : Option Int), asc n o l = true → ∀ p ∈ l, 0 ≤ p ∧ p ≤ n - 1
  | [], _, _, _ => by simp
  | x :: l, n, o, h => by
    intro p hp
    have hx : 0 ≤ x ∧ x ≤ n - 1 := by
      cases o <;> simp [asc] at h <;> omega
    have hl : asc n (some x) l = true := by
      cases o <;> simp [asc] at h
      · exact h.2
      · exact h.2
    rcases List.mem_cons.1 hp with rfl | hp
    · exact hx
    · exact asc_bound l n (some x) hl p hp
theorem gAll_get : ∀ (ps : List (List Int)) (v : Nat), gAll v ps = true → ∀ i (h : i < ps.length), (ps[i]).length ≤ 4 ∧ asc ((v + i : Nat) : Int) none ps[i] = true
  | r :: ps, v, h, 0, _ => by
    simp [gAll] at h
    simpa using h.1
  | r :: ps, v, h, i + 1, hi => by
    have h2 : gAll (v + 1) ps = true := by
      simp [gAll] at h
      exact h.2
    have := gAll_get ps (v + 1) h2 i (by simpa using hi)
    have e : v + 1 + i = v + (i + 1) := by omega
    rw [e] at this
    simpa using this
theorem row_get (ps : List (List Int)) (v : Nat) (h : v < ps.length) : row ps v = ps[v] := by
  simp [row, List.getD, List.getElem?_eq_getElem h]
theorem graphOk_down {ps : List (List Int)} (h : graphOk ps = true) : Down ps := by
  intro v hv p hp
  simp only [graphOk, Bool.and_eq_true, decide_eq_true_eq] at h
  have := (gAll_get ps 0 h.2 v hv).2
  rw [row_get ps v hv] at hp
  have := asc_bound _ _ _ this p hp
  omega
theorem graphOk_len {ps : List (List Int)} (h : graphOk ps = true) : ps.length ≤ 40 := by
  simp only [graphOk, Bool.and_eq_true, decide_eq_true_eq] at h
  exact h.1
theorem Anc.le {ps : List (List Int)} (hd : Down ps) {v u : Nat} (h : Anc ps v u) : v < ps.length → u ≤ v := by
  induction h with
  | refl => intro _; exact Nat.le_refl _
  | step hp _ ih =>
    intro hv
    have := hd _ hv _ hp
    have := ih (by omega)
    omega
/-! spec.l05Set: which versions are in the closure of one of a list -/
def gB (x : List Bool) (u : Nat) : Bool := x.getD u false
theorem gB_set (x : List Bool) (i u : Nat) (h : i < x.length) : gB (x.set i true) u = (gB x u || decide (u = i)) := by
  unfold gB
  by_cases hu : u = i
  · subst hu
    simp [List.getD, List.getElem?_set_self h]
  · simp [List.getD, List.getElem?_set_ne (Ne.symm hu), hu]
/-- What an array of marks tells: every mark is an ancestor of one of a list. -/
def Sound (ps : List (List Int)) (S : List Int) (x : List Bool) : Prop := ∀ u, gB x u = true → ∃ s : Nat, (s : Int) ∈ S ∧ s < ps.length ∧ Anc ps s u
def Holds (ps : List (List Int)) (S : List Int) (x : List Bool) : Prop := ∀ s : Nat, (s : Int) ∈ S → s < ps.length → gB x s = true
def Closed (ps : List (List Int)) (x : List Bool) (v : Nat) : Prop := ∀ y, v ≤ y → y < ps.length → gB x y = true → ∀ p : Nat, (p : Int) ∈ row ps y → gB x p = true
theorem marks_all {ps : List (List Int)} {S : List Int} {x : List Bool} (hd : Down ps) (h1 : Sound ps S x) (h2 : Holds ps S x) (h3 : Closed ps x 0) (u : Nat) : gB x u = true ↔ ∃ s : Nat, (s : Int) ∈ S ∧ s < ps.length ∧ Anc ps s u := by
  refine ⟨h1 u, ?_⟩
  rintro ⟨s, hs, hl, ha⟩
  have key : ∀ {v w : Nat}, Anc ps v w → v < ps.length → gB x v = true → gB x w = true := by
    intro v w h
    induction h with
    | refl => intro _ h; exact h
    | step hp _ ih =>
      intro hv hb
      have := hd _ hv _ hp
      exact ih (by omega) (h3 _ (Nat.zero_le _) hv hb _ hp)
  exact key ha hl (h2 s hs hl)
theorem rdB_nat (x : List Bool) (i : Nat) : rdOf false x (i : Int) = gB x i := rfl
theorem Anc.trans {ps : List (List Int)} {a b c : Nat} (h : Anc ps a b) (k : Anc ps b c) : Anc ps a c := by
  induction h with
  | refl => exact k
  | step hp _ ih => exact Anc.step hp (ih k)
section
variable (ps : List (List Int)) (S : List Int) (hd : Down ps) (hn : ps.length ≤ 1000000) (hS : S.length ≤ 140737488351232) (hx : ∀ r ∈ ps, r.length ≤ 1000000)
include hd hn hx
theorem spec_l05Set_l2 (v : Nat) (hv : v < ps.length) (Q : List Bool → Prop) (hQ : ∀ z : List Bool, z.length = ps.length → Sound ps S z → Holds ps S z → Closed ps z v → ∃ r, Ev (fun k => spec_l05Set.l1 k ps z ((v : Int) - 1)) r ∧ Q r) :
    ∀ (n i : Nat) (x : List Bool), i + n = (row ps v).length → x.length = ps.length → Sound ps S x → Holds ps S x → Closed ps x (v + 1) → gB x v = true → (∀ j (h : j < (row ps v).length), j < i → gB x ((row ps v)[j]).toNat = true) → ∃ r, Ev (fun k => spec_l05Set.l2 k ps x (v : Int) (i : Int)) r ∧ Q r := by
  have hrow := rdL_nat ps v hv
  have hrg := row_get ps v hv
  have hrl : (row ps v).length ≤ 1000000 := by rw [hrg]; exact hx _ (List.getElem_mem _)
  intro n
  induction n with
  | zero =>
    intro i x hi hl h1 h2 h3 hb hj
    obtain ⟨r, hr, hq⟩ := hQ x hl h1 h2 (by
      intro y hy hyl hyb p hp
      by_cases e : y = v
      · subst e
        obtain ⟨j, hjl, hje⟩ := List.getElem_of_mem hp
        have := hj j hjl (by omega)
        rw [hje] at this
        simpa using this
      · exact h3 y (by omega) hyl hyb p hp)
    refine ⟨r, Ev.succ ?_, hq⟩
    simp only [spec_l05Set.l2]
    rw [hrow, ← hrg]
    refine Ev.pos (by omega) (Ev.pos (by omega) (Ev.neg (by omega) ?_))
    rw [w64 (by omega) (by omega)]
    exact hr
  | succ n ih =>
    intro i x hi hl h1 h2 h3 hb hj
    have hp := hd v hv _ (List.getElem_mem (show i < (row ps v).length by omega))
    have hrd : rd (row ps v) (i : Int) = (row ps v)[i]'(by omega) := rd_nat _ _ _
    obtain ⟨p, hpe⟩ := Int.eq_ofNat_of_zero_le hp.1
    have hmem : (p : Int) ∈ row ps v := by rw [← hpe]; exact List.getElem_mem _
    have hpl : p < x.length := by omega
    obtain ⟨r, hr, hq⟩ := ih (i + 1) (x.set p true) (by omega) (by rw [List.length_set]; exact hl) (by
        intro u hu
        rw [gB_set x p u hpl] at hu
        simp only [Bool.or_eq_true, decide_eq_true_eq] at hu
        rcases hu with hu | rfl
        · exact h1 u hu
        · obtain ⟨s, hs, hsl, ha⟩ := h1 v hb
          exact ⟨s, hs, hsl, ha.trans (Anc.step hmem (Anc.refl _))⟩) (by
        intro s hs hsl
        rw [gB_set x p s hpl, h2 s hs hsl]
        rfl) (by
        intro y hy hyl hyb q hq
        rw [gB_set x p y hpl] at hyb
        rw [gB_set x p q hpl]
        have : ¬ (y = p) := by omega
        simp only [this, decide_false, Bool.or_false] at hyb
        rw [h3 y hy hyl hyb q hq]
        rfl) (by rw [gB_set x p v hpl, hb]; rfl) (by
        intro j hjl hji
        rw [gB_set x p _ hpl]
        by_cases e : j = i
        · subst e
          rw [hpe]
          simp
        · rw [hj j hjl (by omega)]
          rfl)
    refine ⟨r, Ev.succ ?_, hq⟩
    simp only [spec_l05Set.l2]
    rw [hrow, ← hrg, hrd, hpe, up1 i (by omega), rdB_nat, Int.toNat_natCast]
    exact Ev.pos (by omega) (Ev.pos (by omega) (Ev.pos (by omega) (Ev.pos (by omega) (Ev.pos hb (Ev.pos (by omega) (Ev.pos (by omega) (Ev.pos (by omega) hr)))))))
theorem spec_l05Set_l1 : ∀ (v : Nat) (x : List Bool), v ≤ ps.length → x.length = ps.length → Sound ps S x → Holds ps S x → Closed ps x v → ∃ r, Ev (fun k => spec_l05Set.l1 k ps x ((v : Int) - 1)) r ∧ (r.length = ps.length ∧ ∀ u, gB r u = true ↔ ∃ s : Nat, (s : Int) ∈ S ∧ s < ps.length ∧ Anc ps s u) := by
  intro v
  induction v with
  | zero =>
    intro x _ hl h1 h2 h3
    refine ⟨x, Ev.succ ?_, hl, marks_all hd h1 h2 h3⟩
    simp only [spec_l05Set.l1]
    exact Ev.neg (by omega) (Ev.now _)
  | succ v ih =>
    intro x hv hl h1 h2 h3
    have e : (((v + 1 : Nat) : Int) - 1) = (v : Int) := by omega
    rw [e]
    by_cases hb : gB x v = true
    · obtain ⟨r, hr, hq⟩ := spec_l05Set_l2 ps S hd hn hx v (by omega) _ (fun z hzl a b c => ih z (by omega) hzl a b c) (row ps v).length 0 x (by omega) hl h1 h2 h3 hb (fun j _ h => absurd h (by omega))
      refine ⟨r, Ev.succ ?_, hq⟩
      simp only [spec_l05Set.l1]
      exact Ev.pos (by omega) hr
    · obtain ⟨r, hr, hq⟩ := ih x (by omega) hl h1 h2 (by
        intro y hy hyl hyb p hp
        by_cases e : y = v
        · subst e; exact absurd hyb hb
        · exact h3 y (by omega) hyl hyb p hp)
      refine ⟨r, Ev.succ ?_, hq⟩
      simp only [spec_l05Set.l1]
      refine Ev.pos (by omega) (Ev.succ ?_)
      simp only [spec_l05Set.l2]
      rw [rdL_nat ps v (by omega), rdB_nat, show wrap64 ((v : Int) - 1) = (v : Int) - 1 from w64 (by omega) (by omega)]
      refine Ev.pos (by omega) (Ev.pos (by omega) ?_)
      by_cases hz : ((0 : Int) < ((ps[v]'(by omega)).length : Int))
      · exact Ev.pos hz (Ev.pos (by omega) (Ev.neg hb hr))
      · exact Ev.neg hz hr
include hS
theorem spec_l05Set_ev : ∃ r, Ev (fun k => spec_l05Set.f k ps S) r ∧ (r.length = ps.length ∧ ∀ u, gB r u = true ↔ ∃ s : Nat, (s : Int) ∈ S ∧ s < ps.length ∧ Anc ps s u) := by
  have key : ∀ (n i : Nat) (x : List Bool), i + n = S.length → x.length = ps.length → Sound ps S x → (∀ s : Nat, (s : Int) ∈ S.take i → s < ps.length → gB x s = true) → ∃ r, Ev (fun k => spec_l05Set.l0 k ps S x (i : Int)) r ∧ (r.length = ps.length ∧ ∀ u, gB r u = true ↔ ∃ s : Nat, (s : Int) ∈ S ∧ s < ps.length ∧ Anc ps s u) := by
    intro n
    induction n with
    | zero =>
      intro i x hi hl h1 h2
      obtain ⟨r, hr, hq⟩ := spec_l05Set_l1 ps S hd hn hx ps.length x (Nat.le_refl _) hl h1 (fun s hs hsl => h2 s (by rw [List.take_of_length_le (by omega)]; exact hs) hsl) (fun y hy hyl => absurd hyl (by omega))
      refine ⟨r, Ev.succ ?_, hq⟩
      simp only [spec_l05Set.l0]
      refine Ev.neg (by omega) ?_
      rw [w64 (by omega) (by omega)]
      exact hr
    | succ n ih =>
      intro i x hi hl h1 h2
      have hrd : rd S (i : Int) = S[i]'(by omega) := rd_nat _ _ _
      have htk : S.take (i + 1) = S.take i ++ [S[i]'(by omega)] := List.take_succ_eq_append_getElem (by omega)
      by_cases hv : 0 ≤ S[i]'(by omega) ∧ S[i]'(by omega) ≤ (ps.length : Int) - 1
      · obtain ⟨s, hse⟩ := Int.eq_ofNat_of_zero_le hv.1
        have hmem : (s : Int) ∈ S := by rw [← hse]; exact List.getElem_mem _
        have hsl : s < x.length := by omega
        obtain ⟨r, hr, hq⟩ := ih (i + 1) (x.set s true) (by omega) (by rw [List.length_set]; exact hl) (by
          intro u hu
          rw [gB_set x s u hsl] at hu
          simp only [Bool.or_eq_true, decide_eq_true_eq] at hu
          rcases hu with hu | rfl
          · exact h1 u hu
          · exact ⟨u, hmem, by omega, Anc.refl _⟩) (by
          intro t ht htl
          rw [gB_set x s t hsl]
          rw [htk] at ht
          rcases List.mem_append.1 ht with ht | ht
          · rw [h2 t ht htl]; rfl
          · have : t = s := by have := List.mem_singleton.1 ht; omega
            simp [this])
        refine ⟨r, Ev.succ ?_, hq⟩
        simp only [spec_l05Set.l0]
        rw [hrd, w64 (by omega) (by omega), up1 i (by omega)]
        refine Ev.pos (by omega) (Ev.pos (by omega) (Ev.bnd0 (spec_l01In_eq _ _ _) (Ev.pos (by simpa using hv) ?_)))
        rw [hse, Int.toNat_natCast]
        exact Ev.pos (by omega) (Ev.pos (by omega) hr)
      · obtain ⟨r, hr, hq⟩ := ih (i + 1) x (by omega) hl h1 (by
          intro t ht htl
          rw [htk] at ht
          rcases List.mem_append.1 ht with ht | ht
          · exact h2 t ht htl
          · have := List.mem_singleton.1 ht
            exact absurd ⟨by omega, by omega⟩ hv)
        refine ⟨r, Ev.succ ?_, hq⟩
        simp only [spec_l05Set.l0]
        rw [hrd, w64 (by omega) (by omega), up1 i (by omega)]
        exact Ev.pos (by omega) (Ev.pos (by omega) (Ev.bnd0 (spec_l01In_eq _ _ _) (Ev.neg (by simpa using hv) hr)))
  have hz : ∀ u, gB (List.replicate ps.length false) u = false := by
    intro u
    simp only [gB, List.getD, List.getElem?_replicate]
    split <;> rfl
  obtain ⟨r, hr, hq⟩ := key S.length 0 (List.replicate ps.length false) (by omega) (by simp) (fun u hu => by rw [hz] at hu; cases hu) (fun s hs => by simp at hs)
  refine ⟨r, ?_, hq⟩
  simp only [spec_l05Set.f]
  refine Ev.pos (by omega) (Ev.pos (by omega) ?_)
  rw [Int.toNat_natCast]
  exact hr
end
theorem impl_set_has_eq (c : Nat) (hc : c < 2 ^ 64) (u : Int) : impl_set_has.f (c : Int) u = some (decide (0 ≤ u ∧ u ≤ 63) && c.testBit u.toNat) := by
  simp only [impl_set_has.f]
  rw [impl_inRange_eq]
  simp only [Option.bind_some]
  by_cases h : 0 ≤ u ∧ u ≤ 63
  · rw [if_pos (by simpa using h), wrapu64 _ (by omega) (by omega), if_pos (by omega)]
    obtain ⟨v, rfl⟩ := Int.eq_ofNat_of_zero_le h.1
    congr 1
    have e : shr .u64 (c : Int) (v : Int) = ((c / 2 ^ v : Nat) : Int) := by
      unfold shr
      have e : min ((v : Int)).toNat IntKind.u64.bits = v := by simp [IntKind.bits]; omega
      rw [e]
      simp
    rw [e]
    have hlt : c / 2 ^ v < 2 ^ 64 := Nat.lt_of_le_of_lt (Nat.div_le_self _ _) hc
    have := and64 (c / 2 ^ v) 1 hlt (by decide)
    rw [show ((1 : Nat) : Int) = 1 from rfl] at this
    rw [this, Nat.and_one_is_mod]
    rw [show decide (0 ≤ (v : Int) ∧ (v : Int) ≤ 63) = true from decide_eq_true h, Bool.true_and, Int.toNat_natCast, Nat.testBit_eq_decide_div_mod_eq]
    by_cases hm : c / 2 ^ v % 2 = 1
    · simp [hm]
    · have : c / 2 ^ v % 2 = 0 := by omega
      simp [this]
  · rw [if_neg (by simpa using h)]
    rw [show decide (0 ≤ u ∧ u ≤ 63) = false from by simpa using h]
    rfl
/-! impl's closures, as bits -/
/-- All are words of 64 bits. -/
def Words (x : List Int) : Prop := ∀ v, v < x.length → 0 ≤ rd x (v : Int) ∧ rd x (v : Int) < 18446744073709551616
def wd (x : List Int) (v : Nat) : Nat := (rd x (v : Int)).toNat
theorem wd_lt {x : List Int} (h : Words x) {v : Nat} (hv : v < x.length) : wd x v < 2 ^ 64 := by
  have := h v hv
  unfold wd
  omega
theorem wd_cast {x : List Int} (h : Words x) {v : Nat} (hv : v < x.length) : rd x (v : Int) = (wd x v : Int) := by
  have := h v hv
  unfold wd
  omega
theorem impl_unionOf_ev (x : List Int) (hx : Words x) (l : List Int) (hl : l.length ≤ 140737488351232) (hp : ∀ p ∈ l, 0 ≤ p ∧ p < (x.length : Int)) :
    ∃ s : Nat, Ev (fun k => impl_unionOf.f k x l) (s : Int) ∧ s < 2 ^ 64 ∧ ∀ u, s.testBit u = true ↔ ∃ p : Nat, (p : Int) ∈ l ∧ (wd x p).testBit u = true := by
  simp only [impl_unionOf.f]
  have key : ∀ (n i s : Nat), i + n = l.length → s < 2 ^ 64 → ∃ r : Nat, Ev (fun k => impl_unionOf.l0 k x (s : Int) l (l.length : Int) (i : Int)) (r : Int) ∧ r < 2 ^ 64 ∧ ∀ u, r.testBit u = true ↔ (s.testBit u = true ∨ ∃ p : Nat, (p : Int) ∈ l.drop i ∧ (wd x p).testBit u = true) := by
    intro n
    induction n with
    | zero =>
      intro i s hi hs
      refine ⟨s, Ev.succ ?_, hs, fun u => ?_⟩
      · simp only [impl_unionOf.l0]
        exact Ev.neg (by omega) (Ev.now _)
      · rw [drop_end l i (by omega)]
        simp
    | succ n ih =>
      intro i s hi hs
      have hrd : rd l (i : Int) = l[i]'(by omega) := rd_nat _ _ _
      have hpi := hp _ (List.getElem_mem (show i < l.length by omega))
      obtain ⟨p, hpe⟩ := Int.eq_ofNat_of_zero_le hpi.1
      rw [hpe] at hpi
      have hlt := wd_lt hx (show p < x.length by omega)
      obtain ⟨r, hr, hr1, hr2⟩ := ih (i + 1) (s ||| wd x p) (by omega) (or_lt hs hlt)
      refine ⟨r, Ev.succ ?_, hr1, fun u => ?_⟩
      · simp only [impl_unionOf.l0]
        rw [hrd, hpe, wd_cast hx (show p < x.length by omega), or64 _ _ hs hlt, up1 i (by omega)]
        exact Ev.pos (by omega) (Ev.pos (by omega) (Ev.pos (by omega) (Ev.pos (by omega) (Ev.pos (by omega) hr))))
      · rw [hr2 u, Nat.testBit_or, List.drop_eq_getElem_cons (show i < l.length by omega), hpe]
        simp only [Bool.or_eq_true, List.mem_cons]
        constructor
        · rintro ((h | h) | ⟨q, hq, h⟩)
          · exact .inl h
          · exact .inr ⟨p, .inl rfl, h⟩
          · exact .inr ⟨q, .inr hq, h⟩
        · rintro (h | ⟨q, hq | hq, h⟩)
          · exact .inl (.inl h)
          · have : q = p := by omega
            exact .inl (.inr (this ▸ h))
          · exact .inr ⟨q, hq, h⟩
  obtain ⟨r, hr, hr1, hr2⟩ := key l.length 0 0 (by omega) (by decide)
  exact ⟨r, hr, hr1, fun u => by simpa using hr2 u⟩
theorem anc_iff (ps : List (List Int)) (v u : Nat) : Anc ps v u ↔ (u = v ∨ ∃ p : Nat, (p : Int) ∈ row ps v ∧ Anc ps p u) := by
  constructor
  · intro h
    cases h with
    | refl => exact .inl rfl
    | step hp ha => exact .inr ⟨_, hp, ha⟩
  · rintro (rfl | ⟨p, hp, ha⟩)
    · exact Anc.refl _
    · exact Anc.step hp ha
/-- Word v is the closure of version v. -/
def Clo (ps : List (List Int)) (x : List Int) (n : Nat) : Prop := ∀ v, v < n → ∀ u, (wd x v).testBit u = true ↔ Anc ps v u
theorem rd_set (x : List Int) (i : Nat) (a : Int) (v : Nat) (h : i < x.length) : rd (x.set i a) (v : Int) = if v = i then a else rd x (v : Int) := by
  by_cases e : v = i
  · subst e
    simp [rd, List.getD, List.getElem?_set_self h]
  · simp [rd, List.getD, List.getElem?_set_ne (Ne.symm e), e]
theorem impl_closures_ev (ps : List (List Int)) (hd : Down ps) (hn : ps.length ≤ 60) (hr : ∀ r ∈ ps, r.length ≤ 1000000) : ∃ x, Ev (fun k => impl_closures.f k ps) x ∧ x.length = ps.length ∧ Words x ∧ Clo ps x ps.length := by
  simp only [impl_closures.f]
  have key : ∀ (n i : Nat) (x : List Int), i + n = ps.length → x.length = ps.length → Words x → Clo ps x i → ∃ y, Ev (fun k => impl_closures.l0 k x ps (ps.length : Int) (i : Int)) y ∧ y.length = ps.length ∧ Words y ∧ Clo ps y ps.length := by
    intro n
    induction n with
    | zero =>
      intro i x hi hl hw hc
      refine ⟨x, Ev.succ ?_, hl, hw, by rw [show ps.length = i by omega]; exact hc⟩
      simp only [impl_closures.l0]
      exact Ev.neg (by omega) (Ev.now _)
    | succ n ih =>
      intro i x hi hl hw hc
      have hrow := rdL_nat ps i (by omega)
      have hrg := row_get ps i (by omega)
      obtain ⟨s, hs, hs1, hs2⟩ := impl_unionOf_ev x hw (ps[i]'(by omega)) (by have := hr _ (List.getElem_mem (show i < ps.length by omega)); omega) (fun p hp => by
        have := hd i (by omega) p (by rw [hrg]; exact hp)
        omega)
      have h2 : 2 ^ i < 2 ^ 64 := two_pow_lt (by omega)
      have hor := or_lt hs1 h2
      obtain ⟨y, hy, hy1⟩ := ih (i + 1) (x.set i ((s ||| 2 ^ i : Nat) : Int)) (by omega) (by rw [List.length_set]; exact hl) (by
        intro v hv
        rw [List.length_set] at hv
        rw [rd_set x i _ v (by omega)]
        split
        · omega
        · exact hw v hv) (by
        intro v hv u
        unfold wd
        rw [rd_set x i _ v (by omega)]
        by_cases e : v = i
        · subst e
          rw [if_pos rfl, Int.toNat_natCast, Nat.testBit_or, anc_iff]
          simp only [Bool.or_eq_true, Nat.testBit_two_pow, decide_eq_true_eq]
          rw [hs2 u]
          constructor
          · rintro (⟨p, hp, h⟩ | h)
            · rw [← hrg] at hp
              have := hd v (by omega) _ hp
              exact .inr ⟨p, hp, (hc p (by omega) u).1 h⟩
            · exact .inl h.symm
          · rintro (h | ⟨p, hp, h⟩)
            · exact .inr h.symm
            · have := hd v (by omega) _ hp
              rw [hrg] at hp
              exact .inl ⟨p, hp, (hc p (by omega) u).2 h⟩
        · rw [if_neg e]
          exact hc v (by omega) u)
      refine ⟨y, Ev.succ ?_, hy1⟩
      simp only [impl_closures.l0]
      rw [hrow, up1 i (by omega), wrapu64 _ (by omega) (by omega), shl64_one i (by omega)]
      refine Ev.pos (by omega) (Ev.pos (by omega) (Ev.pos (by omega) (Ev.bnd hs (Ev.pos (by omega) (Ev.pos (by omega) ?_)))))
      rw [or64 _ _ hs1 h2, Int.toNat_natCast]
      exact hy
  obtain ⟨y, hy, hy1⟩ := key ps.length 0 (List.replicate ps.length 0) (by omega) (by simp) (fun v hv => by
    rw [List.length_replicate] at hv
    simp [rd, List.getD, hv]) (fun v hv => absurd hv (by omega))
  refine ⟨y, ?_, hy1⟩
  refine Ev.pos (by omega) (Ev.pos (by omega) ?_)
  rw [Int.toNat_natCast]
  exact hy
/-! impl.setOf: the numbers of a list below 64, as bits -/
def setStep (s : Nat) (v : Int) : Nat := if 0 ≤ v ∧ v ≤ 63 then s ||| 2 ^ v.toNat else s
def setN (l : List Int) : Nat := l.foldl setStep 0
theorem setStep_lt {s : Nat} (v : Int) (h : s < 2 ^ 64) : setStep s v < 2 ^ 64 := by
  unfold setStep
  split
  · exact or_lt h (two_pow_lt (by omega))
  · exact h
theorem setFold_lt : ∀ (l : List Int) (s : Nat), s < 2 ^ 64 → l.foldl setStep s < 2 ^ 64
  | [], _, h => h
  | v :: l, _, h => setFold_lt l _ (setStep_lt v h)
theorem setN_lt (l : List Int) : setN l < 2 ^ 64 := setFold_lt l 0 (by decide)
theorem impl_setOf_l0 (l : List Int) (hl : l.length ≤ 140737488351232) : ∀ (n i s : Nat), i + n = l.length → s < 2 ^ 64 → Ev (fun k => impl_setOf.l0 k (s : Int) l (l.length : Int) (i : Int)) (((l.drop i).foldl setStep s : Nat) : Int) := by
  intro n
  induction n with
  | zero =>
    intro i s hi hs
    refine Ev.succ ?_
    simp only [impl_setOf.l0]
    have e : l.drop i = [] := List.drop_eq_nil_iff.2 (by omega)
    exact Ev.neg (by omega) (Ev.some_ (by rw [e]; rfl))
  | succ n ih =>
    intro i s hi hs
    refine Ev.succ ?_
    simp only [impl_setOf.l0]
    have hd := drop_rd l i (by omega)
    refine Ev.pos (by omega) (Ev.pos (by omega) (Ev.pos (by omega) (Ev.bnd0 (impl_inRange_eq _ _ _) ?_)))
    rw [show wrap64 ((i : Int) + 1) = ((i + 1 : Nat) : Int) from by rw [w64 (by omega) (by omega)]; omega, hd, List.foldl_cons]
    by_cases hv : 0 ≤ rd l (i : Int) ∧ rd l (i : Int) ≤ 63
    · refine Ev.pos (by simpa using hv) ?_
      obtain ⟨v, hv'⟩ := Int.eq_ofNat_of_zero_le hv.1
      rw [hv'] at hv ⊢
      rw [wrapu64 _ (by omega) (by omega), shl64_one v (by omega), or64 _ _ hs (two_pow_lt (by omega))]
      refine Ev.pos (by omega) ?_
      have hst : setStep s (v : Int) = s ||| 2 ^ v := by rw [setStep, if_pos hv]; rfl
      rw [hst]
      exact ih (i + 1) _ (by omega) (or_lt hs (two_pow_lt (by omega)))
    · refine Ev.neg (by simpa using hv) ?_
      have hst : setStep s (rd l (i : Int)) = s := by rw [setStep, if_neg hv]
      rw [hst]
      exact ih (i + 1) _ (by omega) hs
theorem impl_setOf_ev (l : List Int) (hl : l.length ≤ 140737488351232) : Ev (fun k => impl_setOf.f k l) (setN l : Int) := by
  simp only [impl_setOf.f]
  exact impl_setOf_l0 l hl l.length 0 0 (by omega) (by decide)
theorem setN_bit : ∀ (l : List Int) (s u : Nat), (l.foldl setStep s).testBit u = true ↔ (s.testBit u = true ∨ (u ≤ 63 ∧ (u : Int) ∈ l))
  | [], s, u => by simp
  | v :: l, s, u => by
    rw [List.foldl_cons, setN_bit l (setStep s v) u]
    unfold setStep
    split
    · rename_i h
      obtain ⟨w, rfl⟩ := Int.eq_ofNat_of_zero_le h.1
      rw [Nat.testBit_or, Int.toNat_natCast, Nat.testBit_two_pow]
      simp only [Bool.or_eq_true, decide_eq_true_eq, List.mem_cons]
      constructor
      · rintro ((h1 | h1) | ⟨h1, h2⟩)
        · exact .inl h1
        · exact .inr ⟨by omega, .inl (by omega)⟩
        · exact .inr ⟨h1, .inr h2⟩
      · rintro (h1 | ⟨h1, h2 | h2⟩)
        · exact .inl (.inl h1)
        · exact .inl (.inr (by omega))
        · exact .inr ⟨h1, h2⟩
    · rename_i h
      simp only [List.mem_cons]
      constructor
      · rintro (h1 | ⟨h1, h2⟩)
        · exact .inl h1
        · exact .inr ⟨h1, .inr h2⟩
      · rintro (h1 | ⟨h1, h2 | h2⟩)
        · exact .inl h1
        · exact absurd ⟨by omega, by omega⟩ h
        · exact .inr ⟨h1, h2⟩
/-! right weaves -/
theorem rdW_nat (l : List S123) (i : Nat) (h : i < l.length) : rd_T123 l (i : Int) = l[i] := by
  simp [rd_T123, List.getD, List.getElem?_eq_getElem h]
theorem impl_isPlace_eq (a : Int) (n : Nat) (hn : n ≤ 140737488351232) : impl_isPlace.f a (n : Int) = some (decide (0 ≤ a ∧ a ≤ (n : Int) - 1)) := by
  simp only [impl_isPlace.f]
  rw [w64 (by omega) (by omega), impl_inRange_eq]
  rfl
theorem rows4 {ps : List (List Int)} (h : graphOk ps = true) : ∀ r ∈ ps, r.length ≤ 1000000 := by
  intro r hr
  simp only [graphOk, Bool.and_eq_true, decide_eq_true_eq] at h
  obtain ⟨i, hi, rfl⟩ := List.getElem_of_mem hr
  have := (gAll_get ps 0 h.2 i hi).1
  omega
/-- Is a body live where the versions of p are? -/
def liveB (p : Nat → Bool) (ins : Int) (dels : List Int) : Bool := decide (0 ≤ ins) && p ins.toNat && dels.all fun d => !(decide (0 ≤ d) && p d.toNat)
open Classical in
/-- The versions that are ancestors of one of a list, or one of it. -/
noncomputable def pS (ps : List (List Int)) (S : List Int) (u : Nat) : Bool := decide (∃ s : Nat, (s : Int) ∈ S ∧ s < ps.length ∧ Anc ps s u)
open Classical in
theorem pS_iff (ps : List (List Int)) (S : List Int) (u : Nat) : pS ps S u = true ↔ ∃ s : Nat, (s : Int) ∈ S ∧ s < ps.length ∧ Anc ps s u := by
  unfold pS
  exact decide_eq_true_iff
theorem bool_ext {f g : Nat → Bool} (h : ∀ u, f u = true ↔ g u = true) : f = g := funext fun u => by rw [Bool.eq_iff_iff]; exact h u
theorem gB_out {x : List Bool} {u : Nat} (h : x.length ≤ u) : gB x u = false := by
  simp [gB, List.getD, List.getElem?_eq_none h]
theorem spec_l06Live_ev (s : ByteArray) (ins ord : Int) (dels : List Int) (x : List Bool) (hx : x.length ≤ 1000000) (hd : dels.length ≤ 140737488351232) : Ev (fun k => spec_l06Live.f k s ins ord dels x) (liveB (gB x) ins dels) := by
  have key : ∀ (n i : Nat), i + n = dels.length → Ev (fun k => spec_l06Live.l0 k x (i : Int) s ins ord dels) ((dels.drop i).all fun d => !(decide (0 ≤ d) && gB x d.toNat)) := by
    intro n
    induction n with
    | zero =>
      intro i hi
      refine Ev.succ ?_
      simp only [spec_l06Live.l0]
      rw [drop_end dels i (by omega)]
      exact Ev.neg (by omega) (Ev.some_ rfl)
    | succ n ih =>
      intro i hi
      have hrd : rd dels (i : Int) = dels[i]'(by omega) := rd_nat _ _ _
      refine Ev.succ ?_
      simp only [spec_l06Live.l0]
      rw [hrd, w64 (by omega) (by omega), up1 i (by omega), List.drop_eq_getElem_cons (show i < dels.length by omega), List.all_cons]
      refine Ev.pos (by omega) (Ev.pos (by omega) (Ev.bnd0 (spec_l01In_eq _ _ _) ?_))
      by_cases h : 0 ≤ dels[i]'(by omega) ∧ dels[i]'(by omega) ≤ (x.length : Int) - 1
      · refine Ev.pos (by simpa using h) (Ev.pos (by omega) (Ev.pos (by omega) ?_))
        obtain ⟨d, hde⟩ := Int.eq_ofNat_of_zero_le h.1
        rw [hde, rdB_nat, Int.toNat_natCast]
        by_cases hb : gB x d = true
        · exact Ev.pos hb (Ev.some_ (by rw [hb]; simp))
        · refine Ev.neg hb ?_
          rw [Bool.eq_false_iff.2 hb, Bool.and_false, Bool.not_false, Bool.true_and]
          exact ih (i + 1) (by omega)
      · refine Ev.neg (by simpa using h) ?_
        have e : (decide (0 ≤ dels[i]'(by omega)) && gB x (dels[i]'(by omega)).toNat) = false := by
          by_cases c : 0 ≤ dels[i]'(by omega)
          · rw [gB_out (by omega), Bool.and_false]
          · rw [decide_eq_false c, Bool.false_and]
        rw [e, Bool.not_false, Bool.true_and]
        exact ih (i + 1) (by omega)
  have k0 := key dels.length 0 (by omega)
  rw [List.drop_zero] at k0
  simp only [spec_l06Live.f]
  rw [w64 (by omega) (by omega)]
  refine Ev.bnd0 (spec_l01In_eq _ _ _) ?_
  unfold liveB
  by_cases h : 0 ≤ ins ∧ ins ≤ (x.length : Int) - 1
  · refine Ev.pos (by simpa using h) (Ev.pos (by omega) (Ev.pos (by omega) (Ev.succ ?_)))
    simp only [spec_l06Live.j0]
    obtain ⟨d, hde⟩ := Int.eq_ofNat_of_zero_le h.1
    rw [hde, rdB_nat, Int.toNat_natCast, decide_eq_true (show (0 : Int) ≤ (d : Int) by omega), Bool.true_and]
    rw [hde] at k0
    by_cases hb : gB x d = true
    · rw [hb, Bool.true_and]
      exact Ev.neg (by simp) k0
    · rw [Bool.eq_false_iff.2 hb, Bool.false_and]
      exact Ev.pos (by simp) (Ev.now _)
  · refine Ev.neg (by simpa using h) (Ev.succ ?_)
    simp only [spec_l06Live.j0]
    refine Ev.pos trivial (Ev.some_ ?_)
    by_cases c : 0 ≤ ins
    · rw [gB_out (by omega), Bool.and_false, Bool.false_and]
    · rw [decide_eq_false c, Bool.false_and, Bool.false_and]
theorem impl_isLive_ev (s : ByteArray) (ins ord : Int) (dels : List Int) (c : Nat) (hc : c < 2 ^ 64) (hd : dels.length ≤ 140737488351232) : Ev (fun k => impl_Body_isLive.f k s ins ord dels (c : Int)) (liveB c.testBit ins dels) := by
  have big : ∀ u, 63 < u → c.testBit u = false := fun u hu => Nat.testBit_lt_two_pow (Nat.lt_of_lt_of_le hc (Nat.pow_le_pow_right (by decide) (by omega)))
  simp only [impl_Body_isLive.f]
  refine Ev.bnd0 (impl_set_has_eq c hc _) ?_
  unfold liveB
  by_cases h : (decide (0 ≤ ins ∧ ins ≤ 63) && c.testBit ins.toNat) = true
  · refine Ev.pos h (Ev.bnd (impl_setOf_ev dels hd) (Ev.some_ ?_))
    rw [and64 _ _ (setN_lt _) hc]
    have h' := h
    simp only [Bool.and_eq_true, decide_eq_true_eq] at h'
    rw [decide_eq_true h'.1.1, h'.2, Bool.true_and, Bool.true_and, Bool.eq_iff_iff, beq_iff_eq, List.all_eq_true]
    constructor
    · intro h0 d hd0
      by_cases c0 : 0 ≤ d
      · obtain ⟨u, rfl⟩ := Int.eq_ofNat_of_zero_le c0
        rw [Int.toNat_natCast]
        by_cases hu : u ≤ 63
        · have hz : setN dels &&& c = 0 := by omega
          have hb : (setN dels &&& c).testBit u = false := by rw [hz, Nat.zero_testBit]
          have hsn : (setN dels).testBit u = true := (setN_bit dels 0 u).2 (.inr ⟨hu, hd0⟩)
          rw [Nat.testBit_and, hsn, Bool.true_and] at hb
          simp [hb]
        · simp [big u (by omega)]
      · simp [c0]
    · intro h0
      have hz : setN dels &&& c = 0 := by
        apply Nat.eq_of_testBit_eq
        intro u
        rw [Nat.zero_testBit, Nat.testBit_and, Bool.and_eq_false_iff]
        by_cases hs : (setN dels).testBit u = true
        · rcases (setN_bit dels 0 u).1 hs with h1 | ⟨h1, h2⟩
          · simp at h1
          · have := h0 _ h2
            simp only [Int.toNat_natCast, Bool.not_eq_true', Bool.and_eq_false_iff, decide_eq_false_iff_not] at this
            rcases this with h3 | h3
            · omega
            · exact .inr h3
        · exact .inl (Bool.eq_false_iff.2 hs)
      omega
  · refine Ev.neg h (Ev.some_ ?_)
    by_cases c0 : 0 ≤ ins
    · have h1 : c.testBit ins.toNat = false := by
        by_cases hu : ins ≤ 63
        · rw [decide_eq_true (show 0 ≤ ins ∧ ins ≤ 63 from ⟨c0, hu⟩), Bool.true_and] at h
          exact Bool.eq_false_iff.2 h
        · exact big _ (by omega)
      rw [h1, Bool.and_false, Bool.false_and]
    · rw [decide_eq_false c0, Bool.false_and, Bool.false_and]
/-- The places of the live ones. -/
def placesL (p : Nat → Bool) : List S123 → Nat → List Int
  | [], _ => []
  | b :: bs, i => (if liveB p b.f1 b.f3 = true then [(i : Int)] else []) ++ placesL p bs (i + 1)
theorem placesL_length (p : Nat → Bool) : ∀ (bs : List S123) (i : Nat), (placesL p bs i).length ≤ bs.length
  | [], _ => by simp [placesL]
  | b :: bs, i => by
    have := placesL_length p bs (i + 1)
    simp only [placesL, List.length_append, List.length_cons]
    split <;> simp <;> omega
theorem spec_l06Places_ev (ps : List (List Int)) (bs : List S123) (x : List Bool) (hb : bs.length ≤ 1048576) (hbx : ∀ b ∈ bs, b.f3.length ≤ 1048576) (hx : x.length ≤ 1000000) : Ev (fun k => spec_l06Places.f k ps bs x) (placesL (gB x) bs 0) := by
  have key : ∀ (n i : Nat) (acc : List Int), i + n = bs.length → acc.length ≤ i → Ev (fun k => spec_l06Places.l0 k x acc (i : Int) ps bs) (acc ++ placesL (gB x) (bs.drop i) i) := by
    intro n
    induction n with
    | zero =>
      intro i acc hi ha
      refine Ev.succ ?_
      simp only [spec_l06Places.l0]
      rw [drop_end bs i (by omega)]
      exact Ev.neg (by omega) (Ev.some_ (by simp [placesL]))
    | succ n ih =>
      intro i acc hi ha
      refine Ev.succ ?_
      simp only [spec_l06Places.l0]
      have hm := hbx _ (List.getElem_mem (show i < bs.length by omega))
      rw [rdW_nat bs i (by omega), up1 i (by omega), List.drop_eq_getElem_cons (show i < bs.length by omega)]
      refine Ev.pos (by omega) (Ev.pos (by omega) (Ev.bnd (spec_l06Live_ev _ _ _ _ x hx (by omega)) ?_))
      simp only [placesL]
      by_cases c : liveB (gB x) (bs[i]'(by omega)).f1 (bs[i]'(by omega)).f3 = true
      · rw [if_pos c, ← List.append_assoc]
        exact Ev.pos c (Ev.pos (by omega) (ih (i + 1) _ (by omega) (by simp; omega)))
      · rw [if_neg c, List.nil_append]
        exact Ev.neg c (ih (i + 1) _ (by omega) (by omega))
  simp only [spec_l06Places.f]
  have := key bs.length 0 [] (by omega) (by simp)
  simpa using this
theorem impl_liveIn_ev (ps : List (List Int)) (bs : List S123) (c : Nat) (hc : c < 2 ^ 64) (hb : bs.length ≤ 1048576) (hbx : ∀ b ∈ bs, b.f3.length ≤ 1048576) : Ev (fun k => impl_Weave_liveIn.f k ps bs (c : Int)) (placesL c.testBit bs 0) := by
  have key : ∀ (n i : Nat) (acc : List Int), i + n = bs.length → acc.length ≤ i → Ev (fun k => impl_Weave_liveIn.l0 k (c : Int) acc bs (bs.length : Int) (i : Int)) (acc ++ placesL c.testBit (bs.drop i) i) := by
    intro n
    induction n with
    | zero =>
      intro i acc hi ha
      refine Ev.succ ?_
      simp only [impl_Weave_liveIn.l0]
      rw [drop_end bs i (by omega)]
      exact Ev.neg (by omega) (Ev.some_ (by simp [placesL]))
    | succ n ih =>
      intro i acc hi ha
      refine Ev.succ ?_
      simp only [impl_Weave_liveIn.l0]
      have hm := hbx _ (List.getElem_mem (show i < bs.length by omega))
      rw [rdW_nat bs i (by omega), up1 i (by omega), List.drop_eq_getElem_cons (show i < bs.length by omega)]
      refine Ev.pos (by omega) (Ev.pos (by omega) (Ev.pos (by omega) (Ev.bnd (impl_isLive_ev _ _ _ _ c hc (by omega)) ?_)))
      simp only [placesL]
      by_cases c1 : liveB c.testBit (bs[i]'(by omega)).f1 (bs[i]'(by omega)).f3 = true
      · rw [if_pos c1, ← List.append_assoc]
        exact Ev.pos c1 (Ev.pos (by omega) (ih (i + 1) _ (by omega) (by simp; omega)))
      · rw [if_neg c1, List.nil_append]
        exact Ev.neg c1 (ih (i + 1) _ (by omega) (by omega))
  simp only [impl_Weave_liveIn.f]
  have := key bs.length 0 [] (by omega) (by simp)
  simpa using this
/-- One body, where so many of each version were before it. -/
noncomputable def bodyOk (ps : List (List Int)) (born : List Int) (b : S123) : Bool :=
  lineOk b.f0 && decide (0 ≤ b.f1 ∧ b.f1 ≤ (ps.length : Int) - 1) && decide (b.f2 = rd born b.f1) && asc (ps.length : Int) none b.f3 && b.f3.all fun d => liveB (pS ps (row ps d.toNat)) b.f1 b.f3
def bornOf (born : List Int) (b : S123) : List Int := born.set b.f1.toNat (rd born b.f1 + 1)
noncomputable def endOk (ps : List (List Int)) (bs : List S123) (born : List Int) : Nat → Nat → Bool
  | 0, _ => true
  | n + 1, v => decide (rd born (v : Int) ≤ 80) && decide ((placesL (pS ps [(v : Int)]) bs 0).length ≤ 80) && endOk ps bs born n (v + 1)
noncomputable def bodiesGo (ps : List (List Int)) (all : List S123) : List S123 → List Int → Bool
  | [], born => endOk ps all born ps.length 0
  | b :: bs, born => bodyOk ps born b && bodiesGo ps all bs (bornOf born b)
noncomputable def weaveOk (ps : List (List Int)) (bs : List S123) : Bool := graphOk ps && decide (bs.length ≤ 300) && bodiesGo ps bs bs (List.replicate ps.length 0)
def Born (born : List Int) (i : Nat) : Prop := ∀ v : Nat, v < born.length → 0 ≤ rd born (v : Int) ∧ rd born (v : Int) ≤ (i : Int)
theorem Born.step {born : List Int} {i : Nat} (h : Born born i) (b : S123) (h0 : 0 ≤ b.f1) (h1 : b.f1 < born.length) : Born (bornOf born b) (i + 1) := by
  obtain ⟨u, hu⟩ := Int.eq_ofNat_of_zero_le h0
  have hul : u < born.length := by omega
  intro v hv
  unfold bornOf at hv ⊢
  rw [List.length_set] at hv
  rw [hu, Int.toNat_natCast, rd_set born u _ v hul]
  have a := h u hul
  have b := h v hv
  split <;> omega
theorem spec_bornOf (born : List Int) (b : S123) : (bornOf born b).length = born.length := by unfold bornOf; rw [List.length_set]
/-- The proper ancestors of each. -/
def ProperL (ps : List (List Int)) (x : List (List Bool)) (n : Nat) : Prop := x.length = n ∧ ∀ (i : Nat) (h : i < x.length), (x[i]).length = ps.length ∧ gB x[i] = pS ps (row ps i)
theorem rdP_nat (l : List (List Bool)) (i : Nat) (h : i < l.length) : rd_L6 l (i : Int) = l[i] := by
  simp [rd_L6, List.getD, List.getElem?_eq_getElem h]
theorem go_bad (ps : List (List Int)) (bs : List S123) {b : S123} {l : List S123} {born : List Int} (h : bodyOk ps born b = false) : bodiesGo ps bs (b :: l) born = false := by
  rw [bodiesGo, h, Bool.false_and]
theorem born0 (n : Nat) : Born (List.replicate n 0) 0 := by
  intro v hv
  rw [rd_nat _ v hv]
  simp
section
variable (ps : List (List Int)) (bs : List S123) (hg : graphOk ps = true) (hf : Fine ps bs) (h3 : bs.length ≤ 300)
include hg hf h3
theorem spec_closure_ev (v : Nat) : ∃ r, Ev (fun k => spec_l06Closure.f k ps bs (v : Int)) r ∧ r.length = ps.length ∧ gB r = pS ps [(v : Int)] := by
  have _ := hf
  have _ := h3
  have hd := graphOk_down hg
  have hn := graphOk_len hg
  obtain ⟨r, hr, hrl, hru⟩ := spec_l05Set_ev ps [(v : Int)] hd (by omega) (by simp) (rows4 hg)
  refine ⟨r, ?_, hrl, bool_ext fun u => (hru u).trans (pS_iff ps _ u).symm⟩
  simp only [spec_l06Closure.f]
  exact Ev.bnd hr (Ev.now _)
theorem spec_end (born : List Int) (hb : born.length = ps.length) : ∀ (m v : Nat), v + m = ps.length → Ev (fun k => spec_WeaveOk.l3 k (ps.length : Int) born (v : Int) ps bs) (endOk ps bs born m v) := by
  have hn := graphOk_len hg
  intro m
  induction m with
  | zero =>
    intro v hv
    refine Ev.succ ?_
    simp only [spec_WeaveOk.l3]
    exact Ev.neg (by omega) (Ev.some_ rfl)
  | succ m ih =>
    intro v hv
    refine Ev.succ ?_
    simp only [spec_WeaveOk.l3]
    rw [up1 v (by omega), endOk]
    refine Ev.pos (by omega) (Ev.pos (by omega) (Ev.pos (by omega) ?_))
    by_cases c : rd born (v : Int) > 80
    · exact Ev.pos c (Ev.some_ (by rw [decide_eq_false (by omega)]; simp))
    · refine Ev.neg c ?_
      obtain ⟨r, hr, hrl, hre⟩ := spec_closure_ev ps bs hg hf h3 v
      refine Ev.bnd hr (Ev.bnd (spec_l06Places_ev ps bs r hf.2.2.1 (fun b hb => (hf.2.2.2 b hb).2) (by omega)) ?_)
      rw [hre, decide_eq_true (show rd born (v : Int) ≤ 80 by omega), Bool.true_and]
      by_cases c2 : ((placesL (pS ps [(v : Int)]) bs 0).length : Int) > 80
      · exact Ev.pos c2 (Ev.some_ (by rw [decide_eq_false (by omega)]; simp))
      · rw [decide_eq_true (by omega), Bool.true_and]
        exact Ev.neg c2 (ih (v + 1) (by omega))
theorem spec_dels (P : List (List Bool)) (hP : ProperL ps P ps.length) (born : List Int) (i : Nat) (b : S123) (hb : ∀ d ∈ b.f3, 0 ≤ d ∧ d ≤ (ps.length : Int) - 1) (hl : b.f3.length ≤ 1048576) (hi : i < 1000) (R : Bool) (hR : Ev (fun k => spec_WeaveOk.l1 k (ps.length : Int) born P ((i + 1 : Nat) : Int) ps bs) R) :
    ∀ (m j : Nat), j + m = b.f3.length → Ev (fun k => spec_WeaveOk.l2 k (ps.length : Int) born P (i : Int) (j : Int) ps bs b.f0 b.f1 b.f2 b.f3) (((b.f3.drop j).all fun d => liveB (pS ps (row ps d.toNat)) b.f1 b.f3) && R) := by
  have _ := hf
  have _ := h3
  have hn := graphOk_len hg
  intro m
  induction m with
  | zero =>
    intro j hj
    refine Ev.succ ?_
    simp only [spec_WeaveOk.l2]
    rw [drop_end _ j (by omega), up1 i (by omega)]
    refine Ev.neg (by omega) ?_
    rw [List.all_nil, Bool.true_and]
    exact hR
  | succ m ih =>
    intro j hj
    have hrd : rd b.f3 (j : Int) = (b.f3)[j]'(by omega) := rd_nat _ _ _
    have hd := hb _ (List.getElem_mem (show j < b.f3.length by omega))
    obtain ⟨u, hu⟩ := Int.eq_ofNat_of_zero_le hd.1
    rw [hu] at hd
    have hul : u < P.length := by rw [hP.1]; omega
    have hPu := hP.2 u hul
    refine Ev.succ ?_
    simp only [spec_WeaveOk.l2]
    rw [hrd, hu, rdP_nat P u hul, up1 j (by omega), List.drop_eq_getElem_cons (show j < b.f3.length by omega), List.all_cons, hu, Int.toNat_natCast]
    refine Ev.pos (by omega) (Ev.pos (by omega) (Ev.pos (by omega) (Ev.pos (by omega) (Ev.bnd (spec_l06Live_ev _ _ _ _ _ (by omega) (by omega)) ?_))))
    rw [hPu.2]
    by_cases c : liveB (pS ps (row ps u)) b.f1 b.f3 = true
    · rw [c, Bool.true_and]
      exact Ev.pos (by first | rfl | trivial) (ih (j + 1) (by omega))
    · rw [Bool.eq_false_iff.2 c, Bool.false_and, Bool.false_and]
      exact Ev.neg (by simp) (Ev.now _)
theorem spec_bodies (P : List (List Bool)) (hP : ProperL ps P ps.length) : ∀ (m i : Nat) (born : List Int), i + m = bs.length → born.length = ps.length → Born born i → Ev (fun k => spec_WeaveOk.l1 k (ps.length : Int) born P (i : Int) ps bs) (bodiesGo ps bs (bs.drop i) born) := by
  have hn := graphOk_len hg
  intro m
  induction m with
  | zero =>
    intro i born hi hl hb
    refine Ev.succ ?_
    simp only [spec_WeaveOk.l1]
    rw [drop_end bs i (by omega)]
    exact Ev.neg (by omega) (spec_end ps bs hg hf h3 born hl ps.length 0 (by omega))
  | succ m ih =>
    intro i born hi hl hb
    have hm := hf.2.2.2 _ (List.getElem_mem (show i < bs.length by omega))
    refine Ev.succ ?_
    simp only [spec_WeaveOk.l1]
    rw [rdW_nat bs i (by omega), List.drop_eq_getElem_cons (show i < bs.length by omega), w64 (show -9223372036854775808 ≤ (ps.length : Int) - 1 by omega) (by omega)]
    generalize hbe : bs[i]'(by omega) = b at hm ⊢
    refine Ev.pos (by omega) (Ev.pos (by omega) (Ev.bnd (spec_LineOk_ev b.f0 (by omega)) ?_))
    by_cases c1 : lineOk b.f0 = true
    · refine Ev.pos c1 (Ev.bnd0 (spec_l01In_eq _ _ _) ?_)
      by_cases c2 : 0 ≤ b.f1 ∧ b.f1 ≤ (ps.length : Int) - 1
      · refine Ev.pos (by simpa using c2) (Ev.pos c2.1 (Ev.pos (by omega) ?_))
        by_cases c3 : b.f2 = rd born b.f1
        · refine Ev.pos c3 (Ev.bnd (spec_l05Rise_ev b.f3 (ps.length : Int) (by omega) (by omega) (by omega)) (Ev.succ ?_))
          simp only [spec_WeaveOk.j3]
          by_cases c4 : asc (ps.length : Int) none b.f3 = true
          · refine Ev.neg (by simp [c4]) (Ev.pos c2.1 (Ev.pos (by omega) ?_))
            obtain ⟨u, hu⟩ := Int.eq_ofNat_of_zero_le c2.1
            have hbu := hb u (by omega)
            rw [← hu] at hbu
            rw [w64 (by omega) (by omega)]
            have key := spec_dels ps bs hg hf h3 P hP (bornOf born b) i b (asc_bound _ _ _ c4) hm.2 (by omega) _ (ih (i + 1) (bornOf born b) (by omega) (by rw [spec_bornOf]; exact hl) (hb.step b c2.1 (by omega))) b.f3.length 0 (by omega)
            refine Ev_eq key ?_
            rw [bodiesGo, bodyOk, c1, decide_eq_true c2, decide_eq_true c3, c4, List.drop_zero]
            simp
          · exact Ev.pos (by simp [Bool.eq_false_iff.2 c4]) (Ev.some_ (go_bad ps bs (by simp [bodyOk, Bool.eq_false_iff.2 c4])).symm)
        · refine Ev.neg c3 (Ev.succ ?_)
          simp only [spec_WeaveOk.j3]
          exact Ev.pos trivial (Ev.some_ (go_bad ps bs (by simp [bodyOk, c3])).symm)
      · refine Ev.neg (by simpa using c2) (Ev.succ ?_)
        simp only [spec_WeaveOk.j3]
        exact Ev.pos trivial (Ev.some_ (go_bad ps bs (by rw [bodyOk, decide_eq_false c2]; simp)).symm)
    · refine Ev.neg c1 (Ev.succ ?_)
      simp only [spec_WeaveOk.j3]
      exact Ev.pos trivial (Ev.some_ (go_bad ps bs (by simp [bodyOk, Bool.eq_false_iff.2 c1])).symm)
theorem spec_proper : ∀ (m v : Nat) (P : List (List Bool)), v + m = ps.length → ProperL ps P v → Ev (fun k => spec_WeaveOk.l0 k (ps.length : Int) (List.replicate ps.length 0) P (v : Int) ps bs) (bodiesGo ps bs bs (List.replicate ps.length 0)) := by
  have hn := graphOk_len hg
  have hd := graphOk_down hg
  intro m
  induction m with
  | zero =>
    intro v P hv hP
    refine Ev.succ ?_
    simp only [spec_WeaveOk.l0]
    refine Ev.neg (by omega) ?_
    have := spec_bodies ps bs hg hf h3 P (by have e : v = ps.length := (by omega); exact e ▸ hP) bs.length 0 (List.replicate ps.length 0) (by omega) (by simp) (born0 _)
    simpa using this
  | succ m ih =>
    intro v P hv hP
    have h4 := rows4 hg _ (List.getElem_mem (show v < ps.length by omega))
    refine Ev.succ ?_
    simp only [spec_WeaveOk.l0]
    obtain ⟨r, hr, hrl, hru⟩ := spec_l05Set_ev ps (ps[v]'(by omega)) hd (by omega) (by omega) (rows4 hg)
    rw [rdL_nat ps v (by omega), up1 v (by omega)]
    have hPl := hP.1
    refine Ev.pos (by omega) (Ev.pos (by omega) (Ev.pos (by omega) (Ev.bnd hr (Ev.pos (by omega) (ih (v + 1) (P ++ [r]) (by omega) ⟨by simp [hPl], fun i h => ?_⟩)))))
    by_cases c : i < P.length
    · rw [List.getElem_append_left c]
      exact hP.2 i c
    · have e : i = v := by simp at h; omega
      subst e
      have eg : (P ++ [r])[i] = r := by
        rw [List.getElem_append_right (by omega)]
        simp [hPl]
      rw [eg]
      refine ⟨hrl, bool_ext fun u => ?_⟩
      rw [hru u, pS_iff, row_get ps i (by omega)]
end
theorem spec_WeaveOk_ev (ps : List (List Int)) (bs : List S123) (hf : Fine ps bs) : Ev (fun k => spec_WeaveOk.f k ps bs) (weaveOk ps bs) := by
  have hf1 := hf.1
  simp only [spec_WeaveOk.f]
  unfold weaveOk
  refine Ev.bnd (spec_GraphOk_ev ps (by omega) (fun x hx => by have := hf.2.1 x hx; omega)) ?_
  by_cases hg : graphOk ps = true
  · refine Ev.pos hg (Ev.succ ?_)
    simp only [spec_WeaveOk.j0]
    by_cases h3 : bs.length ≤ 300
    · refine Ev.neg (by simp; omega) (Ev.pos (by omega) (Ev.pos (by omega) ?_))
      rw [Int.toNat_natCast, hg, decide_eq_true h3, Bool.true_and, Bool.true_and]
      exact spec_proper ps bs hg hf h3 ps.length 0 [] (by omega) ⟨rfl, fun i h => absurd h (by simp)⟩
    · exact Ev.pos (by simp; omega) (Ev.some_ (by rw [decide_eq_false h3]; simp))
  · refine Ev.neg hg (Ev.succ ?_)
    simp only [spec_WeaveOk.j0]
    exact Ev.pos trivial (Ev.some_ (by rw [Bool.eq_false_iff.2 hg]; simp))
section
variable (ps : List (List Int)) (bs : List S123) (hg : graphOk ps = true) (hf : Fine ps bs) (h3 : bs.length ≤ 300) (x : List Int) (hxl : x.length = ps.length) (hw : Words x) (hc : Clo ps x ps.length)
include hg hf h3 hxl hw hc
theorem clo_bits (v : Nat) (hv : v < ps.length) : (wd x v).testBit = pS ps [(v : Int)] := by
  have _ := hg
  have _ := hf
  have _ := h3
  have _ := hxl
  have _ := hw
  refine bool_ext fun u => ?_
  rw [hc v hv u, pS_iff]
  constructor
  · intro h; exact ⟨v, by simp, hv, h⟩
  · rintro ⟨s, hs, _, ha⟩
    have : s = v := by have := List.mem_singleton.1 hs; omega
    exact this ▸ ha
theorem union_bits (l : List Int) (hl : l.length ≤ 140737488351232) (hp : ∀ p ∈ l, 0 ≤ p ∧ p < (ps.length : Int)) : ∃ s : Nat, Ev (fun k => impl_unionOf.f k x l) (s : Int) ∧ s < 2 ^ 64 ∧ s.testBit = pS ps l := by
  have _ := hg
  have _ := hf
  have _ := h3
  obtain ⟨s, hs, hs1, hs2⟩ := impl_unionOf_ev x hw l hl (fun p h => by have := hp p h; omega)
  refine ⟨s, hs, hs1, bool_ext fun u => ?_⟩
  rw [hs2 u, pS_iff]
  constructor
  · rintro ⟨p, hp1, hp2⟩
    have := hp _ hp1
    exact ⟨p, hp1, by omega, (hc p (by omega) u).1 hp2⟩
  · rintro ⟨p, hp1, hp2, ha⟩
    exact ⟨p, hp1, (hc p hp2 u).2 ha⟩
theorem impl_end (born : List Int) (hb : born.length = ps.length) : ∀ (m v : Nat), v + m = ps.length → Ev (fun k => impl_bodiesOk.l2 k born x (x.length : Int) (v : Int) ps bs) (endOk ps bs born m v) := by
  have hn := graphOk_len hg
  intro m
  induction m with
  | zero =>
    intro v hv
    refine Ev.succ ?_
    simp only [impl_bodiesOk.l2]
    exact Ev.neg (by omega) (Ev.some_ rfl)
  | succ m ih =>
    intro v hv
    refine Ev.succ ?_
    simp only [impl_bodiesOk.l2]
    rw [up1 v (by omega), endOk, wd_cast hw (show v < x.length by omega)]
    refine Ev.pos (by omega) (Ev.pos (by omega) (Ev.pos (by omega) (Ev.pos (by omega) ?_)))
    by_cases c : rd born (v : Int) > 80
    · exact Ev.pos c (Ev.some_ (by rw [decide_eq_false (by omega)]; simp))
    · refine Ev.neg c (Ev.bnd (impl_liveIn_ev ps bs (wd x v) (wd_lt hw (by omega)) hf.2.2.1 (fun b hb => (hf.2.2.2 b hb).2)) ?_)
      rw [clo_bits ps bs hg hf h3 x hxl hw hc v (by omega), decide_eq_true (show rd born (v : Int) ≤ 80 by omega), Bool.true_and]
      by_cases c2 : ((placesL (pS ps [(v : Int)]) bs 0).length : Int) > 80
      · exact Ev.pos c2 (Ev.some_ (by rw [decide_eq_false (by omega)]; simp))
      · rw [decide_eq_true (by omega), Bool.true_and]
        exact Ev.neg c2 (ih (v + 1) (by omega))
theorem impl_dels (born : List Int) (i : Nat) (b : S123) (hb : ∀ d ∈ b.f3, 0 ≤ d ∧ d ≤ (ps.length : Int) - 1) (hl : b.f3.length ≤ 1048576) (hi : i < 1000) (R : Bool) (hR : Ev (fun k => impl_bodiesOk.l0 k x born bs (bs.length : Int) ((i + 1 : Nat) : Int) ps bs) R) :
    ∀ (m j : Nat), j + m = b.f3.length → Ev (fun k => impl_bodiesOk.l1 k x born bs (bs.length : Int) (i : Int) b.f3 (b.f3.length : Int) (j : Int) ps bs b.f0 b.f1 b.f2 b.f3) (((b.f3.drop j).all fun d => liveB (pS ps (row ps d.toNat)) b.f1 b.f3) && R) := by
  have hn := graphOk_len hg
  have hdn := graphOk_down hg
  intro m
  induction m with
  | zero =>
    intro j hj
    refine Ev.succ ?_
    simp only [impl_bodiesOk.l1]
    rw [drop_end _ j (by omega), up1 i (by omega)]
    refine Ev.neg (by omega) ?_
    rw [List.all_nil, Bool.true_and]
    exact hR
  | succ m ih =>
    intro j hj
    have hrd : rd b.f3 (j : Int) = (b.f3)[j]'(by omega) := rd_nat _ _ _
    have hd := hb _ (List.getElem_mem (show j < b.f3.length by omega))
    obtain ⟨u, hu⟩ := Int.eq_ofNat_of_zero_le hd.1
    rw [hu] at hd
    have hul : u < ps.length := by omega
    have h4 := rows4 hg _ (List.getElem_mem hul)
    obtain ⟨s, hs, hs1, hs2⟩ := union_bits ps bs hg hf h3 x hxl hw hc (ps[u]'hul) (by omega) (fun p hp => by have := hdn u hul p (by rw [row_get ps u hul]; exact hp); omega)
    refine Ev.succ ?_
    simp only [impl_bodiesOk.l1]
    rw [hrd, hu, rdL_nat ps u hul, up1 j (by omega), List.drop_eq_getElem_cons (show j < b.f3.length by omega), List.all_cons, hu, Int.toNat_natCast]
    refine Ev.pos (by omega) (Ev.pos (by omega) (Ev.pos (by omega) (Ev.pos (by omega) (Ev.pos (by omega) (Ev.bnd hs (Ev.bnd (impl_isLive_ev _ _ _ _ s hs1 (by omega)) ?_))))))
    rw [hs2, ← row_get ps u hul]
    by_cases c : liveB (pS ps (row ps u)) b.f1 b.f3 = true
    · rw [c, Bool.true_and]
      exact Ev.pos (by first | rfl | trivial) (ih (j + 1) (by omega))
    · rw [Bool.eq_false_iff.2 c, Bool.false_and, Bool.false_and]
      exact Ev.neg (by simp) (Ev.now _)
theorem impl_bodies : ∀ (m i : Nat) (born : List Int), i + m = bs.length → born.length = ps.length → Born born i → Ev (fun k => impl_bodiesOk.l0 k x born bs (bs.length : Int) (i : Int) ps bs) (bodiesGo ps bs (bs.drop i) born) := by
  have hn := graphOk_len hg
  intro m
  induction m with
  | zero =>
    intro i born hi hl hb
    refine Ev.succ ?_
    simp only [impl_bodiesOk.l0]
    rw [drop_end bs i (by omega)]
    exact Ev.neg (by omega) (impl_end ps bs hg hf h3 x hxl hw hc born hl ps.length 0 (by omega))
  | succ m ih =>
    intro i born hi hl hb
    have hm := hf.2.2.2 _ (List.getElem_mem (show i < bs.length by omega))
    have hbad : ∀ {b : S123} {l : List S123}, bodyOk ps born b = false → bodiesGo ps bs (b :: l) born = false := fun h => by rw [bodiesGo, h, Bool.false_and]
    refine Ev.succ ?_
    simp only [impl_bodiesOk.l0]
    rw [rdW_nat bs i (by omega), List.drop_eq_getElem_cons (show i < bs.length by omega)]
    generalize hbe : bs[i]'(by omega) = b at hm ⊢
    refine Ev.pos (by omega) (Ev.pos (by omega) (Ev.pos (by omega) (Ev.bnd0 (impl_LineOk_eq b.f0) ?_)))
    by_cases c1 : lineOk b.f0 = true
    · refine Ev.pos c1 (Ev.bnd0 (impl_isPlace_eq _ x.length (by omega)) ?_)
      rw [hxl]
      by_cases c2 : 0 ≤ b.f1 ∧ b.f1 ≤ (ps.length : Int) - 1
      · refine Ev.pos (by simpa using c2) (Ev.pos c2.1 (Ev.pos (by omega) ?_))
        by_cases c3 : b.f2 = rd born b.f1
        · refine Ev.pos c3 (Ev.bnd (impl_ascends_ev b.f3 (ps.length : Int) (by omega) (by omega) (by omega)) (Ev.succ ?_))
          simp only [impl_bodiesOk.j1]
          by_cases c4 : asc (ps.length : Int) none b.f3 = true
          · refine Ev.neg (by simp [c4]) (Ev.pos c2.1 (Ev.pos (by omega) ?_))
            obtain ⟨u, hu⟩ := Int.eq_ofNat_of_zero_le c2.1
            have hbu := hb u (by omega)
            rw [← hu] at hbu
            rw [w64 (by omega) (by omega)]
            have key := impl_dels ps bs hg hf h3 x hxl hw hc (bornOf born b) i b (asc_bound _ _ _ c4) hm.2 (by omega) _ (ih (i + 1) (bornOf born b) (by omega) (by rw [spec_bornOf]; exact hl) (hb.step b c2.1 (by omega))) b.f3.length 0 (by omega)
            refine Ev_eq key ?_
            rw [bodiesGo, bodyOk, c1, decide_eq_true c2, decide_eq_true c3, c4, List.drop_zero]
            simp
          · exact Ev.pos (by simp [Bool.eq_false_iff.2 c4]) (Ev.some_ (hbad (by simp [bodyOk, Bool.eq_false_iff.2 c4])).symm)
        · refine Ev.neg c3 (Ev.succ ?_)
          simp only [impl_bodiesOk.j1]
          exact Ev.pos trivial (Ev.some_ (hbad (by simp [bodyOk, c3])).symm)
      · refine Ev.neg (by simpa using c2) (Ev.succ ?_)
        simp only [impl_bodiesOk.j1]
        exact Ev.pos trivial (Ev.some_ (hbad (by rw [bodyOk, decide_eq_false c2]; simp)).symm)
    · refine Ev.neg c1 (Ev.succ ?_)
      simp only [impl_bodiesOk.j1]
      exact Ev.pos trivial (Ev.some_ (hbad (by simp [bodyOk, Bool.eq_false_iff.2 c1])).symm)
end
theorem impl_WeaveOk_ev (ps : List (List Int)) (bs : List S123) (hf : Fine ps bs) : Ev (fun k => impl_WeaveOk.f k ps bs) (weaveOk ps bs) := by
  have hf1 := hf.1
  simp only [impl_WeaveOk.f]
  unfold weaveOk
  by_cases h3 : bs.length ≤ 300
  · refine Ev.pos (by omega) (Ev.bnd (impl_GraphOk_ev ps (by omega) (fun x hx => by have := hf.2.1 x hx; omega)) ?_)
    by_cases hg : graphOk ps = true
    · refine Ev.pos hg ?_
      have hd := graphOk_down hg
      have hn := graphOk_len hg
      obtain ⟨x, hx1, hxl, hw, hc⟩ := impl_closures_ev ps hd (by omega) (rows4 hg)
      refine Ev.bnd hx1 (Ev.bnd ?_ (Ev.now _))
      simp only [impl_bodiesOk.f]
      refine Ev.pos (by omega) (Ev.pos (by omega) ?_)
      rw [Int.toNat_natCast, hxl, hg, decide_eq_true h3, Bool.true_and, Bool.true_and]
      have := impl_bodies ps bs hg hf h3 x hxl hw hc bs.length 0 (List.replicate ps.length 0) (by omega) (by simp) (born0 _)
      simpa using this
    · exact Ev.neg hg (Ev.some_ (by rw [Bool.eq_false_iff.2 hg]; simp))
  · exact Ev.neg (by omega) (Ev.some_ (by rw [decide_eq_false h3]; simp))
/-! versions of a right weave -/
theorem weaveOk_graph {ps : List (List Int)} {bs : List S123} (h : weaveOk ps bs = true) : graphOk ps = true ∧ bs.length ≤ 300 := by
  simp only [weaveOk, Bool.and_eq_true, decide_eq_true_eq] at h
  exact h.1
def isV (ps : List (List Int)) (v : Int) : Bool := decide (0 ≤ v ∧ v ≤ (ps.length : Int) - 1)
theorem isV_nat {ps : List (List Int)} {v : Int} (h : isV ps v = true) : ∃ u : Nat, v = (u : Int) ∧ u < ps.length := by
  simp only [isV, decide_eq_true_eq] at h
  obtain ⟨u, hu⟩ := Int.eq_ofNat_of_zero_le h.1
  exact ⟨u, hu, by omega⟩
def inB (l : List Int) (d : Int) : Bool := decide (d ∈ l)
theorem inB_drop {l : List Int} {i : Nat} (h : i < l.length) (d : Int) : inB (l.drop i) d = (decide (rd l (i : Int) = d) || inB (l.drop (i + 1)) d) := by
  rw [rd_nat l i h]
  unfold inB
  rw [List.drop_eq_getElem_cons h, Bool.eq_iff_iff]
  simp only [decide_eq_true_eq, Bool.or_eq_true, List.mem_cons]
  constructor
  · rintro (h | h)
    · exact .inl h.symm
    · exact .inr h
  · rintro (h | h)
    · exact .inl h.symm
    · exact .inr h
theorem spec_l07In_ev (l : List Int) (d : Int) (hl : l.length ≤ 1048576) : Ev (fun k => spec_l07In.f k l d) (inB l d) := by
  have key : ∀ (n i : Nat), i + n = l.length → Ev (fun k => spec_l07In.l0 k l d (i : Int)) (inB (l.drop i) d) := by
    intro n
    induction n with
    | zero =>
      intro i hi
      refine Ev.succ ?_
      simp only [spec_l07In.l0]
      rw [drop_end l i (by omega)]
      exact Ev.neg (by omega) (Ev.some_ (by simp [inB]))
    | succ n ih =>
      intro i hi
      refine Ev.succ ?_
      simp only [spec_l07In.l0]
      rw [inB_drop (by omega), up1 i (by omega)]
      refine Ev.pos (by omega) (Ev.pos (by omega) ?_)
      by_cases c : rd l (i : Int) = d
      · exact Ev.pos c (Ev.some_ (by simp [c]))
      · exact Ev.neg c (Ev_eq (ih (i + 1) (by omega)) (by simp [c]))
  simp only [spec_l07In.f]
  exact key l.length 0 (by omega)
theorem slices_Contains_ev (l : List Int) (d : Int) (hl : l.length ≤ 1048576) : Ev (fun k => slices_Contains_int_int.f k l d) (inB l d) := by
  have key : ∀ (n i : Nat), i + n = l.length → ∃ r : Int, Ev (fun k => slices_Index_int_int.l0 k l d (l.length : Int) (i : Int)) r ∧ decide (r ≥ 0) = inB (l.drop i) d := by
    intro n
    induction n with
    | zero =>
      intro i hi
      refine ⟨-1, Ev.succ ?_, ?_⟩
      · simp only [slices_Index_int_int.l0]
        exact Ev.neg (by omega) (Ev.now _)
      · rw [drop_end l i (by omega)]
        simp [inB]
    | succ n ih =>
      intro i hi
      obtain ⟨r, hr, he⟩ := ih (i + 1) (by omega)
      rw [inB_drop (show i < l.length by omega)]
      by_cases c : rd l (i : Int) = d
      · refine ⟨(i : Int), Ev.succ ?_, by simp [c]⟩
        simp only [slices_Index_int_int.l0]
        exact Ev.pos (by omega) (Ev.pos (by omega) (Ev.pos (by omega) (Ev.pos c.symm (Ev.now _))))
      · refine ⟨r, Ev.succ ?_, by simp [c, he]⟩
        simp only [slices_Index_int_int.l0]
        rw [up1 i (by omega)]
        exact Ev.pos (by omega) (Ev.pos (by omega) (Ev.pos (by omega) (Ev.neg (fun h => c h.symm) hr)))
  obtain ⟨r, hr, he⟩ := key l.length 0 (by omega)
  simp only [slices_Contains_int_int.f, slices_Index_int_int.f]
  exact Ev.bnd hr (Ev.some_ (by rw [he]; rfl))
/-! records: what a body's marks are, on both sides -/
def recM (t : Int) (d : Int) : S78 := ⟨t, d, (⟨#[]⟩ : ByteArray)⟩
def midL (a b : Int) : List S78 := if a = b then [] else (if a ≥ 0 then [recM 3 a] else []) ++ (if b ≥ 0 then [recM 2 b] else [])
def tailL (d1 d2 : List Int) : List S78 := (d2.filter fun d => !inB d1 d).map (recM 4)
def headL (d1 d2 : List Int) : List S78 := (d1.reverse.filter fun d => !inB d2 d).map (recM 5)
def marksL (i1 : Int) (d1 : List Int) (i2 : Int) (d2 : List Int) : List S78 := headL d1 d2 ++ (midL i1 i2 ++ tailL d1 d2)
theorem spec_l07Marks_ev (s1 : ByteArray) (i1 o1 : Int) (d1 : List Int) (s2 : ByteArray) (i2 o2 : Int) (d2 : List Int) (h1 : d1.length ≤ 1048576) (h2 : d2.length ≤ 1048576) : Ev (fun k => spec_l07Marks.f k s1 i1 o1 d1 s2 i2 o2 d2) (marksL i1 d1 i2 d2) := by
  have key1 : ∀ (n i : Nat) (acc : List S78), i + n = d2.length → acc.length ≤ 2000000 + i → Ev (fun k => spec_l07Marks.l1 k acc (i : Int) s1 i1 o1 d1 s2 i2 o2 d2) (acc ++ tailL d1 (d2.drop i)) := by
    intro n
    induction n with
    | zero =>
      intro i acc hi ha
      refine Ev.succ ?_
      simp only [spec_l07Marks.l1]
      rw [drop_end d2 i (by omega)]
      exact Ev.neg (by omega) (Ev.some_ (by simp [tailL]))
    | succ n ih =>
      intro i acc hi ha
      refine Ev.succ ?_
      simp only [spec_l07Marks.l1]
      have e := rd_nat d2 i (by omega)
      rw [up1 i (by omega), List.drop_eq_getElem_cons (show i < d2.length by omega), ← e]
      unfold tailL
      rw [List.filter_cons]
      refine Ev.pos (by omega) (Ev.pos (by omega) (Ev.bnd (spec_l07In_ev d1 _ h1) ?_))
      by_cases c : inB d1 (rd d2 (i : Int)) = true
      · rw [if_neg (by simp [c])]
        exact Ev.pos c (ih (i + 1) acc (by omega) (by omega))
      · rw [if_pos (by simp [c])]
        refine Ev.neg c (Ev.pos (by omega) ?_)
        exact Ev_eq (ih (i + 1) _ (by omega) (by simp; omega)) (by simp [tailL, recM])
  have hj : ∀ acc : List S78, acc.length ≤ 2000000 → Ev (fun k => spec_l07Marks.j1 k acc s1 i1 o1 d1 s2 i2 o2 d2) (acc ++ tailL d1 d2) := by
    intro acc ha
    refine Ev.succ ?_
    simp only [spec_l07Marks.j1]
    exact key1 d2.length 0 acc (by omega) (by omega)
  have key0 : ∀ (n : Nat) (acc : List S78), n ≤ d1.length → acc.length + n ≤ 1048576 → Ev (fun k => spec_l07Marks.l0 k acc ((n : Int) - 1) s1 i1 o1 d1 s2 i2 o2 d2) (acc ++ headL (d1.take n) d2 ++ (midL i1 i2 ++ tailL d1 d2)) := by
    intro n
    induction n with
    | zero =>
      intro acc hn ha
      refine Ev.succ ?_
      simp only [spec_l07Marks.l0]
      refine Ev.neg (by omega) ?_
      have e0 : headL (d1.take 0) d2 = [] := by simp [headL]
      rw [e0, List.append_nil]
      unfold midL
      by_cases c : i1 = i2
      · rw [if_pos c]
        exact Ev.pos c (Ev_eq (hj acc (by omega)) (by simp))
      · rw [if_neg c]
        refine Ev.neg c ?_
        by_cases a1 : i1 ≥ 0
        · rw [if_pos a1]
          refine Ev.pos a1 (Ev.pos (by omega) (Ev.bnd0 rfl ?_))
          by_cases a2 : i2 ≥ 0
          · rw [if_pos a2]
            exact Ev.pos a2 (Ev.pos (by simp; omega) (Ev_eq (hj _ (by simp; omega)) (by simp [recM])))
          · rw [if_neg a2]
            exact Ev.neg a2 (Ev_eq (hj _ (by simp; omega)) (by simp [recM]))
        · rw [if_neg a1]
          refine Ev.neg a1 ?_
          by_cases a2 : i2 ≥ 0
          · rw [if_pos a2]
            exact Ev.pos a2 (Ev.pos (by omega) (Ev_eq (hj _ (by simp; omega)) (by simp [recM])))
          · rw [if_neg a2]
            exact Ev.neg a2 (Ev_eq (hj _ (by omega)) (by simp))
    | succ n ih =>
      intro acc hn ha
      refine Ev.succ ?_
      simp only [spec_l07Marks.l0]
      have e := rd_nat d1 n (by omega)
      have ex : (((n + 1 : Nat) : Int) - 1) = (n : Int) := by omega
      have ey : headL (d1.take (n + 1)) d2 = (if (!inB d2 (rd d1 (n : Int))) = true then [recM 5 (rd d1 (n : Int))] else []) ++ headL (d1.take n) d2 := by
        unfold headL
        rw [List.take_succ_eq_append_getElem (show n < d1.length by omega), List.reverse_append, ← e, List.reverse_singleton, List.singleton_append, List.filter_cons]
        split <;> simp
      rw [ex, ey, show wrap64 ((n : Int) - 1) = (n : Int) - 1 from w64 (by omega) (by omega)]
      refine Ev.pos (by omega) (Ev.pos (by omega) (Ev.pos (by omega) (Ev.bnd (spec_l07In_ev d2 _ h2) ?_)))
      by_cases c : inB d2 (rd d1 (n : Int)) = true
      · rw [if_neg (by simp [c]), List.nil_append]
        exact Ev.pos c (ih acc (by omega) (by omega))
      · rw [if_pos (by simp [c])]
        refine Ev.neg c (Ev.pos (by omega) ?_)
        exact Ev_eq (ih _ (by omega) (by simp; omega)) (by simp [recM])
  simp only [spec_l07Marks.f]
  rw [w64 (by omega) (by omega)]
  exact Ev_eq (key0 d1.length [] (by omega) (by simp; omega)) (by simp [marksL])
theorem impl_marks_ev (i1 : Int) (d1 : List Int) (i2 : Int) (d2 : List Int) (h1 : d1.length ≤ 1048576) (h2 : d2.length ≤ 1048576) : Ev (fun k => impl_marks.f k i1 d1 i2 d2) (marksL i1 d1 i2 d2) := by
  have key1 : ∀ (n i : Nat) (acc : List S78), i + n = d2.length → acc.length ≤ 2000000 + i → Ev (fun k => impl_marks.l1 k d1 acc d2 (d2.length : Int) (i : Int)) (acc ++ tailL d1 (d2.drop i)) := by
    intro n
    induction n with
    | zero =>
      intro i acc hi ha
      refine Ev.succ ?_
      simp only [impl_marks.l1]
      rw [drop_end d2 i (by omega)]
      exact Ev.neg (by omega) (Ev.some_ (by simp [tailL]))
    | succ n ih =>
      intro i acc hi ha
      refine Ev.succ ?_
      simp only [impl_marks.l1]
      have e := rd_nat d2 i (by omega)
      rw [up1 i (by omega), List.drop_eq_getElem_cons (show i < d2.length by omega), ← e]
      unfold tailL
      rw [List.filter_cons]
      refine Ev.pos (by omega) (Ev.pos (by omega) (Ev.pos (by omega) (Ev.bnd (slices_Contains_ev d1 _ h1) ?_)))
      by_cases c : inB d1 (rd d2 (i : Int)) = true
      · rw [if_neg (by simp [c])]
        exact Ev.pos c (ih (i + 1) acc (by omega) (by omega))
      · rw [if_pos (by simp [c])]
        refine Ev.neg c (Ev.pos (by omega) ?_)
        exact Ev_eq (ih (i + 1) _ (by omega) (by simp; omega)) (by simp [tailL, recM])
  have h4 : ∀ acc : List S78, acc.length ≤ 2000000 → Ev (fun k => impl_marks.j4 k d1 d2 acc) (acc ++ tailL d1 d2) := by
    intro acc ha
    refine Ev.succ ?_
    simp only [impl_marks.j4]
    exact key1 d2.length 0 acc (by omega) (by omega)
  have h3 : ∀ (acc : List S78) (b : Bool), acc.length ≤ 1999999 → Ev (fun k => impl_marks.j3 k d1 i2 d2 acc b) (acc ++ ((if b = true then [recM 2 i2] else []) ++ tailL d1 d2)) := by
    intro acc b ha
    refine Ev.succ ?_
    simp only [impl_marks.j3]
    by_cases c : b = true
    · rw [if_pos c]
      exact Ev.pos c (Ev.pos (by omega) (Ev_eq (h4 _ (by simp; omega)) (by simp [recM])))
    · rw [if_neg c]
      exact Ev.neg c (Ev_eq (h4 _ (by omega)) (by simp))
  have h2' : ∀ (acc : List S78), acc.length ≤ 1999999 → Ev (fun k => impl_marks.j2 k i1 d1 i2 d2 acc) (acc ++ ((if i1 = i2 then [] else if i2 ≥ 0 then [recM 2 i2] else []) ++ tailL d1 d2)) := by
    intro acc ha
    refine Ev.succ ?_
    simp only [impl_marks.j2]
    by_cases c : i1 = i2
    · rw [if_pos c]
      exact Ev.pos c (Ev_eq (h3 acc false ha) (by simp))
    · rw [if_neg c]
      exact Ev.neg c (Ev_eq (h3 acc _ ha) (by simp))
  have h1' : ∀ (acc : List S78) (b : Bool), acc.length ≤ 1999998 → Ev (fun k => impl_marks.j1 k i1 d1 i2 d2 acc b) (acc ++ ((if b = true then [recM 3 i1] else []) ++ ((if i1 = i2 then [] else if i2 ≥ 0 then [recM 2 i2] else []) ++ tailL d1 d2))) := by
    intro acc b ha
    refine Ev.succ ?_
    simp only [impl_marks.j1]
    by_cases c : b = true
    · rw [if_pos c]
      exact Ev.pos c (Ev.pos (by omega) (Ev_eq (h2' _ (by simp; omega)) (by simp [recM])))
    · rw [if_neg c]
      exact Ev.neg c (Ev_eq (h2' _ (by omega)) (by simp))
  have key0 : ∀ (n : Nat) (acc : List S78), n ≤ d1.length → acc.length + n ≤ 1048576 → Ev (fun k => impl_marks.l0 k i1 d1 i2 d2 acc ((n : Int) - 1)) (acc ++ headL (d1.take n) d2 ++ (midL i1 i2 ++ tailL d1 d2)) := by
    intro n
    induction n with
    | zero =>
      intro acc hn ha
      refine Ev.succ ?_
      simp only [impl_marks.l0]
      refine Ev.neg (by omega) ?_
      have e0 : headL (d1.take 0) d2 = [] := by simp [headL]
      rw [e0, List.append_nil]
      unfold midL
      by_cases c : i1 = i2
      · exact Ev.pos c (Ev_eq (h1' acc false (by omega)) (by simp [c]))
      · exact Ev.neg c (Ev_eq (h1' acc _ (by omega)) (by simp [c]))
    | succ n ih =>
      intro acc hn ha
      refine Ev.succ ?_
      simp only [impl_marks.l0]
      have e := rd_nat d1 n (by omega)
      have ex : (((n + 1 : Nat) : Int) - 1) = (n : Int) := by omega
      have ey : headL (d1.take (n + 1)) d2 = (if (!inB d2 (rd d1 (n : Int))) = true then [recM 5 (rd d1 (n : Int))] else []) ++ headL (d1.take n) d2 := by
        unfold headL
        rw [List.take_succ_eq_append_getElem (show n < d1.length by omega), List.reverse_append, ← e, List.reverse_singleton, List.singleton_append, List.filter_cons]
        split <;> simp
      rw [ex, ey, show wrap64 ((n : Int) - 1) = (n : Int) - 1 from w64 (by omega) (by omega)]
      refine Ev.pos (by omega) (Ev.pos (by omega) (Ev.pos (by omega) (Ev.bnd (slices_Contains_ev d2 _ h2) ?_)))
      by_cases c : inB d2 (rd d1 (n : Int)) = true
      · rw [if_neg (by simp [c]), List.nil_append]
        exact Ev.pos c (ih acc (by omega) (by omega))
      · rw [if_pos (by simp [c])]
        refine Ev.neg c (Ev.pos (by omega) ?_)
        exact Ev_eq (ih _ (by omega) (by simp; omega)) (by simp [recM])
  simp only [impl_marks.f]
  rw [w64 (by omega) (by omega)]
  exact Ev_eq (key0 d1.length [] (by omega) (by simp; omega)) (by simp [marksL])
theorem marksL_length (i1 : Int) (d1 : List Int) (i2 : Int) (d2 : List Int) : (marksL i1 d1 i2 d2).length ≤ d1.length + 2 + d2.length := by
  have a := List.length_filter_le (fun d => !inB d2 d) d1.reverse
  have b := List.length_filter_le (fun d => !inB d1 d) d2
  rw [List.length_reverse] at a
  have c : (midL i1 i2).length ≤ 2 := by
    unfold midL
    split
    · simp
    · split <;> split <;> simp
  simp only [marksL, headL, tailL, List.length_append, List.length_map]
  omega
def recsL (i1 : Int) (d1 : List Int) : List S123 → List S78
  | [] => marksL i1 d1 (-1) []
  | b :: bs => marksL i1 d1 b.f1 b.f3 ++ (⟨1, 0, b.f0⟩ :: recsL b.f1 b.f3 bs)
theorem spec_l07Records_ev (ps : List (List Int)) (bs : List S123) (hf : Fine ps bs) : Ev (fun k => spec_l07Records.f k ps bs) (recsL (-1) [] bs) := by
  have hb := hf.2.2.1
  have key : ∀ (n i : Nat) (acc : List S78) (s : ByteArray) (i1 o1 : Int) (d1 : List Int), i + n = bs.length → acc.length ≤ 2097155 * i → d1.length ≤ 1048576 → Ev (fun k => spec_l07Records.l0 k acc (i : Int) ps bs s i1 o1 d1) (acc ++ recsL i1 d1 (bs.drop i)) := by
    intro n
    induction n with
    | zero =>
      intro i acc s i1 o1 d1 hi ha hd
      have hm := marksL_length i1 d1 (-1) []
      refine Ev.succ ?_
      simp only [spec_l07Records.l0]
      rw [drop_end bs i (by omega)]
      simp only [List.length_nil] at hm
      exact Ev.neg (by omega) (Ev.bnd (spec_l07Marks_ev s i1 o1 d1 _ (-1) 0 [] hd (by simp)) (Ev.pos (by omega) (Ev.now _)))
    | succ n ih =>
      intro i acc s i1 o1 d1 hi ha hd
      have hx := (hf.2.2.2 _ (List.getElem_mem (show i < bs.length by omega))).2
      have hm := marksL_length i1 d1 (bs[i]'(by omega)).f1 (bs[i]'(by omega)).f3
      refine Ev.succ ?_
      simp only [spec_l07Records.l0]
      rw [rdW_nat bs i (by omega), up1 i (by omega), List.drop_eq_getElem_cons (show i < bs.length by omega)]
      refine Ev.pos (by omega) (Ev.pos (by omega) (Ev.bnd (spec_l07Marks_ev s i1 o1 d1 _ _ _ _ hd hx) (Ev.pos (by omega) (Ev.bnd0 rfl (Ev.pos (by rw [List.length_append]; omega) ?_)))))
      exact Ev_eq (ih (i + 1) _ _ _ _ _ (by omega) (by simp only [List.length_append, List.length_cons, List.length_nil]; omega) hx) (by simp [recsL])
  simp only [spec_l07Records.f]
  exact Ev_eq (key bs.length 0 [] _ (-1) 0 [] (by omega) (by simp) (by simp)) (by simp)
theorem impl_records_ev (ps : List (List Int)) (bs : List S123) (hf : Fine ps bs) : Ev (fun k => impl_records.f k ps bs) (recsL (-1) [] bs) := by
  have hb := hf.2.2.1
  have key : ∀ (n i : Nat) (acc : List S78) (i1 : Int) (d1 : List Int), i + n = bs.length → acc.length ≤ 2097155 * i → d1.length ≤ 1048576 → Ev (fun k => impl_records.l0 k acc i1 d1 bs (bs.length : Int) (i : Int)) (acc ++ recsL i1 d1 (bs.drop i)) := by
    intro n
    induction n with
    | zero =>
      intro i acc i1 d1 hi ha hd
      have hm := marksL_length i1 d1 (-1) []
      refine Ev.succ ?_
      simp only [impl_records.l0]
      rw [drop_end bs i (by omega)]
      simp only [List.length_nil] at hm
      exact Ev.neg (by omega) (Ev.bnd (impl_marks_ev i1 d1 (-1) [] hd (by simp)) (Ev.pos (by omega) (Ev.now _)))
    | succ n ih =>
      intro i acc i1 d1 hi ha hd
      have hx := (hf.2.2.2 _ (List.getElem_mem (show i < bs.length by omega))).2
      have hm := marksL_length i1 d1 (bs[i]'(by omega)).f1 (bs[i]'(by omega)).f3
      refine Ev.succ ?_
      simp only [impl_records.l0]
      rw [rdW_nat bs i (by omega), up1 i (by omega), List.drop_eq_getElem_cons (show i < bs.length by omega)]
      refine Ev.pos (by omega) (Ev.pos (by omega) (Ev.pos (by omega) (Ev.bnd (impl_marks_ev i1 d1 _ _ hd hx) (Ev.pos (by omega) (Ev.bnd0 rfl (Ev.pos (by rw [List.length_append]; omega) ?_))))))
      exact Ev_eq (ih (i + 1) _ _ _ (by omega) (by simp only [List.length_append, List.length_cons, List.length_nil]; omega) hx) (by simp [recsL])
  simp only [impl_records.f]
  exact Ev_eq (key bs.length 0 [] (-1) [] (by omega) (by simp) (by simp)) (by simp)
open Classical in
noncomputable def recordsR (ps : List (List Int)) (bs : List S123) : List S78 × Bool := if weaveOk ps bs = true then (if ((recsL (-1) [] bs).length : Int) > 4000 then ([], false) else (recsL (-1) [] bs, true)) else ([], false)
theorem recordsR_length (ps : List (List Int)) (bs : List S123) : (recordsR ps bs).1.length ≤ 4000 := by
  unfold recordsR
  split
  · split
    · simp
    · simp only
      omega
  · simp
theorem spec_Records_ev (ps : List (List Int)) (bs : List S123) (hf : Fine ps bs) : Ev (fun k => spec_Records.f k ps bs) (recordsR ps bs) := by
  simp only [spec_Records.f]
  unfold recordsR
  refine Ev.bnd (spec_WeaveOk_ev ps bs hf) ?_
  by_cases c : weaveOk ps bs = true
  · rw [if_pos c]
    refine Ev.pos c (Ev.bnd (spec_l07Records_ev ps bs hf) ?_)
    by_cases d : ((recsL (-1) [] bs).length : Int) > 4000
    · rw [if_pos d, if_pos d]; exact Ev.now _
    · rw [if_neg d, if_neg d]; exact Ev.now _
  · rw [if_neg c]
    exact Ev.neg c (Ev.now _)
theorem impl_Records_ev (ps : List (List Int)) (bs : List S123) (hf : Fine ps bs) : Ev (fun k => impl_Records.f k ps bs) (recordsR ps bs) := by
  simp only [impl_Records.f]
  unfold recordsR
  refine Ev.bnd (impl_WeaveOk_ev ps bs hf) ?_
  by_cases c : weaveOk ps bs = true
  · rw [if_pos c]
    refine Ev.pos c (Ev.bnd (impl_records_ev ps bs hf) ?_)
    by_cases d : ((recsL (-1) [] bs).length : Int) > 4000
    · rw [if_pos d, if_pos d]; exact Ev.now _
    · rw [if_neg d, if_neg d]; exact Ev.now _
  · rw [if_neg c]
    exact Ev.neg c (Ev.now _)
theorem placesL_mem (p : Nat → Bool) : ∀ (bs : List S123) (i : Nat) (x : Int), x ∈ placesL p bs i → (i : Int) ≤ x ∧ x < (i : Int) + bs.length
  | [], i, x, h => by simp [placesL] at h
  | b :: bs, i, x, h => by
    simp only [placesL, List.mem_append] at h
    rcases h with h | h
    · split at h
      · simp at h
        subst h
        simp only [List.length_cons]
        omega
      · simp at h
    · have := placesL_mem p bs (i + 1) x h
      simp only [List.length_cons]
      omega
theorem placesL_in (p : Nat → Bool) (bs : List S123) (j : Nat) (hj : j < (placesL p bs 0).length) : ∃ m : Nat, rd (placesL p bs 0) (j : Int) = (m : Int) ∧ (placesL p bs 0)[j] = (m : Int) ∧ m < bs.length := by
  have h := placesL_mem p bs 0 _ (List.getElem_mem hj)
  obtain ⟨m, hm⟩ := Int.eq_ofNat_of_zero_le (show 0 ≤ (placesL p bs 0)[j] by omega)
  refine ⟨m, ?_, hm, by omega⟩
  rw [← hm]
  simp [rd, List.getD, List.getElem?_eq_getElem hj]
def linesL (bs : List S123) (L : List Int) : List ByteArray := L.map fun x => (rd_T123 bs x).f0
theorem spec_l06Lines_ev (ps : List (List Int)) (bs : List S123) (L : List Int) (hl : L.length ≤ 1048576) (hL : ∀ j, ∀ h : j < L.length, ∃ m : Nat, rd L (j : Int) = (m : Int) ∧ L[j] = (m : Int) ∧ m < bs.length) : Ev (fun k => spec_l06Lines.f k ps bs L) (linesL bs L) := by
  have key : ∀ (n i : Nat) (acc : List ByteArray), i + n = L.length → acc.length ≤ i → Ev (fun k => spec_l06Lines.l0 k L acc (i : Int) ps bs) (acc ++ linesL bs (L.drop i)) := by
    intro n
    induction n with
    | zero =>
      intro i acc hi ha
      refine Ev.succ ?_
      simp only [spec_l06Lines.l0]
      rw [drop_end L i (by omega)]
      exact Ev.neg (by omega) (Ev.some_ (by simp [linesL]))
    | succ n ih =>
      intro i acc hi ha
      obtain ⟨m, h1, h2, h4⟩ := hL i (by omega)
      refine Ev.succ ?_
      simp only [spec_l06Lines.l0]
      rw [h1, up1 i (by omega), List.drop_eq_getElem_cons (show i < L.length by omega), h2]
      refine Ev.pos (by omega) (Ev.pos (by omega) (Ev.pos (by omega) (Ev.pos (by omega) (Ev.pos (by omega) ?_))))
      exact Ev_eq (ih (i + 1) _ (by omega) (by simp; omega)) (by simp [linesL])
  simp only [spec_l06Lines.f]
  exact Ev_eq (key L.length 0 [] (by omega) (by simp)) (by simp)
theorem impl_linesAt_ev (ps : List (List Int)) (bs : List S123) (L : List Int) (hl : L.length ≤ 1048576) (hL : ∀ j, ∀ h : j < L.length, ∃ m : Nat, rd L (j : Int) = (m : Int) ∧ L[j] = (m : Int) ∧ m < bs.length) : Ev (fun k => impl_Weave_linesAt.f k ps bs L) (linesL bs L) := by
  have key : ∀ (n i : Nat) (acc : List ByteArray), i + n = L.length → acc.length ≤ i → Ev (fun k => impl_Weave_linesAt.l0 k acc L (L.length : Int) (i : Int) ps bs) (acc ++ linesL bs (L.drop i)) := by
    intro n
    induction n with
    | zero =>
      intro i acc hi ha
      refine Ev.succ ?_
      simp only [impl_Weave_linesAt.l0]
      rw [drop_end L i (by omega)]
      exact Ev.neg (by omega) (Ev.some_ (by simp [linesL]))
    | succ n ih =>
      intro i acc hi ha
      obtain ⟨m, h1, h2, h4⟩ := hL i (by omega)
      refine Ev.succ ?_
      simp only [impl_Weave_linesAt.l0]
      rw [h1, up1 i (by omega), List.drop_eq_getElem_cons (show i < L.length by omega), h2]
      refine Ev.pos (by omega) (Ev.pos (by omega) (Ev.pos (by omega) (Ev.pos (by omega) (Ev.pos (by omega) (Ev.pos (by omega) ?_)))))
      exact Ev_eq (ih (i + 1) _ (by omega) (by simp; omega)) (by simp [linesL])
  simp only [impl_Weave_linesAt.f]
  exact Ev_eq (key L.length 0 [] (by omega) (by simp)) (by simp)
theorem go_lines (ps : List (List Int)) (all : List S123) : ∀ (l : List S123) (born : List Int), bodiesGo ps all l born = true → (∀ b ∈ l, lineOk b.f0 = true) ∧ ∃ born', endOk ps all born' ps.length 0 = true
  | [], born, h => ⟨fun b hb => by simp at hb, born, by simpa [bodiesGo] using h⟩
  | c :: l, born, h => by
    rw [bodiesGo, Bool.and_eq_true] at h
    obtain ⟨h2, h3⟩ := go_lines ps all l _ h.2
    refine ⟨fun b hb => ?_, h3⟩
    rcases List.mem_cons.1 hb with rfl | hb
    · have h1 := h.1
      simp only [bodyOk, Bool.and_eq_true, decide_eq_true_eq] at h1
      exact h1.1.1.1.1
    · exact h2 b hb
theorem endOk_live {ps : List (List Int)} {bs : List S123} {born : List Int} : ∀ (n v : Nat), endOk ps bs born n v = true → ∀ u, v ≤ u → u < v + n → (placesL (pS ps [(u : Int)]) bs 0).length ≤ 80
  | 0, v, _, u, h1, h2 => by omega
  | n + 1, v, h, u, h1, h2 => by
    rw [endOk, Bool.and_eq_true, Bool.and_eq_true, decide_eq_true_eq, decide_eq_true_eq] at h
    by_cases e : u = v
    · subst e
      exact h.1.2
    · exact endOk_live n (v + 1) h.2 u (by omega) (by omega)
theorem weaveOk_lines {ps : List (List Int)} {bs : List S123} (h : weaveOk ps bs = true) {a : Int} (ha : isV ps a = true) : linesOk 80 (linesL bs (placesL (pS ps [a]) bs 0)) = true := by
  simp only [weaveOk, Bool.and_eq_true, decide_eq_true_eq] at h
  obtain ⟨h1, born, h2⟩ := go_lines ps bs bs _ h.2
  obtain ⟨u, rfl, hu⟩ := isV_nat ha
  have h3 := endOk_live ps.length 0 h2 u (by omega) (by omega)
  simp only [linesOk, Bool.and_eq_true, decide_eq_true_eq, allOk, List.all_eq_true]
  refine ⟨by simp only [linesL, List.length_map]; omega, fun s hs => ?_⟩
  simp only [linesL, List.mem_map] at hs
  obtain ⟨x, hx, rfl⟩ := hs
  obtain ⟨m0, m1⟩ := placesL_mem _ bs 0 x hx
  obtain ⟨m, rfl⟩ := Int.eq_ofNat_of_zero_le (show 0 ≤ x by omega)
  rw [rdW_nat bs m (by omega)]
  exact h1 _ (List.getElem_mem _)
theorem spec_l03All_ev (l : List ByteArray) (m : Int) (hl : Sized l) : Ev (fun k => spec_l03All.f k l m) (linesOk m l) := by
  simp only [spec_l03All.f]
  by_cases h : (l.length : Int) > m
  · refine Ev.pos h (Ev.some_ ?_)
    simp only [linesOk]
    rw [show decide ((l.length : Int) ≤ m) = false from by simp; omega]
    rfl
  refine Ev.neg h ?_
  have key : ∀ (n i : Nat), i + n = l.length → Ev (fun k => spec_l03All.l0 k l (i : Int)) (allOk (l.drop i)) := by
    intro n
    induction n with
    | zero =>
      intro i hi
      refine Ev.succ ?_
      simp only [spec_l03All.l0]
      refine Ev.neg (by omega) (Ev.some_ ?_)
      rw [drop_end l i (by omega)]
      rfl
    | succ n ih =>
      intro i hi
      refine Ev.succ ?_
      simp only [spec_l03All.l0]
      have hlt := hl.1
      refine Ev.pos (by omega) (Ev.pos (by omega) (Ev.bnd (spec_LineOk_ev _ (hl.2 _ (rdOf_mem _ l i (by omega)))) ?_))
      rw [up1 i (by omega), drop_rdOf ByteArray.empty l i (by omega)]
      by_cases hx : lineOk (rdOf ByteArray.empty l (i : Int)) = true
      · refine Ev.pos hx (Ev_eq (ih (i + 1) (by omega)) ?_)
        simp only [allOk, List.all_cons, hx, Bool.true_and]
      · refine Ev.neg hx (Ev.some_ ?_)
        simp only [allOk, List.all_cons, Bool.not_eq_true _ ▸ hx]
        simp
  refine Ev_eq (key l.length 0 (by omega)) ?_
  simp only [linesOk, List.drop_zero]
  rw [show decide ((l.length : Int) ≤ m) = true from by simp; omega]
  rfl
theorem spec_LinesOk_ev (l : List ByteArray) (hl : Sized l) : Ev (fun k => spec_LinesOk.f k l) (linesOk 80 l) := by
  simp only [spec_LinesOk.f]
  exact Ev.bnd (spec_l03All_ev l 80 hl) (Ev.now _)
/-! lines joined, on both sides -/
def joinL (l : List ByteArray) : ByteArray := ⟨(impl_joinLines.cat l).toArray⟩
theorem joinL_spec (l : List ByteArray) : strOfNums (spec_JoinLines.cat l) = joinL l := by
  unfold strOfNums joinL spec_JoinLines.cat impl_joinLines.cat
  congr 2
  rw [List.map_flatMap]
  congr 1
  funext s
  rw [List.map_append, spec_JoinLines.nums, List.map_map]
  congr 1
  conv => rhs; rw [← List.map_id s.data.toList]
  apply List.map_congr_left
  intro b _
  simp
theorem joinL_tot : ∀ (l : List ByteArray), (∀ s ∈ l, s.size ≤ 60) → impl_joinLines.tot l ≤ 61 * l.length
  | [], _ => by simp [impl_joinLines.tot]
  | s :: l, h => by
    have h1 := joinL_tot l (fun x hx => h x (List.mem_cons_of_mem _ hx))
    have h2 := h s (by simp)
    unfold impl_joinLines.tot at h1 ⊢
    simp only [List.map_cons, List.sum_cons, List.length_cons]
    omega
theorem joinL_cat (l : List ByteArray) : (spec_JoinLines.cat l).length = impl_joinLines.tot l := by
  unfold spec_JoinLines.cat impl_joinLines.tot
  induction l with
  | nil => rfl
  | cons s l ih =>
    simp only [List.flatMap_cons, List.length_append, List.map_cons, List.sum_cons, ih, spec_JoinLines.nums_length, List.length_cons, List.length_nil]
theorem linesOk_small {m : Int} {l : List ByteArray} (h : linesOk m l = true) : (l.length : Int) ≤ m ∧ ∀ s ∈ l, s.size ≤ 60 := by
  simp only [linesOk, Bool.and_eq_true, decide_eq_true_eq] at h
  refine ⟨h.1, fun s hs => ?_⟩
  have := h.2
  simp only [allOk, List.all_eq_true] at this
  have h2 := this s hs
  simp only [lineOk, decide_eq_true_eq] at h2
  exact h2.2
theorem impl_joinLines_eq {l : List ByteArray} (h : linesOk 80 l = true) : impl_joinLines.f l = some (joinL l) := by
  obtain ⟨h1, h2⟩ := linesOk_small h
  have h3 := joinL_tot l h2
  unfold impl_joinLines.f
  rw [if_pos (by omega)]
  rfl
theorem spec_JoinLines_ok {l : List ByteArray} (h : linesOk 80 l = true) : Ev (fun k => spec_JoinLines.f k l) (joinL l, true) := by
  simp only [spec_JoinLines.f]
  obtain ⟨h1, h2⟩ := linesOk_small h
  have h3 := joinL_tot l h2
  refine Ev.bnd (spec_LinesOk_ev l ⟨by omega, fun x hx => by have := h2 x hx; omega⟩) (Ev.pos h (Ev.pos (by rw [joinL_cat]; omega) (Ev.some_ ?_)))
  rw [joinL_spec]
/-! spec.SumMore -/
theorem spec_SumMore_l1 (s : ByteArray) (i r : Int) : ∀ (n : Nat) (x c : Int), c = 8 - (n : Int) → n ≤ 8 → In32 x → Ev (fun k => spec_SumMore.l0 k (cbits n x) s (wrap64 (i + 1))) r → Ev (fun k => spec_SumMore.l1 k x s i c) r := by
  intro n
  induction n with
  | zero =>
    intro x c hc _ _ h
    refine Ev.succ ?_
    simp only [spec_SumMore.l1]
    exact Ev.neg (by omega) h
  | succ n ih =>
    intro x c hc hn hx h
    obtain ⟨h0, h1⟩ := hx
    refine Ev.succ ?_
    simp only [spec_SumMore.l1]
    refine Ev.pos (by omega) ?_
    have e0 : (Int.tmod x 2) = x % 2 := by exact Int.tmod_eq_emod_of_nonneg h0
    have e1 : wrap64 (c + 1) = c + 1 := w64 (by omega) (by omega)
    have e2 : (Int.tdiv x 2) % 4294967296 = x / 2 := by rw [Int.tdiv_eq_ediv_of_nonneg h0]; omega
    rw [e0, e1, e2]
    have hb := cbit_in ⟨h0, h1⟩
    by_cases ho : x % 2 = 1
    · refine Ev.pos ho (ih _ _ (by omega) (by omega) (xor32_in _ _) ?_)
      have : cbit x = Go.bits .xor .u32 (x / 2) 3558460437 := by simp [cbit, ho]
      rw [← this]; exact h
    · refine Ev.neg ho (ih _ _ (by omega) (by omega) ?_ ?_)
      · unfold In32; omega
      · have : cbit x = x / 2 := by simp [cbit, ho]
        rw [← this]; exact h
theorem spec_SumMore_l0 (s : ByteArray) (hs : s.size ≤ 140737488351232) : ∀ (n : Nat) (x : Int) (i : Nat), i + n = s.size → In32 x → Ev (fun k => spec_SumMore.l0 k x s (i : Int)) (crcL x ((bytesOf s).drop i)) := by
  intro n
  induction n with
  | zero =>
    intro x i hi _
    refine Ev.succ ?_
    simp only [spec_SumMore.l0]
    have e : i = s.size := by omega
    subst e
    exact Ev.neg (by omega) (Ev.some_ (by rw [drop_all]; rfl))
  | succ n ih =>
    intro x i hi _
    refine Ev.succ ?_
    simp only [spec_SumMore.l0]
    have hb := bt_range s (i : Int)
    have e : (bt s (i : Int)) % 4294967296 = bt s (i : Int) := by omega
    refine Ev.pos (by omega) (Ev.pos (by omega) ?_)
    rw [e]
    refine spec_SumMore_l1 s i _ 8 _ 0 (by omega) (by omega) (xor32_in _ _) ?_
    rw [w64 (by omega) (by omega)]
    have := ih (cbyte x (bt s (i : Int))) (i + 1) (by omega) (cbyte_in _ _)
    rw [drop_bt s i (by omega)]
    exact this
theorem spec_SumMore_ev (x : Int) (s : ByteArray) (hx : In32 x) (hs : s.size ≤ 140737488351232) : Ev (fun k => spec_SumMore.f k x s) (crc x s) := by
  simp only [spec_SumMore.f]
  exact spec_SumMore_l0 s hs s.size x 0 (by omega) hx

/-! impl.SumMore -/
theorem impl_SumMore_l1 (s : ByteArray) (i r : Int) : ∀ (n : Nat) (x c : Int), c = 8 - (n : Int) → n ≤ 8 → In32 x → Ev (fun k => impl_SumMore.l0 k (cbits n x) s (wrap64 (i + 1))) r → Ev (fun k => impl_SumMore.l1 k x s i c) r := by
  intro n
  induction n with
  | zero =>
    intro x c hc _ _ h
    refine Ev.succ ?_
    simp only [impl_SumMore.l1]
    exact Ev.neg (by omega) h
  | succ n ih =>
    intro x c hc hn hx h
    obtain ⟨h0, h1⟩ := hx
    refine Ev.succ ?_
    simp only [impl_SumMore.l1]
    refine Ev.pos (by omega) ?_
    have e0 : (Go.bits .and .u32 x 1) = x % 2 := by exact and32_1 x h0 h1
    have e1 : wrap64 (c + 1) = c + 1 := w64 (by omega) (by omega)
    skip
    rw [e0, e1]
    have hb := cbit_in ⟨h0, h1⟩
    by_cases ho : x % 2 = 1
    · refine Ev.pos ho (ih _ _ (by omega) (by omega) (xor32_in _ _) ?_)
      have : cbit x = Go.bits .xor .u32 (x / 2) 3558460437 := by simp [cbit, ho]
      rw [← this]; exact h
    · refine Ev.neg ho (ih _ _ (by omega) (by omega) ?_ ?_)
      · unfold In32; omega
      · have : cbit x = x / 2 := by simp [cbit, ho]
        rw [← this]; exact h
theorem impl_SumMore_l0 (s : ByteArray) (hs : s.size ≤ 140737488351232) : ∀ (n : Nat) (x : Int) (i : Nat), i + n = s.size → In32 x → Ev (fun k => impl_SumMore.l0 k x s (i : Int)) (crcL x ((bytesOf s).drop i)) := by
  intro n
  induction n with
  | zero =>
    intro x i hi _
    refine Ev.succ ?_
    simp only [impl_SumMore.l0]
    have e : i = s.size := by omega
    subst e
    exact Ev.neg (by omega) (Ev.some_ (by rw [drop_all]; rfl))
  | succ n ih =>
    intro x i hi _
    refine Ev.succ ?_
    simp only [impl_SumMore.l0]
    have hb := bt_range s (i : Int)
    have e : (bt s (i : Int)) % 4294967296 = bt s (i : Int) := by omega
    refine Ev.pos (by omega) (Ev.pos (by omega) ?_)
    rw [e]
    refine impl_SumMore_l1 s i _ 8 _ 0 (by omega) (by omega) (xor32_in _ _) ?_
    rw [w64 (by omega) (by omega)]
    have := ih (cbyte x (bt s (i : Int))) (i + 1) (by omega) (cbyte_in _ _)
    rw [drop_bt s i (by omega)]
    exact this
theorem impl_SumMore_ev (x : Int) (s : ByteArray) (hx : In32 x) (hs : s.size ≤ 140737488351232) : Ev (fun k => impl_SumMore.f k x s) (crc x s) := by
  simp only [impl_SumMore.f]
  exact impl_SumMore_l0 s hs s.size x 0 (by omega) hx
theorem spec_SumOf_ev (s : ByteArray) (hs : s.size ≤ 140737488351232) : Ev (fun k => spec_SumOf.f k s) (crc 4294967295 s) := by
  simp only [spec_SumOf.f]
  exact Ev.bnd (spec_SumMore_ev 4294967295 s (by unfold In32; omega) hs) (Ev.now _)
theorem impl_SumOf_ev (s : ByteArray) (hs : s.size ≤ 140737488351232) : Ev (fun k => impl_SumOf.f k s) (crc 4294967295 s) := by
  simp only [impl_SumOf.f]
  exact Ev.bnd (impl_SumMore_ev 4294967295 s (by unfold In32; omega) hs) (Ev.now _)
/-! spec.l01Var -/
theorem spec_l01Var_l0 : ∀ (f : Nat) (n : Int) (x : List Int), Fits f n → n ≤ 9223372036854775807 → x.length + f < 1000 → Ev (fun k => spec_l01Var.l0 k n x) (strOfNums (x ++ varF f n)) := by
  intro f
  induction f with
  | zero =>
    intro n x hf hn hx
    simp only [Fits] at hf
    refine Ev.succ ?_
    simp only [spec_l01Var.l0]
    exact Ev.neg (by omega) (Ev.pos (by omega) (Ev.some_ (by simp [varF])))
  | succ f ih =>
    intro n x hf hn hx
    simp only [Fits] at hf
    refine Ev.succ ?_
    simp only [spec_l01Var.l0]
    by_cases h : n > 127
    · refine Ev.pos h (Ev.pos (by omega) ?_)
      have e1 : wrap64 (Int.tdiv n 128) = n / 128 := by rw [Int.tdiv_eq_ediv_of_nonneg (by omega)]; exact w64 (by omega) (by omega)
      have e2 : (wrap64 ((Int.tmod n 128) + 128)) % 256 = n % 128 + 128 := by rw [Int.tmod_eq_emod_of_nonneg (by omega), w64 (by omega) (by omega)]; omega
      rw [e1, e2]
      refine Ev_eq (ih (n / 128) _ hf (by omega) (by simp; omega)) ?_
      simp [varF, h]
    · exact Ev.neg h (Ev.pos (by omega) (Ev.some_ (by simp [varF, h])))
theorem spec_l01Var_ev (n : Int) (hn : n ≤ 9223372036854775807) : Ev (fun k => spec_l01Var.f k n) (varB n) := by
  simp only [spec_l01Var.f]
  exact Ev_eq (spec_l01Var_l0 9 n [] (fits9 hn) hn (by simp)) (by simp [varB, varL])
/-! impl.varText -/
theorem impl_varText_l0 : ∀ (f : Nat) (n : Int) (x : List Int), Fits f n → n ≤ 9223372036854775807 → x.length + f < 1000 → Ev (fun k => impl_varText.l0 k n x) (strOfNums (x ++ varF f n)) := by
  intro f
  induction f with
  | zero =>
    intro n x hf hn hx
    simp only [Fits] at hf
    refine Ev.succ ?_
    simp only [impl_varText.l0]
    exact Ev.neg (by omega) (Ev.pos (by omega) (Ev.some_ (by simp [varF])))
  | succ f ih =>
    intro n x hf hn hx
    simp only [Fits] at hf
    refine Ev.succ ?_
    simp only [impl_varText.l0]
    by_cases h : n > 127
    · refine Ev.pos h (Ev.pos (by omega) ?_)
      have e1 : wrap64 (Int.tdiv n 128) = n / 128 := by rw [Int.tdiv_eq_ediv_of_nonneg (by omega)]; exact w64 (by omega) (by omega)
      have e2 : (wrap64 (128 + (Int.tmod n 128))) % 256 = n % 128 + 128 := by rw [Int.tmod_eq_emod_of_nonneg (by omega), w64 (by omega) (by omega)]; omega
      rw [e1, e2]
      refine Ev_eq (ih (n / 128) _ hf (by omega) (by simp; omega)) ?_
      simp [varF, h]
    · exact Ev.neg h (Ev.pos (by omega) (Ev.some_ (by simp [varF, h])))
theorem impl_varText_ev (n : Int) (hn : n ≤ 9223372036854775807) : Ev (fun k => impl_varText.f k n) (varB n) := by
  simp only [impl_varText.f]
  exact Ev_eq (impl_varText_l0 9 n [] (fits9 hn) hn (by simp)) (by simp [varB, varL])
def shortText (s : ByteArray) : ByteArray × Bool := if (s.size : Int) > 60000 then ((⟨#[]⟩ : ByteArray), false) else (varB s.size ++ s, true)
theorem spec_ShortText_ev (s : ByteArray) : Ev (fun k => spec_ShortText.f k s) (shortText s) := by
  simp only [spec_ShortText.f]
  by_cases h : (s.size : Int) > 60000
  · exact Ev.pos h (Ev.some_ (by rw [shortText, if_pos h]))
  · have := varB_size s.size
    exact Ev.neg h (Ev.bnd (spec_l01Var_ev _ (by omega)) (Ev.pos (by omega) (Ev.some_ (by rw [shortText, if_neg h]))))
def fourB (x : Int) : ByteArray := strOfNums [(x / 16777216) % 256, (x / 65536) % 256, (x / 256) % 256, x % 256]
theorem fourB_size (x : Int) : (fourB x).size = 4 := by rw [fourB, strOfNums_size]; rfl
def sumB (s : ByteArray) : ByteArray := fourB (crc 4294967295 s)
theorem impl_sumText_ev (s : ByteArray) (hs : s.size ≤ 140737488351232) : Ev (fun k => impl_sumText.f k s) (sumB s) := by
  simp only [impl_sumText.f]
  exact Ev.bnd (impl_SumOf_ev s hs) (Ev.now _)
def sealed (s : ByteArray) : ByteArray × Bool := if (s.size : Int) > 60000 then ((⟨#[]⟩ : ByteArray), false) else (s ++ sumB s, true)
theorem impl_Sealed_ev (s : ByteArray) : Ev (fun k => impl_Sealed.f k s) (sealed s) := by
  simp only [impl_Sealed.f]
  by_cases h : (s.size : Int) > 60000
  · exact Ev.pos h (Ev.some_ (by rw [sealed, if_pos h]))
  · have := fourB_size (crc 4294967295 s)
    exact Ev.neg h (Ev.bnd (impl_sumText_ev s (by omega)) (Ev.pos (by unfold sumB; omega) (Ev.some_ (by rw [sealed, if_neg h]))))
theorem spec_Sealed_ev (s : ByteArray) : Ev (fun k => spec_Sealed.f k s) (sealed s) := by
  simp only [spec_Sealed.f]
  by_cases h : (s.size : Int) > 60000
  · exact Ev.pos h (Ev.some_ (by rw [sealed, if_pos h]))
  · have := fourB_size (crc 4294967295 s)
    exact Ev.neg h (Ev.bnd (spec_SumOf_ev s (by omega)) (Ev.bnd0 (a := sumB s) rfl (Ev.pos (by unfold sumB; omega) (Ev.some_ (by rw [sealed, if_neg h])))))
/-! a weave in bytes -/
open Go.Proofs.YtmodgiingohphaaW.PrintMore
def catB (b : Nat → ByteArray) : Nat → ByteArray
  | 0 => ⟨#[]⟩
  | i + 1 => catB b i ++ b i
theorem seqO_ev (g : Nat → Nat → Option ByteArray) (b : Nat → ByteArray) : ∀ n, (∀ i, i < n → Ev (fun k => g k i) (b i)) → Ev (fun k => seqO (g k) n) (catB b n)
  | 0, _ => Ev.now _
  | n + 1, h => by
    simp only [seqO, catB]
    exact Ev.bnd (seqO_ev g b n (fun i hi => h i (by omega))) (Ev.bnd (h n (by omega)) (Ev.now _))
theorem catB_size (b : Nat → ByteArray) (c : Nat) : ∀ n, (∀ i, i < n → (b i).size ≤ c) → (catB b n).size ≤ c * n
  | 0, _ => Nat.zero_le _
  | n + 1, h => by
    have h1 := catB_size b c n (fun i hi => h i (by omega))
    have h2 := h n (by omega)
    simp only [catB]
    rw [size_append, Nat.mul_succ]
    omega
def nLe (n : Int) : Prop := n ≤ 9223372036854775807
def listB (l : List Int) : ByteArray := varB (l.length : Int) ++ catB (fun i => varB (rd l (i : Int))) l.length
theorem listB_size (l : List Int) : (listB l).size ≤ 10 + 10 * l.length := by
  have h1 := varB_size (l.length : Int)
  have h2 := catB_size (fun i => varB (rd l (i : Int))) 10 l.length (fun i _ => varB_size _)
  unfold listB
  rw [size_append]
  omega
theorem rd_le {l : List Int} (h : ∀ x ∈ l, nLe x) (i : Nat) (hi : i < l.length) : nLe (rd l (i : Int)) := by
  rw [rd_nat l i hi]
  exact h _ (List.getElem_mem hi)
theorem impl_listText_ev (l : List Int) (hl : l.length ≤ 1048576) (h : ∀ x ∈ l, nLe x) : Ev (fun k => impl_listText.f k l) (listB l) := by
  simp only [impl_listText.f]
  have h1 := varB_size (l.length : Int)
  have h2 := catB_size (fun i => varB (rd l (i : Int))) 10 l.length (fun i _ => varB_size _)
  refine Ev.bnd (impl_varText_ev _ (by omega)) (Ev.bnd (seqO_ev _ (fun i => varB (rd l (i : Int))) l.length (fun i hi => impl_varText_ev _ (rd_le h i hi))) (Ev.pos (by omega) (Ev.some_ rfl)))
noncomputable def textL (ps : List (List Int)) (bs : List S123) (u : Nat) : List ByteArray := linesL bs (placesL (pS ps [(u : Int)]) bs 0)
theorem spec_text_ev (ps : List (List Int)) (bs : List S123) (hf : Fine ps bs) (c : weaveOk ps bs = true) (u : Nat) : Ev (fun k => spec_l06Text.f k ps bs (u : Int)) (textL ps bs u) := by
  have hb := hf.2.2.1
  obtain ⟨hg, h3⟩ := weaveOk_graph c
  have hn := graphOk_len hg
  obtain ⟨x, hx, hxl, hxe⟩ := spec_closure_ev ps bs hg hf h3 u
  have hl := placesL_length (gB x) bs 0
  have ht : Ev (fun k => spec_l06Text.f k ps bs (u : Int)) (linesL bs (placesL (gB x) bs 0)) := by
    simp only [spec_l06Text.f]
    exact Ev.bnd hx (Ev.bnd (spec_l06Places_ev ps bs x hb (fun b hb => (hf.2.2.2 b hb).2) (by omega)) (Ev.bnd (spec_l06Lines_ev ps bs _ (by omega) (placesL_in (gB x) bs)) (Ev.now _)))
  rw [hxe] at ht
  exact ht
theorem impl_text_ev (ps : List (List Int)) (bs : List S123) (hf : Fine ps bs) (c : weaveOk ps bs = true) (u : Nat) (hu : u < ps.length) : Ev (fun k => impl_Weave_extract.f k ps bs (u : Int)) (textL ps bs u) := by
  have hb := hf.2.2.1
  obtain ⟨hg, h3⟩ := weaveOk_graph c
  have hd := graphOk_down hg
  have hn := graphOk_len hg
  obtain ⟨x, hx1, hxl, hw, hc⟩ := impl_closures_ev ps hd (by omega) (rows4 hg)
  have hl := placesL_length (pS ps [(u : Int)]) bs 0
  simp only [impl_Weave_extract.f]
  have hv := impl_liveIn_ev ps bs (wd x u) (wd_lt hw (by omega)) hb (fun b hb => (hf.2.2.2 b hb).2)
  rw [clo_bits ps bs hg hf h3 x hxl hw hc u hu, ← wd_cast hw (show u < x.length by omega)] at hv
  exact Ev.bnd hx1 (Ev.pos (by omega) (Ev.pos (by omega) (Ev.bnd hv (Ev.bnd (impl_linesAt_ev ps bs _ (by omega) (placesL_in (pS ps [(u : Int)]) bs)) (Ev.now _)))))
theorem isV_of {ps : List (List Int)} {u : Nat} (hu : u < ps.length) : isV ps (u : Int) = true := by
  simp only [isV, decide_eq_true_eq]
  omega
theorem text_ok {ps : List (List Int)} {bs : List S123} (c : weaveOk ps bs = true) {u : Nat} (hu : u < ps.length) : linesOk 80 (textL ps bs u) = true := weaveOk_lines c (isV_of hu)
theorem joinL_sizeW {l : List ByteArray} (h : linesOk 80 l = true) : (joinL l).size ≤ 4880 := by
  obtain ⟨h1, h2⟩ := linesOk_small h
  have h3 := joinL_tot l h2
  have e : (joinL l).size = (impl_joinLines.cat l).length := by simp [joinL, ByteArray.size]
  rw [e, impl_joinLines.cat_length]
  omega
theorem spec_l08Sum_ev (ps : List (List Int)) (bs : List S123) (hf : Fine ps bs) (c : weaveOk ps bs = true) (u : Nat) (hu : u < ps.length) : Ev (fun k => spec_l08Sum.f k ps bs (u : Int)) (crc 4294967295 (joinL (textL ps bs u))) := by
  simp only [spec_l08Sum.f]
  have hl := text_ok c hu
  have hj := joinL_sizeW hl
  exact Ev.bnd (spec_text_ev ps bs hf c u) (Ev.bnd (spec_JoinLines_ok hl) (Ev.bnd (spec_SumOf_ev (joinL (textL ps bs u)) (by omega)) (Ev.now _)))
noncomputable def rowB (ps : List (List Int)) (bs : List S123) (u : Nat) : ByteArray := listB (ps.getD u []) ++ sumB (joinL (textL ps bs u))
theorem sumB_size (s : ByteArray) : (sumB s).size = 4 := fourB_size _
theorem rdLW_nat (ps : List (List Int)) (u : Nat) : rd_L1 ps (u : Int) = ps.getD u [] := by
  simp [rd_L1]
theorem getD_fine {ps : List (List Int)} {P : List Int → Prop} (h : ∀ x ∈ ps, P x) (u : Nat) (hu : u < ps.length) : P (ps.getD u []) := by
  rw [List.getD_eq_getElem?_getD, List.getElem?_eq_getElem hu, Option.getD_some]
  exact h _ (List.getElem_mem hu)
theorem impl_gm_ev (ps : List (List Int)) (bs : List S123) (hf : Fine ps bs) (hp : ∀ x ∈ ps, ∀ y ∈ x, nLe y) (c : weaveOk ps bs = true) (u : Nat) (hu : u < ps.length) : Ev (fun k => impl_WeaveText.gm k ps bs u) (rowB ps bs u) := by
  have hl := text_ok c hu
  have hj := joinL_sizeW hl
  have hr := getD_fine hf.2.1 u hu
  have hs := listB_size (ps.getD u [])
  have h4 := sumB_size (joinL (textL ps bs u))
  simp only [impl_WeaveText.gm]
  rw [rdLW_nat]
  exact Ev.bnd (impl_listText_ev _ hr (getD_fine (P := fun x => ∀ y ∈ x, nLe y) hp u hu)) (Ev.bnd (impl_text_ev ps bs hf c u hu) (Ev.bnd0 (impl_joinLines_eq hl) (Ev.bnd (impl_sumText_ev (joinL (textL ps bs u)) (by omega)) (Ev.pos (by omega) (Ev.some_ rfl)))))
theorem spec_gp_ev (ps : List (List Int)) (bs : List S123) (hf : Fine ps bs) (hp : ∀ x ∈ ps, ∀ y ∈ x, nLe y) (c : weaveOk ps bs = true) (u : Nat) (hu : u < ps.length) : Ev (fun k => spec_WeaveText.gp k ps bs u) (rowB ps bs u) := by
  have hl := text_ok c hu
  have hj := joinL_sizeW hl
  have hr := getD_fine hf.2.1 u hu
  have hq := getD_fine (P := fun x => ∀ y ∈ x, nLe y) hp u hu
  have h1 := varB_size ((ps.getD u []).length : Int)
  have h2 := catB_size (fun i => varB (rd (ps.getD u []) (i : Int))) 10 (ps.getD u []).length (fun i _ => varB_size _)
  have h4 := fourB_size (crc 4294967295 (joinL (textL ps bs u)))
  simp only [spec_WeaveText.gp]
  rw [rdLW_nat]
  exact Ev.bnd (spec_l01Var_ev _ (by omega)) (Ev.bnd (seqO_ev _ (fun i => varB (rd (ps.getD u []) (i : Int))) (ps.getD u []).length (fun i hi => spec_l01Var_ev _ (rd_le hq i hi))) (Ev.bnd (spec_l08Sum_ev ps bs hf c u hu) (Ev.bnd0 (a := fourB (crc 4294967295 (joinL (textL ps bs u)))) rfl (Ev.pos (by omega) (Ev.some_ rfl)))))
def recB (x : S78) : ByteArray := strOfNums [x.f0 % 256] ++ (if x.f0 = 1 then varB (x.f2.size : Int) ++ x.f2 else varB x.f1)
def RecOk (x : S78) : Prop := x.f2.size ≤ 60 ∧ nLe x.f1
theorem recB_size (x : S78) (h : RecOk x) : (recB x).size ≤ 100 := by
  have h1 := varB_size (x.f2.size : Int)
  have h2 := varB_size x.f1
  have h3 : (strOfNums [x.f0 % 256]).size = 1 := by rw [strOfNums_size]; rfl
  have h4 := h.1
  unfold recB
  rw [size_append]
  split
  · rw [size_append]; omega
  · omega
theorem impl_shortText_ev (s : ByteArray) (hs : s.size ≤ 60) : Ev (fun k => impl_shortText.f k s) (varB (s.size : Int) ++ s) := by
  simp only [impl_shortText.f]
  have := varB_size (s.size : Int)
  exact Ev.bnd (impl_varText_ev _ (by omega)) (Ev.pos (by omega) (Ev.some_ rfl))
theorem impl_recText_ev (x : S78) (h : RecOk x) : Ev (fun k => impl_recText.f k x.f0 x.f1 x.f2) (recB x) := by
  have h1 := varB_size (x.f2.size : Int)
  have h2 := varB_size x.f1
  have h3 : (strOfNums [x.f0 % 256]).size = 1 := by rw [strOfNums_size]; rfl
  have h4 := h.1
  have hn : x.f1 ≤ 9223372036854775807 := h.2
  simp only [impl_recText.f]
  refine Ev.bnd0 rfl ?_
  unfold recB
  by_cases c : x.f0 = 1
  · rw [if_pos c]
    exact Ev.pos c (Ev.bnd (impl_shortText_ev _ h4) (Ev.pos (by rw [size_append]; omega) (Ev.some_ rfl)))
  · rw [if_neg c]
    exact Ev.neg c (Ev.bnd (impl_varText_ev _ hn) (Ev.pos (by omega) (Ev.some_ rfl)))
theorem rdR_nat (r : List S78) (i : Nat) (h : i < r.length) : rd_T78 r (i : Int) = r[i] := by
  simp [rd_T78, List.getD, List.getElem?_eq_getElem h]
def zR : S78 := ⟨0, 0, ⟨#[]⟩⟩
theorem spec_gt_ev (r : List S78) (h : ∀ x ∈ r, RecOk x) (i : Nat) (hi : i < r.length) : Ev (fun k => spec_WeaveText.gt k r i) (recB (r.getD i zR)) := by
  have e : r.getD i zR = r[i] := by simp [List.getD, List.getElem?_eq_getElem hi]
  have hx := h _ (List.getElem_mem hi)
  rw [e]
  simp only [spec_WeaveText.gt]
  rw [rdR_nat r i hi]
  generalize r[i] = x at hx
  have h1 := varB_size (x.f2.size : Int)
  have h2 := varB_size x.f1
  have h4 := hx.1
  have hn : x.f1 ≤ 9223372036854775807 := hx.2
  unfold recB
  by_cases c : x.f0 = 1
  · rw [if_pos c]
    have hs := spec_ShortText_ev x.f2
    unfold shortText at hs
    rw [if_neg (by omega)] at hs
    exact Ev.pos c (Ev.bnd hs (Ev.pos (by simp only; rw [size_append]; omega) (Ev.some_ rfl)))
  · rw [if_neg c]
    exact Ev.neg c (Ev.bnd (spec_l01Var_ev _ hn) (Ev.pos (by omega) (Ev.some_ rfl)))
theorem impl_gt_ev (r : List S78) (h : ∀ x ∈ r, RecOk x) (i : Nat) (hi : i < r.length) : Ev (fun k => impl_WeaveText.gt k r i) (recB (r.getD i zR)) := by
  have e : r.getD i zR = r[i] := by simp [List.getD, List.getElem?_eq_getElem hi]
  simp only [impl_WeaveText.gt]
  rw [rdR_nat r i hi, e]
  exact impl_recText_ev _ (h _ (List.getElem_mem hi))
noncomputable def totB (ps : List (List Int)) (bs : List S123) (r : List S78) : ByteArray := ((((⟨#[84, 87, 49]⟩ : ByteArray) ++ varB (ps.length : Int)) ++ catB (rowB ps bs) ps.length) ++ varB (r.length : Int)) ++ catB (fun i => recB (r.getD i zR)) r.length
noncomputable def wtR (ps : List (List Int)) (bs : List S123) : ByteArray × Bool := if (recordsR ps bs).2 = true then sealed (totB ps bs (recordsR ps bs).1) else (⟨#[]⟩, false)
theorem marksL_ok (i1 : Int) (d1 : List Int) (i2 : Int) (d2 : List Int) (h1 : nLe i1) (h2 : ∀ d ∈ d1, nLe d) (h3 : nLe i2) (h4 : ∀ d ∈ d2, nLe d) : ∀ x ∈ marksL i1 d1 i2 d2, RecOk x := by
  have key : ∀ t d, nLe d → RecOk (recM t d) := fun t d h => ⟨by show (0 : Nat) ≤ 60; omega, h⟩
  intro x hx
  unfold marksL headL tailL midL at hx
  rcases List.mem_append.1 hx with hx | hx
  · obtain ⟨d, hd, rfl⟩ := List.mem_map.1 hx
    exact key _ _ (h2 d (List.mem_reverse.1 (List.mem_filter.1 hd).1))
  · rcases List.mem_append.1 hx with hx | hx
    · split at hx
      · simp at hx
      · rcases List.mem_append.1 hx with hx | hx
        · split at hx
          · rw [List.mem_singleton.1 hx]; exact key _ _ h1
          · simp at hx
        · split at hx
          · rw [List.mem_singleton.1 hx]; exact key _ _ h3
          · simp at hx
    · obtain ⟨d, hd, rfl⟩ := List.mem_map.1 hx
      exact key _ _ (h4 d (List.mem_filter.1 hd).1)
theorem recsL_ok : ∀ (bs : List S123) (i1 : Int) (d1 : List Int), nLe i1 → (∀ d ∈ d1, nLe d) → (∀ b ∈ bs, b.f0.size ≤ 60 ∧ nLe b.f1 ∧ ∀ d ∈ b.f3, nLe d) → ∀ x ∈ recsL i1 d1 bs, RecOk x
  | [], i1, d1, h1, h2, _ => by
    unfold recsL
    exact marksL_ok i1 d1 (-1) [] h1 h2 (by unfold nLe; omega) (by simp)
  | b :: bs, i1, d1, h1, h2, h3 => by
    have hb := h3 b (by simp)
    have ih := recsL_ok bs b.f1 b.f3 hb.2.1 hb.2.2 (fun c hc => h3 c (by simp [hc]))
    intro x hx
    unfold recsL at hx
    rcases List.mem_append.1 hx with hx | hx
    · exact marksL_ok i1 d1 b.f1 b.f3 h1 h2 hb.2.1 hb.2.2 x hx
    · rcases List.mem_cons.1 hx with rfl | hx
      · exact ⟨hb.1, by show (0 : Int) ≤ _; omega⟩
      · exact ih x hx
def SmallW (ps : List (List Int)) (bs : List S123) : Prop := (∀ x ∈ ps, ∀ y ∈ x, nLe y) ∧ ∀ b ∈ bs, nLe b.f1 ∧ ∀ d ∈ b.f3, nLe d
theorem weave_facts {ps : List (List Int)} {bs : List S123} (hs : SmallW ps bs) (h : (recordsR ps bs).2 = true) : weaveOk ps bs = true ∧ ∀ x ∈ (recordsR ps bs).1, RecOk x := by
  unfold recordsR at h ⊢
  by_cases c : weaveOk ps bs = true
  · refine ⟨c, ?_⟩
    rw [if_pos c] at h ⊢
    simp only [weaveOk, Bool.and_eq_true, decide_eq_true_eq] at c
    obtain ⟨h1, _⟩ := go_lines ps bs bs _ c.2
    split at h
    · simp at h
    · rename_i d
      rw [if_neg d]
      exact recsL_ok bs (-1) [] (by unfold nLe; omega) (by simp) (fun b hb => ⟨lineOk_size (h1 b hb), hs.2 b hb⟩)
  · rw [if_neg c] at h
    simp at h
theorem tot_facts {ps : List (List Int)} {bs : List S123} (hf : Fine ps bs) (hs : SmallW ps bs) (h : (recordsR ps bs).2 = true) : 3 + (varB (ps.length : Int)).size + (catB (rowB ps bs) ps.length).size + (varB ((recordsR ps bs).1.length : Int)).size + (catB (fun i => recB ((recordsR ps bs).1.getD i zR)) (recordsR ps bs).1.length).size ≤ 140737488351232 := by
  obtain ⟨c, hr⟩ := weave_facts hs h
  have hg := graphOk_len (weaveOk_graph c).1
  have h1 := varB_size (ps.length : Int)
  have h2 := varB_size ((recordsR ps bs).1.length : Int)
  have h3 := catB_size (rowB ps bs) 10485774 ps.length (fun u hu => by
    have a := listB_size (ps.getD u [])
    have b := getD_fine hf.2.1 u hu
    have d := sumB_size (joinL (textL ps bs u))
    unfold rowB
    rw [size_append]
    omega)
  have h4 := catB_size (fun i => recB ((recordsR ps bs).1.getD i zR)) 100 (recordsR ps bs).1.length (fun i hi => by
    have e : (recordsR ps bs).1.getD i zR = (recordsR ps bs).1[i] := by simp [List.getD, List.getElem?_eq_getElem hi]
    show (recB ((recordsR ps bs).1.getD i zR)).size ≤ 100
    rw [e]
    exact recB_size _ (hr _ (List.getElem_mem hi)))
  have h5 := recordsR_length ps bs
  have h6 : 10485774 * ps.length ≤ 10485774 * 40 := Nat.mul_le_mul_left _ hg
  omega
theorem spec_WeaveText_ev (ps : List (List Int)) (bs : List S123) (hf : Fine ps bs) (hs : SmallW ps bs) : Ev (fun k => spec_WeaveText.f k ps bs) (wtR ps bs) := by
  simp only [spec_WeaveText.f]
  unfold wtR
  refine Ev.bnd (spec_Records_ev ps bs hf) ?_
  by_cases h : (recordsR ps bs).2 = true
  · obtain ⟨c, hr⟩ := weave_facts hs h
    have ht := tot_facts hf hs h
    have hg := graphOk_len (weaveOk_graph c).1
    have h5 := recordsR_length ps bs
    rw [if_pos h]
    exact Ev.pos h (Ev.bnd (spec_l01Var_ev _ (by omega)) (Ev.bnd (seqO_ev _ (rowB ps bs) ps.length (fun u hu => spec_gp_ev ps bs hf hs.1 c u hu)) (Ev.bnd (spec_l01Var_ev _ (by omega)) (Ev.bnd (seqO_ev _ (fun i => recB ((recordsR ps bs).1.getD i zR)) _ (fun i hi => spec_gt_ev _ hr i hi)) (Ev.pos ⟨ht, by omega, by omega⟩ (spec_Sealed_ev _))))))
  · rw [if_neg h]
    exact Ev.neg h (Ev.now _)
theorem impl_WeaveText_ev (ps : List (List Int)) (bs : List S123) (hf : Fine ps bs) (hs : SmallW ps bs) : Ev (fun k => impl_WeaveText.f k ps bs) (wtR ps bs) := by
  simp only [impl_WeaveText.f]
  unfold wtR
  refine Ev.bnd (impl_Records_ev ps bs hf) ?_
  by_cases h : (recordsR ps bs).2 = true
  · obtain ⟨c, hr⟩ := weave_facts hs h
    have ht := tot_facts hf hs h
    have hg := graphOk_len (weaveOk_graph c).1
    have h5 := recordsR_length ps bs
    rw [if_pos h]
    exact Ev.pos h (Ev.bnd (impl_varText_ev _ (by omega)) (Ev.bnd (seqO_ev _ (rowB ps bs) ps.length (fun u hu => impl_gm_ev ps bs hf hs.1 c u hu)) (Ev.bnd (impl_varText_ev _ (by omega)) (Ev.bnd (seqO_ev _ (fun i => recB ((recordsR ps bs).1.getD i zR)) _ (fun i hi => impl_gt_ev _ hr i hi)) (Ev.pos ⟨by omega, by omega, by omega⟩ (impl_Sealed_ev _))))))
  · rw [if_neg h]
    exact Ev.neg h (Ev.now _)
theorem FnExactWeaveText : laws_FnExactWeaveText.Pure := by
  intro p b hp hb
  refine Ev.rounds (r := true) ?_
  simp only [laws_FnExactWeaveText.f]
  obtain ⟨r, hr, hrp⟩ := laws_szWeave_ev p b (by omega) (fun x hx => by have := (hp.2 x hx).1; omega) (by omega) (fun x hx => by have := hb.2 x hx; exact ⟨this.1, by have := this.2.2.2.1; omega⟩)
  refine Ev.bnd hr ?_
  by_cases h : r < 0
  · exact Ev.pos h (Ev.now _)
  have hf := hrp (by omega)
  have hs : SmallW p (b.map ofL) := ⟨fun x hx y hy => (wf64 ((hp.2 x hx).2 y hy)).2, fun c hc => by
    obtain ⟨x, hx, rfl⟩ := List.mem_map.1 hc
    have := hb.2 x hx
    exact ⟨(wf64 this.2.1).2, fun d hd => (wf64 (this.2.2.2.2 d hd)).2⟩⟩
  refine Ev.neg h (Ev.bnd (laws_toWeave_ev p b hf) (Ev.bnd (spec_WeaveText_ev _ _ hf hs) (Ev.bnd (laws_toWeave_ev p b hf) (Ev.bnd (impl_WeaveText_ev _ _ hf hs) (Ev.pos rfl (Ev.succ ?_))))))
  simp only [laws_FnExactWeaveText.j0]
  exact Ev.neg (by simp) (Ev.bnd (laws_toWeave_ev p b hf) (Ev.bnd (laws_eqWeave_refl _ _ hf) (Ev.pos rfl (Ev.now _))))

end Go.Proofs.Ytmodgiingohphaa.Pure
