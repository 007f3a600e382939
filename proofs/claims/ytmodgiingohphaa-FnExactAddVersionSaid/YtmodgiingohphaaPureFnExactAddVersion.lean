/- The program's AddVersion returns what the reference's returns, for every weave, list of parents and list of lines that the row reads; it writes into no argument and keeps nothing of one, its answer owns its memory. -/
import Derived.Test.YtmodgiingohphaaPFnExactAddVersionx23
import Derived.Test.YtmodgiingohphaaGen
import Derived.Test.YtmodgiingohphaaLcs
namespace Go.Proofs.Ytmodgiingohphaa.Pure
open Go.RowKit Go.Proofs.Ytmodgiingohphaa.PFnExactAddVersion Go.Proofs.YtmodgiingohphaaW.PrintWords Go.Proofs.YtmodgiingohphaaW.PrintLast Go.Proofs.YtmodgiingohphaaG Go.Proofs.YtmodgiingohphaaL

theorem laws_szIntSS_ev (l : List (List Int)) (m : Int) (hm0 : 0 ≤ m) (hm : m ≤ 140737488351232) (hl : l.length ≤ 140737488351232) (hx : ∀ x ∈ l, x.length ≤ 140737488351232) : ∃ r, Ev (fun k => laws_szIntSS.f k l m) r ∧ (0 ≤ r → (l.length : Int) + r ≤ m ∧ ∀ x ∈ l, ((x.length : Nat) : Int) ≤ m) := by
 have key : ∀ (n i : Nat) (c : Int), i + n = l.length → 0 ≤ c → c ≤ 140737488351232 → ∃ r, Ev (fun k => laws_szIntSS.l0 k l c (i : Int)) r ∧ (0 ≤ r → r ≤ c ∧ ∀ x ∈ l.drop i, ((x.length : Nat) : Int) ≤ c) := by
  intro n
  induction n with
  | zero =>
   intro i c hi hc0 hc
   refine ⟨c, Ev.succ ?_, fun _ => ⟨Int.le_refl _, ?_⟩⟩
   ·simp only [laws_szIntSS.l0]
    exact Ev.neg (by omega) (Ev.now _)
   ·rw [drop_end l i (by omega)]
    simp
  | succ n ih =>
   intro i c hi hc0 hc
   have hr : rd_L1 l (i : Int) = l[i]'(by omega) := by simp [rd_L1, List.getD, List.getElem?_eq_getElem (show i < l.length by omega)]
   have hs := hx _ (List.getElem_mem (show i < l.length by omega))
   have hd : l.drop i = l[i]'(by omega) :: l.drop (i + 1) := List.drop_eq_getElem_cons (by omega)
   have hw : wrap64 (c - (((rd_L1 l (i : Int)).length : Nat) : Int)) = c - (((l[i]'(by omega)).length : Nat) : Int) := by rw [hr]; exact w64 (by omega) (by omega)
   by_cases h : c - (((l[i]'(by omega)).length : Nat) : Int) < 0
   ·refine ⟨-1, Ev.succ ?_, fun h => absurd h (by omega)⟩
    simp only [laws_szIntSS.l0]
    exact Ev.pos (by omega) (Ev.pos (by omega) (Ev.bnd0 (a := -1) (by simp only [laws_szIntS.f]; rw [if_pos (by rw [hw]; exact h)]) (Ev.pos (by omega) (Ev.now _))))
   ·obtain ⟨r, hev, hp⟩ := ih (i + 1) (c - (((l[i]'(by omega)).length : Nat) : Int)) (by omega) (by omega) (by omega)
    refine ⟨r, Ev.succ ?_, fun h0 => ?_⟩
    ·simp only [laws_szIntSS.l0]
     refine Ev.pos (by omega) (Ev.pos (by omega) (Ev.bnd0 (a := c - (((l[i]'(by omega)).length : Nat) : Int)) (by simp only [laws_szIntS.f]; rw [if_neg (by rw [hw]; exact h), hw]) (Ev.neg h ?_)))
     rw [up1 i (by omega)]
     exact hev
    ·obtain ⟨p1, p2⟩ := hp h0
     refine ⟨by omega, fun x hx => ?_⟩
     rw [hd] at hx
     rcases List.mem_cons.1 hx with rfl | hx
     ·omega
     ·have := p2 x hx
      omega
 simp only [laws_szIntSS.f]
 by_cases h : wrap64 (m - (l.length : Int)) < 0
 ·exact ⟨-1, Ev.pos h (Ev.now _), fun h => absurd h (by omega)⟩
 ·have h1 : ¬ (m - (l.length : Int) < 0) := by rw [w64 (by omega) (by omega)] at h; exact h
  obtain ⟨r, hr, hp⟩ := key l.length 0 (m - (l.length : Int)) (by omega) (by omega) (by omega)
  refine ⟨r, Ev.neg h ?_, fun h0 => ?_⟩
  ·rw [w64 (by omega) (by omega)]
   exact hr
  ·obtain ⟨p1, p2⟩ := hp h0
   refine ⟨by omega, fun x hx => ?_⟩
   have := p2 x (by simpa using hx)
   omega
theorem laws_toIntS_l0 (l : List Int) (hl : l.length ≤ 140737488351232) : ∀ (n i : Nat) (x : List Int), i + n = l.length → x.length = l.length → (∀ j, j < i → x[j]? = l[j]?) → Ev (fun k => laws_toIntS.l0 k l x (i : Int)) l := by
 intro n
 induction n with
 | zero =>
  intro i x hi hx hj
  refine Ev.succ ?_
  simp only [laws_toIntS.l0]
  refine Ev.neg (by omega) (Ev.some_ ?_)
  apply List.ext_getElem?
  intro j
  by_cases h : j < i
  ·exact hj j h
  ·rw [List.getElem?_eq_none (by omega), List.getElem?_eq_none (by omega)]
 | succ n ih =>
  intro i x hi hx hj
  refine Ev.succ ?_
  simp only [laws_toIntS.l0]
  refine Ev.pos (by omega) (Ev.pos (by omega) (Ev.pos (by omega) ?_))
  have e : wrap64 ((i : Int) + 1) = ((i + 1 : Nat) : Int) := by rw [w64 (by omega) (by omega)]; omega
  have e2 : ((i : Int)).toNat = i := by omega
  rw [e, e2]
  refine ih (i + 1) _ (by omega) (by rw [List.length_set]; exact hx) ?_
  intro j hj'
  by_cases h : j = i
  ·subst h
   rw [List.getElem?_set_self (by omega)]
   simp [rd, List.getD, List.getElem?_eq_getElem (show j < l.length by omega)]
  ·rw [List.getElem?_set_ne (by omega)]
   exact hj j (by omega)
theorem laws_toIntS_ev (l : List Int) (hl : l.length ≤ 35184372088832) : Ev (fun k => laws_toIntS.f k l) l := by
 simp only [laws_toIntS.f]
 refine Ev.pos (by omega) (Ev.pos (by omega) ?_)
 exact laws_toIntS_l0 l (by omega) l.length 0 _ (by omega) (by simp) (fun j h => absurd h (by omega))

theorem laws_toIntSS_ev (l : List (List Int)) (hl : l.length ≤ 11728124029610) (hx : ∀ x ∈ l, x.length ≤ 35184372088832) : Ev (fun k => laws_toIntSS.f k l) l := by
 simp only [laws_toIntSS.f]
 refine Ev.pos (by omega) (Ev.pos (by omega) ?_)
 have key : ∀ (n i : Nat) (x : List (List Int)), i + n = l.length → x.length = l.length → (∀ j, j < i → x[j]? = l[j]?) → Ev (fun k => laws_toIntSS.l0 k l x (i : Int)) l := by
  intro n
  induction n with
  | zero =>
   intro i x hi hx hj
   refine Ev.succ ?_
   simp only [laws_toIntSS.l0]
   refine Ev.neg (by omega) (Ev.some_ ?_)
   apply List.ext_getElem?
   intro j
   by_cases h : j < i
   ·exact hj j h
   ·rw [List.getElem?_eq_none (by omega), List.getElem?_eq_none (by omega)]
  | succ n ih =>
   intro i x hi hx' hj
   refine Ev.succ ?_
   simp only [laws_toIntSS.l0]
   have hr : rd_L1 l (i : Int) = l[i]'(by omega) := by simp [rd_L1, List.getD, List.getElem?_eq_getElem (show i < l.length by omega)]
   refine Ev.pos (by omega) (Ev.pos (by omega) ?_)
   rw [up1 i (by omega), hr]
   refine Ev.bnd (laws_toIntS_ev _ (hx _ (List.getElem_mem _))) (Ev.pos (by omega) ?_)
   have e2 : ((i : Int)).toNat = i := by omega
   rw [e2]
   refine ih (i + 1) _ (by omega) (by rw [List.length_set]; exact hx') ?_
   intro j hj'
   by_cases h : j = i
   ·subst h
    rw [List.getElem?_set_self (by omega), List.getElem?_eq_getElem (by omega)]
   ·rw [List.getElem?_set_ne (by omega)]
    exact hj j (by omega)
 exact key l.length 0 _ (by omega) (by simp) (fun j h => absurd h (by omega))
theorem laws_eqIntS_refl (l : List Int) (hl : l.length ≤ 140737488351232) : Ev (fun k => laws_eqIntS.f k l l) true := by
 simp only [laws_eqIntS.f]
 refine Ev.pos (by first | rfl | trivial) ?_
 have key : ∀ (n i : Nat), i + n = l.length → Ev (fun k => laws_eqIntS.l0 k l l (i : Int)) true := by
  intro n
  induction n with
  | zero =>
   intro i hi
   refine Ev.succ ?_
   simp only [laws_eqIntS.l0]
   exact Ev.neg (by omega) (Ev.now _)
  | succ n ih =>
   intro i hi
   refine Ev.succ ?_
   simp only [laws_eqIntS.l0]
   have e : wrap64 ((i : Int) + 1) = ((i + 1 : Nat) : Int) := by rw [w64 (by omega) (by omega)]; omega
   rw [e]
   exact Ev.pos (by omega) (Ev.pos (by omega) (Ev.pos (by omega) (Ev.pos (by first | rfl | trivial) (ih (i + 1) (by omega)))))
 exact key l.length 0 (by omega)

theorem laws_eqIntSS_refl (l : List (List Int)) (hl : l.length ≤ 140737488351232) (hx : ∀ x ∈ l, x.length ≤ 140737488351232) : Ev (fun k => laws_eqIntSS.f k l l) true := by
 simp only [laws_eqIntSS.f]
 refine Ev.pos (by first | rfl | trivial) ?_
 have key : ∀ (n i : Nat), i + n = l.length → Ev (fun k => laws_eqIntSS.l0 k l l (i : Int)) true := by
  intro n
  induction n with
  | zero =>
   intro i hi
   refine Ev.succ ?_
   simp only [laws_eqIntSS.l0]
   exact Ev.neg (by omega) (Ev.now _)
  | succ n ih =>
   intro i hi
   refine Ev.succ ?_
   simp only [laws_eqIntSS.l0]
   refine Ev.pos (by omega) (Ev.pos (by omega) (Ev.pos (by omega) ?_))
   rw [up1 i (by omega)]
   have hr : rd_L1 l (i : Int) = l[i]'(by omega) := by simp [rd_L1, List.getD, List.getElem?_eq_getElem (show i < l.length by omega)]
   rw [hr]
   exact Ev.bnd (laws_eqIntS_refl _ (hx _ (List.getElem_mem _))) (Ev.pos (by first | rfl | trivial) (ih (i + 1) (by omega)))
 exact key l.length 0 (by omega)
def Fine (p : List (List Int)) (b : List S123) : Prop := p.length ≤ 1048576 ∧ (∀ x ∈ p, x.length ≤ 1048576) ∧ b.length ≤ 1048576 ∧ ∀ x ∈ b, x.f0.size ≤ 1048576 ∧ x.f3.length ≤ 1048576
theorem laws_szBody_eq (s : ByteArray) (a b : Int) (d : List Int) (m : Int) (hm0 : 0 ≤ m) (hm : m ≤ 140737488351232) (hs : s.size ≤ 140737488351232) (hd : d.length ≤ 140737488351232) : ∃ r, laws_szBody.f s a b d m = some r ∧ (0 ≤ r → r ≤ m ∧ (s.size : Int) ≤ m ∧ (d.length : Int) ≤ m) := by
 simp only [laws_szBody.f, laws_szIntS.f]
 rw [w64 (by omega) (by omega)]
 by_cases h : m - (s.size : Int) < 0
 ·exact ⟨-1, by rw [if_pos h], fun h => by omega⟩
 ·rw [if_neg h, w64 (by omega) (by omega)]
  by_cases h2 : m - (s.size : Int) - (d.length : Int) < 0
  ·exact ⟨-1, by rw [if_pos h2]; simp, fun h => by omega⟩
  ·refine ⟨m - s.size - d.length, by rw [if_neg h2]; simp only [Option.bind_some]; rw [if_neg h2], fun _ => ⟨by omega, by omega, by omega⟩⟩
theorem laws_szBodyS_ev (l : List S120) (m : Int) (hm0 : 0 ≤ m) (hm : m ≤ 140737488351232) (hl : l.length ≤ 140737488351232) (hx : ∀ x ∈ l, x.f0.size ≤ 140737488351232 ∧ x.f3.length ≤ 140737488351232) : ∃ r, Ev (fun k => laws_szBodyS.f k l m) r ∧ (0 ≤ r → (l.length : Int) + r ≤ m ∧ ∀ x ∈ l, (x.f0.size : Int) ≤ m ∧ (x.f3.length : Int) ≤ m) := by
 have key : ∀ (n i : Nat) (c : Int), i + n = l.length → 0 ≤ c → c ≤ 140737488351232 → ∃ r, Ev (fun k => laws_szBodyS.l0 k l c (i : Int)) r ∧ (0 ≤ r → r ≤ c ∧ ∀ x ∈ l.drop i, (x.f0.size : Int) ≤ c ∧ (x.f3.length : Int) ≤ c) := by
  intro n
  induction n with
  | zero =>
   intro i c hi hc0 hc
   refine ⟨c, Ev.succ ?_, fun _ => ⟨Int.le_refl _, ?_⟩⟩
   ·simp only [laws_szBodyS.l0]
    exact Ev.neg (by omega) (Ev.now _)
   ·rw [drop_end l i (by omega)]
    simp
  | succ n ih =>
   intro i c hi hc0 hc
   have hr : rd_T120 l (i : Int) = l[i]'(by omega) := by simp [rd_T120, List.getD, List.getElem?_eq_getElem (show i < l.length by omega)]
   have hs := hx _ (List.getElem_mem (show i < l.length by omega))
   have hd : l.drop i = l[i]'(by omega) :: l.drop (i + 1) := List.drop_eq_getElem_cons (by omega)
   obtain ⟨q, hq, hqp⟩ := laws_szBody_eq (l[i]'(by omega)).f0 (l[i]'(by omega)).f1 (l[i]'(by omega)).f2 (l[i]'(by omega)).f3 c hc0 hc hs.1 hs.2
   by_cases h : q < 0
   ·refine ⟨-1, Ev.succ ?_, fun h => absurd h (by omega)⟩
    simp only [laws_szBodyS.l0]
    rw [hr]
    exact Ev.pos (by omega) (Ev.pos (by omega) (Ev.bnd0 hq (Ev.pos h (Ev.now _))))
   ·obtain ⟨q1, q2, q3⟩ := hqp (by omega)
    obtain ⟨r, hev, hp⟩ := ih (i + 1) q (by omega) (by omega) (by omega)
    refine ⟨r, Ev.succ ?_, fun h0 => ?_⟩
    ·simp only [laws_szBodyS.l0]
     rw [hr, up1 i (by omega)]
     exact Ev.pos (by omega) (Ev.pos (by omega) (Ev.bnd0 hq (Ev.neg h hev)))
    ·obtain ⟨p1, p2⟩ := hp h0
     refine ⟨by omega, fun x hx => ?_⟩
     rw [hd] at hx
     rcases List.mem_cons.1 hx with rfl | hx
     ·exact ⟨q2, q3⟩
     ·have := p2 x hx
      omega
 simp only [laws_szBodyS.f]
 by_cases h : wrap64 (m - (l.length : Int)) < 0
 ·exact ⟨-1, Ev.pos h (Ev.now _), fun h => absurd h (by omega)⟩
 ·have h1 : ¬ (m - (l.length : Int) < 0) := by rw [w64 (by omega) (by omega)] at h; exact h
  obtain ⟨r, hr, hp⟩ := key l.length 0 (m - (l.length : Int)) (by omega) (by omega) (by omega)
  refine ⟨r, Ev.neg h ?_, fun h0 => ?_⟩
  ·rw [w64 (by omega) (by omega)]
   exact hr
  ·obtain ⟨p1, p2⟩ := hp h0
   refine ⟨by omega, fun x hx => ?_⟩
   have := p2 x (by simpa using hx)
   omega
def ofL (b : S120) : S123 := ⟨b.f0, b.f1, b.f2, b.f3⟩
theorem laws_toBodyS_ev (l : List S120) (hl : l.length ≤ 1048576) (hx : ∀ x ∈ l, x.f3.length ≤ 35184372088832) : Ev (fun k => laws_toBodyS.f k l) (l.map ofL) := by
 simp only [laws_toBodyS.f]
 refine Ev.pos (by omega) (Ev.pos (by omega) ?_)
 have key : ∀ (n i : Nat) (x : List S123), i + n = l.length → x.length = l.length → (∀ j, j < i → x[j]? = (l.map ofL)[j]?) → Ev (fun k => laws_toBodyS.l0 k l x (i : Int)) (l.map ofL) := by
  intro n
  induction n with
  | zero =>
   intro i x hi hx hj
   refine Ev.succ ?_
   simp only [laws_toBodyS.l0]
   refine Ev.neg (by omega) (Ev.some_ ?_)
   apply List.ext_getElem?
   intro j
   by_cases h : j < i
   ·exact hj j h
   ·rw [List.getElem?_eq_none (by omega), List.getElem?_eq_none (by rw [List.length_map]; omega)]
  | succ n ih =>
   intro i x hi hx' hj
   refine Ev.succ ?_
   simp only [laws_toBodyS.l0]
   have hr : rd_T120 l (i : Int) = l[i]'(by omega) := by simp [rd_T120, List.getD, List.getElem?_eq_getElem (show i < l.length by omega)]
   refine Ev.pos (by omega) (Ev.pos (by omega) ?_)
   rw [up1 i (by omega), hr]
   simp only [laws_toBody.f]
   refine Ev.bnd (Ev.bnd (laws_toIntS_ev _ (hx _ (List.getElem_mem _))) (Ev.now _)) (Ev.pos (by omega) ?_)
   have e2 : ((i : Int)).toNat = i := by omega
   rw [e2]
   refine ih (i + 1) _ (by omega) (by rw [List.length_set]; exact hx') ?_
   intro j hj'
   by_cases h : j = i
   ·subst h
    rw [List.getElem?_set_self (by omega), List.getElem?_map, List.getElem?_eq_getElem (by omega)]
    rfl
   ·rw [List.getElem?_set_ne (by omega)]
    exact hj j (by omega)
 exact key l.length 0 _ (by omega) (by simp) (fun j h => absurd h (by omega))
theorem laws_toWeave_ev (p : List (List Int)) (b : List S120) (h : Fine p (b.map ofL)) : Ev (fun k => laws_toWeave.f k p b) (p, b.map ofL) := by
 obtain ⟨h1, h2, h3, h4⟩ := h
 rw [List.length_map] at h3
 simp only [laws_toWeave.f]
 exact Ev.bnd (laws_toIntSS_ev p (by omega) (fun x hx => by have := h2 x hx; omega)) (Ev.bnd (laws_toBodyS_ev b h3 (fun x hx => by have := (h4 (ofL x) (List.mem_map.2 ⟨x, hx, rfl⟩)).2; simp only [ofL] at this; omega)) (Ev.now _))
theorem laws_eqBodyS_refl (l : List S123) (hl : l.length ≤ 140737488351232) (hx : ∀ x ∈ l, x.f3.length ≤ 140737488351232) : Ev (fun k => laws_eqBodyS.f k l l) true := by
 simp only [laws_eqBodyS.f]
 refine Ev.pos (by first | rfl | trivial) ?_
 have key : ∀ (n i : Nat), i + n = l.length → Ev (fun k => laws_eqBodyS.l0 k l l (i : Int)) true := by
  intro n
  induction n with
  | zero =>
   intro i hi
   refine Ev.succ ?_
   simp only [laws_eqBodyS.l0]
   exact Ev.neg (by omega) (Ev.now _)
  | succ n ih =>
   intro i hi
   refine Ev.succ ?_
   simp only [laws_eqBodyS.l0]
   have hr : rd_T123 l (i : Int) = l[i]'(by omega) := by simp [rd_T123, List.getD, List.getElem?_eq_getElem (show i < l.length by omega)]
   refine Ev.pos (by omega) (Ev.pos (by omega) (Ev.pos (by omega) ?_))
   rw [up1 i (by omega), hr]
   simp only [laws_eqBody.f]
   exact Ev.bnd (Ev.pos (by first | rfl | trivial) (Ev.pos (by first | rfl | trivial) (Ev.pos (by first | rfl | trivial) (Ev.bnd (laws_eqIntS_refl _ (hx _ (List.getElem_mem _))) (Ev.pos rfl (Ev.now _)))))) (Ev.pos rfl (ih (i + 1) (by omega)))
 exact key l.length 0 (by omega)
theorem laws_eqWeave_refl (p : List (List Int)) (b : List S123) (h : Fine p b) : Ev (fun k => laws_eqWeave.f k p b p b) true := by
 obtain ⟨h1, h2, h3, h4⟩ := h
 simp only [laws_eqWeave.f]
 exact Ev.bnd (laws_eqIntSS_refl p (by omega) (fun x hx => by have := h2 x hx; omega)) (Ev.pos rfl (Ev.bnd (laws_eqBodyS_refl b (by omega) (fun x hx => by have := (h4 x hx).2; omega)) (Ev.pos rfl (Ev.now _))))
theorem spec_l01In_eq (a b c : Int) : spec_l01In.f a b c = some (decide (b ≤ a ∧ a ≤ c)) := by
 unfold spec_l01In.f
 by_cases h : a ≥ b
 ·rw [if_pos h]; simp [h]
 ·rw [if_neg h]; simp; omega
def asc (n : Int) : Option Int → List Int → Bool
 | _, [] => true
 | none, v :: l => decide (0 ≤ v ∧ v ≤ n - 1) && asc n (some v) l
 | some p, v :: l => decide (0 ≤ v ∧ v ≤ n - 1) && decide (p < v) && asc n (some v) l
def prevOf (l : List Int) (i : Nat) : Option Int := if i = 0 then none else some (rd l ((i : Int) - 1))
theorem prevOf_succ (l : List Int) (i : Nat) : prevOf l (i + 1) = some (rd l (i : Int)) := by
 unfold prevOf
 rw [if_neg (by omega)]
 congr 2
 omega
theorem asc_step (l : List Int) (n : Int) (i : Nat) (h : i < l.length) : asc n (prevOf l i) (l.drop i) = (decide (0 ≤ rd l (i : Int) ∧ rd l (i : Int) ≤ n - 1) && (decide (i = 0) || decide (rd l ((i : Int) - 1) < rd l (i : Int))) && asc n (prevOf l (i + 1)) (l.drop (i + 1))) := by
 rw [prevOf_succ, drop_rd l i h]
 by_cases h0 : i = 0
 ·subst h0
  simp [prevOf, asc]
 ·have : prevOf l i = some (rd l ((i : Int) - 1)) := by rw [prevOf, if_neg h0]
  rw [this]
  simp [asc, h0]
def gAll : Nat → List (List Int) → Bool
 | _, [] => true
 | v, r :: ps => decide (r.length ≤ 4) && asc (v : Int) none r && gAll (v + 1) ps
def graphOk (ps : List (List Int)) : Bool := decide (ps.length ≤ 40) && gAll 0 ps
theorem rdL_nat (l : List (List Int)) (i : Nat) (h : i < l.length) : rd_L1 l (i : Int) = l[i] := by
 simp [rd_L1, List.getD, List.getElem?_eq_getElem h]
theorem spec_l05Rise_ev (l : List Int) (n : Int) (hl : l.length ≤ 140737488351232) (hn : -4611686018427387904 ≤ n) (hn1 : n ≤ 4611686018427387904) : Ev (fun k => spec_l05Rise.f k l n) (asc n none l) := by
 simp only [spec_l05Rise.f]
 have key : ∀ (m i : Nat), i + m = l.length → Ev (fun k => spec_l05Rise.l0 k l n (i : Int)) (asc n (prevOf l i) (l.drop i)) := by
  intro m
  induction m with
  | zero =>
   intro i hi
   refine Ev.succ ?_
   simp only [spec_l05Rise.l0]
   refine Ev.neg (by omega) (Ev.some_ ?_)
   rw [drop_end l i (by omega)]
   cases prevOf l i <;> rfl
  | succ m ih =>
   intro i hi
   refine Ev.succ ?_
   simp only [spec_l05Rise.l0]
   have ih' := ih (i + 1) (by omega)
   rw [asc_step l n i (by omega)]
   rw [show wrap64 (n - 1) = n - 1 from w64 (by omega) (by omega), up1 i (by omega)]
   refine Ev.pos (by omega) (Ev.pos (by omega) (Ev.bnd0 (spec_l01In_eq _ _ _) ?_))
   by_cases hv : 0 ≤ rd l (i : Int) ∧ rd l (i : Int) ≤ n - 1
   ·refine Ev.pos (by simpa using hv) ?_
    by_cases h0 : (i : Int) > 0
    ·rw [show wrap64 ((i : Int) - 1) = (i : Int) - 1 from w64 (by omega) (by omega)]
     refine Ev.pos h0 (Ev.pos (by omega) (Ev.pos (by omega) ?_))
     by_cases h1 : rd l ((i : Int) - 1) ≥ rd l (i : Int)
     ·refine Ev.pos h1 (Ev.some_ ?_)
      have h2 : ¬ (rd l ((i : Int) - 1) < rd l (i : Int)) := by omega
      have h3 : ¬ (i = 0) := by omega
      simp [h2, h3]
     ·refine Ev.neg h1 (Ev_eq ih' ?_)
      have h2 : rd l ((i : Int) - 1) < rd l (i : Int) := by omega
      simp [hv, h2]
    ·refine Ev.neg h0 (Ev_eq ih' ?_)
     rw [show decide (0 ≤ rd l (i : Int) ∧ rd l (i : Int) ≤ n - 1) = true from decide_eq_true hv, show decide (i = 0) = true from decide_eq_true (by omega)]
     rfl
   ·refine Ev.neg (by simpa using hv) (Ev.some_ ?_)
    rw [show decide (0 ≤ rd l (i : Int) ∧ rd l (i : Int) ≤ n - 1) = false from by simpa using hv]
    rfl
 exact key l.length 0 (by omega)
theorem spec_GraphOk_ev (l : List (List Int)) (hl : l.length ≤ 140737488351232) (hx : ∀ x ∈ l, x.length ≤ 140737488351232) : Ev (fun k => spec_GraphOk.f k l) (graphOk l) := by
 simp only [spec_GraphOk.f]
 by_cases h40 : (l.length : Int) > 40
 ·refine Ev.pos h40 (Ev.some_ ?_)
  simp [graphOk]; omega
 refine Ev.neg h40 ?_
 have key : ∀ (m i : Nat), i + m = l.length → Ev (fun k => spec_GraphOk.l0 k l (i : Int)) (gAll i (l.drop i)) := by
  intro m
  induction m with
  | zero =>
   intro i hi
   refine Ev.succ ?_
   simp only [spec_GraphOk.l0]
   refine Ev.neg (by omega) (Ev.some_ ?_)
   rw [drop_end l i (by omega)]
   rfl
  | succ m ih =>
   intro i hi
   refine Ev.succ ?_
   simp only [spec_GraphOk.l0]
   have ih' := ih (i + 1) (by omega)
   have hr := rdL_nat l i (by omega)
   rw [hr, up1 i (by omega), List.drop_eq_getElem_cons (show i < l.length by omega)]
   simp only [gAll]
   refine Ev.pos (by omega) (Ev.pos (by omega) ?_)
   by_cases h4 : ((l[i]'(by omega)).length : Int) > 4
   ·refine Ev.pos h4 (Ev.some_ ?_)
    rw [show decide ((l[i]'(by omega)).length ≤ 4) = false from by simp; omega]
    rfl
   ·refine Ev.neg h4 (Ev.bnd (spec_l05Rise_ev _ _ (hx _ (List.getElem_mem _)) (by omega) (by omega)) ?_)
    rw [show decide ((l[i]'(by omega)).length ≤ 4) = true from by simp; omega]
    by_cases ha : asc (i : Int) none (l[i]'(by omega)) = true
    ·refine Ev.pos ha (Ev_eq ih' ?_)
     rw [ha]; rfl
    ·refine Ev.neg ha (Ev.some_ ?_)
     rw [Bool.eq_false_iff.2 ha]; rfl
 refine Ev_eq (key l.length 0 (by omega)) ?_
 simp only [graphOk, List.drop_zero]
 rw [show decide (l.length ≤ 40) = true from by simp; omega]
 rfl
theorem spec_LineOk_ev (s : ByteArray) (hs : s.size ≤ 140737488351232) : Ev (fun k => spec_LineOk.f k s) (lineOk s) := by
 simp only [spec_LineOk.f]
 have key : ∀ (n i : Nat), i + n = s.size → Ev (fun k => spec_LineOk.l0 k s (i : Int)) (decide ((10 : Int) ∉ (bytesOf s).drop i ∧ s.size ≤ 60)) := by
  intro n
  induction n with
  | zero =>
   intro i hi
   refine Ev.succ ?_
   simp only [spec_LineOk.l0]
   refine Ev.neg (by omega) (Ev.some_ ?_)
   rw [drop_end _ _ (by rw [bytesOf_length]; omega)]
   simp
   omega
  | succ n ih =>
   intro i hi
   refine Ev.succ ?_
   simp only [spec_LineOk.l0]
   refine Ev.pos (by omega) (Ev.pos (by omega) ?_)
   rw [up1 i (by omega), drop_bt s i (by omega)]
   by_cases h : bt s (i : Int) = 10
   ·exact Ev.pos h (Ev.some_ (by simp [h]))
   ·refine Ev.neg h (Ev_eq (ih (i + 1) (by omega)) ?_)
    have : ((10 : Int) ∉ bt s (i : Int) :: (bytesOf s).drop (i + 1)) ↔ ((10 : Int) ∉ (bytesOf s).drop (i + 1)) := by
     rw [List.mem_cons]
     constructor
     ·intro h1 h2; exact h1 (.inr h2)
     ·intro h1 h2
      rcases h2 with h2 | h2
      ·exact h h2.symm
      ·exact h1 h2
    simp only [this]
 exact key s.size 0 (by omega)
theorem impl_inRange_eq (a b c : Int) : impl_inRange.f a b c = some (decide (b ≤ a ∧ a ≤ c)) := by
 unfold impl_inRange.f
 by_cases h : a ≥ b
 ·rw [if_pos h]; simp [h]
 ·rw [if_neg h]; simp; omega
theorem impl_ascends_ev (l : List Int) (n : Int) (hl : l.length ≤ 140737488351232) (hn : -4611686018427387904 ≤ n) (hn1 : n ≤ 4611686018427387904) : Ev (fun k => impl_ascends.f k l n) (asc n none l) := by
 simp only [impl_ascends.f]
 have key : ∀ (m i : Nat), i + m = l.length → Ev (fun k => impl_ascends.l0 k l n l (l.length : Int) (i : Int)) (asc n (prevOf l i) (l.drop i)) := by
  intro m
  induction m with
  | zero =>
   intro i hi
   refine Ev.succ ?_
   simp only [impl_ascends.l0]
   refine Ev.neg (by omega) (Ev.some_ ?_)
   rw [drop_end l i (by omega)]
   cases prevOf l i <;> rfl
  | succ m ih =>
   intro i hi
   refine Ev.succ ?_
   simp only [impl_ascends.l0]
   have ih' := ih (i + 1) (by omega)
   rw [asc_step l n i (by omega)]
   rw [show wrap64 (n - 1) = n - 1 from w64 (by omega) (by omega), up1 i (by omega)]
   refine Ev.pos (by omega) (Ev.pos (by omega) (Ev.pos (by omega) (Ev.bnd0 (impl_inRange_eq _ _ _) ?_)))
   by_cases hv : 0 ≤ rd l (i : Int) ∧ rd l (i : Int) ≤ n - 1
   ·refine Ev.pos (by simpa using hv) ?_
    by_cases h0 : (i : Int) > 0
    ·rw [show wrap64 ((i : Int) - 1) = (i : Int) - 1 from w64 (by omega) (by omega)]
     refine Ev.pos h0 (Ev.pos (by omega) (Ev.pos (by omega) ?_))
     by_cases h1 : rd l (i : Int) ≤ rd l ((i : Int) - 1)
     ·refine Ev.pos h1 (Ev.some_ ?_)
      have h2 : ¬ (rd l ((i : Int) - 1) < rd l (i : Int)) := by omega
      have h3 : ¬ (i = 0) := by omega
      simp [h2, h3]
     ·refine Ev.neg h1 (Ev_eq ih' ?_)
      have h2 : rd l ((i : Int) - 1) < rd l (i : Int) := by omega
      simp [hv, h2]
    ·refine Ev.neg h0 (Ev_eq ih' ?_)
     rw [show decide (0 ≤ rd l (i : Int) ∧ rd l (i : Int) ≤ n - 1) = true from decide_eq_true hv, show decide (i = 0) = true from decide_eq_true (by omega)]
     rfl
   ·refine Ev.neg (by simpa using hv) (Ev.some_ ?_)
    rw [show decide (0 ≤ rd l (i : Int) ∧ rd l (i : Int) ≤ n - 1) = false from by simpa using hv]
    rfl
 exact key l.length 0 (by omega)
theorem impl_GraphOk_ev (l : List (List Int)) (hl : l.length ≤ 140737488351232) (hx : ∀ x ∈ l, x.length ≤ 140737488351232) : Ev (fun k => impl_GraphOk.f k l) (graphOk l) := by
 simp only [impl_GraphOk.f]
 have key : ∀ (m i : Nat), i + m = l.length → Ev (fun k => impl_GraphOk.l0 k l l (l.length : Int) (i : Int)) (decide (l.length ≤ 40) && gAll i (l.drop i)) := by
  intro m
  induction m with
  | zero =>
   intro i hi
   refine Ev.succ ?_
   simp only [impl_GraphOk.l0]
   refine Ev.neg (by omega) (Ev.some_ ?_)
   rw [drop_end l i (by omega)]
   simp [gAll]
   omega
  | succ m ih =>
   intro i hi
   refine Ev.succ ?_
   simp only [impl_GraphOk.l0]
   have ih' := ih (i + 1) (by omega)
   have hr := rdL_nat l i (by omega)
   rw [hr, up1 i (by omega), List.drop_eq_getElem_cons (show i < l.length by omega)]
   simp only [gAll]
   refine Ev.pos (by omega) (Ev.pos (by omega) (Ev.pos (by omega) ?_))
   by_cases h4 : ((l[i]'(by omega)).length : Int) > 4
   ·refine Ev.pos h4 (Ev.some_ ?_)
    rw [show decide ((l[i]'(by omega)).length ≤ 4) = false from by simp; omega]
    simp
   ·refine Ev.neg h4 (Ev.bnd (impl_ascends_ev _ _ (hx _ (List.getElem_mem _)) (by omega) (by omega)) ?_)
    rw [show decide ((l[i]'(by omega)).length ≤ 4) = true from by simp; omega]
    by_cases ha : asc (i : Int) none (l[i]'(by omega)) = true
    ·refine Ev.pos ha (Ev_eq ih' ?_)
     rw [ha]; rfl
    ·refine Ev.neg ha (Ev.some_ ?_)
     rw [Bool.eq_false_iff.2 ha]
     simp
 exact key l.length 0 (by omega)
theorem impl_LineOk_eq (s : ByteArray) : impl_LineOk.f s = some (lineOk s) := by
 simp only [impl_LineOk.f]
 by_cases h : (s.size : Int) ≤ 60
 ·rw [if_pos h]
  simp only [strings_Contains.f]
  rw [if_pos (by rfl)]
  simp only [Option.bind_some]
  congr 1
  have h1 := indexByte_mem 10 s.data.toList
  have h2 := byte_mem s 10
  simp only [lineOk]
  rw [← decide_not]
  congr 1
  rw [show (⟨#[10]⟩ : ByteArray).data.toList.headD 0 = (10 : UInt8) from rfl, h1, h2]
  simp only [eq_iff_iff]
  constructor
  ·intro h3; exact ⟨h3, by omega⟩
  ·intro h3; exact h3.1
 ·rw [if_neg h]
  congr 1
  simp only [lineOk]
  symm
  rw [decide_eq_false_iff_not]
  omega
def row (ps : List (List Int)) (v : Nat) : List Int := ps.getD v []
inductive Anc (ps : List (List Int)) : Nat → Nat → Prop
 | refl (v : Nat) : Anc ps v v
 | step {v p u : Nat} : (p : Int) ∈ row ps v → Anc ps p u → Anc ps v u
def Down (ps : List (List Int)) : Prop := ∀ v, v < ps.length → ∀ p ∈ row ps v, 0 ≤ p ∧ p < (v : Int)
theorem asc_bound : ∀ (l : List Int) (n : Int) (o : Option Int), asc n o l = true → ∀ p ∈ l, 0 ≤ p ∧ p ≤ n - 1
 | [], _, _, _ => by simp
 | x :: l, n, o, h => by
  intro p hp
  have hx : 0 ≤ x ∧ x ≤ n - 1 := by
   cases o <;> simp [asc] at h <;> omega
  have hl : asc n (some x) l = true := by
   cases o <;> simp [asc] at h
   ·exact h.2
   ·exact h.2
  rcases List.mem_cons.1 hp with rfl | hp
  ·exact hx
  ·exact asc_bound l n (some x) hl p hp
theorem gAll_get : ∀ (ps : List (List Int)) (v : Nat), gAll v ps = true → ∀ i (h : i < ps.length), (ps[i]).length ≤ 4 ∧ asc ((v + i : Nat) : Int) none ps[i] = true
 | r :: ps, v, h, 0, _ => by
  simp [gAll] at h
  simpa using h.1
 | r :: ps, v, h, i + 1, hi => by
  have h2 : gAll (v + 1) ps = true := by
   simp [gAll] at h
   exact h.2
  have := gAll_get ps (v + 1) h2 i (by simpa using hi)
  have e : v + 1 + i = v + (i + 1) := by omega
  rw [e] at this
  simpa using this
theorem row_get (ps : List (List Int)) (v : Nat) (h : v < ps.length) : row ps v = ps[v] := by
 simp [row, List.getD, List.getElem?_eq_getElem h]
theorem graphOk_down {ps : List (List Int)} (h : graphOk ps = true) : Down ps := by
 intro v hv p hp
 simp only [graphOk, Bool.and_eq_true, decide_eq_true_eq] at h
 have := (gAll_get ps 0 h.2 v hv).2
 rw [row_get ps v hv] at hp
 have := asc_bound _ _ _ this p hp
 omega
theorem graphOk_len {ps : List (List Int)} (h : graphOk ps = true) : ps.length ≤ 40 := by
 simp only [graphOk, Bool.and_eq_true, decide_eq_true_eq] at h
 exact h.1
theorem Anc.le {ps : List (List Int)} (hd : Down ps) {v u : Nat} (h : Anc ps v u) : v < ps.length → u ≤ v := by
 induction h with
 | refl => intro _; exact Nat.le_refl _
 | step hp _ ih =>
  intro hv
  have := hd _ hv _ hp
  have := ih (by omega)
  omega
def gB (x : List Bool) (u : Nat) : Bool := x.getD u false
theorem gB_set (x : List Bool) (i u : Nat) (h : i < x.length) : gB (x.set i true) u = (gB x u || decide (u = i)) := by
 unfold gB
 by_cases hu : u = i
 ·subst hu
  simp [List.getD, List.getElem?_set_self h]
 ·simp [List.getD, List.getElem?_set_ne (Ne.symm hu), hu]
def Sound (ps : List (List Int)) (S : List Int) (x : List Bool) : Prop := ∀ u, gB x u = true → ∃ s : Nat, (s : Int) ∈ S ∧ s < ps.length ∧ Anc ps s u
def Holds (ps : List (List Int)) (S : List Int) (x : List Bool) : Prop := ∀ s : Nat, (s : Int) ∈ S → s < ps.length → gB x s = true
def Closed (ps : List (List Int)) (x : List Bool) (v : Nat) : Prop := ∀ y, v ≤ y → y < ps.length → gB x y = true → ∀ p : Nat, (p : Int) ∈ row ps y → gB x p = true
theorem marks_all {ps : List (List Int)} {S : List Int} {x : List Bool} (hd : Down ps) (h1 : Sound ps S x) (h2 : Holds ps S x) (h3 : Closed ps x 0) (u : Nat) : gB x u = true ↔ ∃ s : Nat, (s : Int) ∈ S ∧ s < ps.length ∧ Anc ps s u := by
 refine ⟨h1 u, ?_⟩
 rintro ⟨s, hs, hl, ha⟩
 have key : ∀ {v w : Nat}, Anc ps v w → v < ps.length → gB x v = true → gB x w = true := by
  intro v w h
  induction h with
  | refl => intro _ h; exact h
  | step hp _ ih =>
   intro hv hb
   have := hd _ hv _ hp
   exact ih (by omega) (h3 _ (Nat.zero_le _) hv hb _ hp)
 exact key ha hl (h2 s hs hl)
theorem rdB_nat (x : List Bool) (i : Nat) : rdOf false x (i : Int) = gB x i := rfl
theorem Anc.trans {ps : List (List Int)} {a b c : Nat} (h : Anc ps a b) (k : Anc ps b c) : Anc ps a c := by
 induction h with
 | refl => exact k
 | step hp _ ih => exact Anc.step hp (ih k)
section
variable (ps : List (List Int)) (S : List Int) (hd : Down ps) (hn : ps.length ≤ 1000000) (hS : S.length ≤ 140737488351232) (hx : ∀ r ∈ ps, r.length ≤ 1000000)
include hd hn hx
theorem spec_l05Set_l2 (v : Nat) (hv : v < ps.length) (Q : List Bool → Prop) (hQ : ∀ z : List Bool, z.length = ps.length → Sound ps S z → Holds ps S z → Closed ps z v → ∃ r, Ev (fun k => spec_l05Set.l1 k ps z ((v : Int) - 1)) r ∧ Q r) :
  ∀ (n i : Nat) (x : List Bool), i + n = (row ps v).length → x.length = ps.length → Sound ps S x → Holds ps S x → Closed ps x (v + 1) → gB x v = true → (∀ j (h : j < (row ps v).length), j < i → gB x ((row ps v)[j]).toNat = true) → ∃ r, Ev (fun k => spec_l05Set.l2 k ps x (v : Int) (i : Int)) r ∧ Q r := by
 have hrow := rdL_nat ps v hv
 have hrg := row_get ps v hv
 have hrl : (row ps v).length ≤ 1000000 := by rw [hrg]; exact hx _ (List.getElem_mem _)
 intro n
 induction n with
 | zero =>
  intro i x hi hl h1 h2 h3 hb hj
  obtain ⟨r, hr, hq⟩ := hQ x hl h1 h2 (by
   intro y hy hyl hyb p hp
   by_cases e : y = v
   ·subst e
    obtain ⟨j, hjl, hje⟩ := List.getElem_of_mem hp
    have := hj j hjl (by omega)
    rw [hje] at this
    simpa using this
   ·exact h3 y (by omega) hyl hyb p hp)
  refine ⟨r, Ev.succ ?_, hq⟩
  simp only [spec_l05Set.l2]
  rw [hrow, ← hrg]
  refine Ev.pos (by omega) (Ev.pos (by omega) (Ev.neg (by omega) ?_))
  rw [w64 (by omega) (by omega)]
  exact hr
 | succ n ih =>
  intro i x hi hl h1 h2 h3 hb hj
  have hp := hd v hv _ (List.getElem_mem (show i < (row ps v).length by omega))
  have hrd : rd (row ps v) (i : Int) = (row ps v)[i]'(by omega) := rd_nat _ _ _
  obtain ⟨p, hpe⟩ := Int.eq_ofNat_of_zero_le hp.1
  have hmem : (p : Int) ∈ row ps v := by rw [← hpe]; exact List.getElem_mem _
  have hpl : p < x.length := by omega
  obtain ⟨r, hr, hq⟩ := ih (i + 1) (x.set p true) (by omega) (by rw [List.length_set]; exact hl) (by
    intro u hu
    rw [gB_set x p u hpl] at hu
    simp only [Bool.or_eq_true, decide_eq_true_eq] at hu
    rcases hu with hu | rfl
    ·exact h1 u hu
    ·obtain ⟨s, hs, hsl, ha⟩ := h1 v hb
     exact ⟨s, hs, hsl, ha.trans (Anc.step hmem (Anc.refl _))⟩) (by
    intro s hs hsl
    rw [gB_set x p s hpl, h2 s hs hsl]
    rfl) (by
    intro y hy hyl hyb q hq
    rw [gB_set x p y hpl] at hyb
    rw [gB_set x p q hpl]
    have : ¬ (y = p) := by omega
    simp only [this, decide_false, Bool.or_false] at hyb
    rw [h3 y hy hyl hyb q hq]
    rfl) (by rw [gB_set x p v hpl, hb]; rfl) (by
    intro j hjl hji
    rw [gB_set x p _ hpl]
    by_cases e : j = i
    ·subst e
     rw [hpe]
     simp
    ·rw [hj j hjl (by omega)]
     rfl)
  refine ⟨r, Ev.succ ?_, hq⟩
  simp only [spec_l05Set.l2]
  rw [hrow, ← hrg, hrd, hpe, up1 i (by omega), rdB_nat, Int.toNat_natCast]
  exact Ev.pos (by omega) (Ev.pos (by omega) (Ev.pos (by omega) (Ev.pos (by omega) (Ev.pos hb (Ev.pos (by omega) (Ev.pos (by omega) (Ev.pos (by omega) hr)))))))
theorem spec_l05Set_l1 : ∀ (v : Nat) (x : List Bool), v ≤ ps.length → x.length = ps.length → Sound ps S x → Holds ps S x → Closed ps x v → ∃ r, Ev (fun k => spec_l05Set.l1 k ps x ((v : Int) - 1)) r ∧ (r.length = ps.length ∧ ∀ u, gB r u = true ↔ ∃ s : Nat, (s : Int) ∈ S ∧ s < ps.length ∧ Anc ps s u) := by
 intro v
 induction v with
 | zero =>
  intro x _ hl h1 h2 h3
  refine ⟨x, Ev.succ ?_, hl, marks_all hd h1 h2 h3⟩
  simp only [spec_l05Set.l1]
  exact Ev.neg (by omega) (Ev.now _)
 | succ v ih =>
  intro x hv hl h1 h2 h3
  have e : (((v + 1 : Nat) : Int) - 1) = (v : Int) := by omega
  rw [e]
  by_cases hb : gB x v = true
  ·obtain ⟨r, hr, hq⟩ := spec_l05Set_l2 ps S hd hn hx v (by omega) _ (fun z hzl a b c => ih z (by omega) hzl a b c) (row ps v).length 0 x (by omega) hl h1 h2 h3 hb (fun j _ h => absurd h (by omega))
   refine ⟨r, Ev.succ ?_, hq⟩
   simp only [spec_l05Set.l1]
   exact Ev.pos (by omega) hr
  ·obtain ⟨r, hr, hq⟩ := ih x (by omega) hl h1 h2 (by
    intro y hy hyl hyb p hp
    by_cases e : y = v
    ·subst e; exact absurd hyb hb
    ·exact h3 y (by omega) hyl hyb p hp)
   refine ⟨r, Ev.succ ?_, hq⟩
   simp only [spec_l05Set.l1]
   refine Ev.pos (by omega) (Ev.succ ?_)
   simp only [spec_l05Set.l2]
   rw [rdL_nat ps v (by omega), rdB_nat, show wrap64 ((v : Int) - 1) = (v : Int) - 1 from w64 (by omega) (by omega)]
   refine Ev.pos (by omega) (Ev.pos (by omega) ?_)
   by_cases hz : ((0 : Int) < ((ps[v]'(by omega)).length : Int))
   ·exact Ev.pos hz (Ev.pos (by omega) (Ev.neg hb hr))
   ·exact Ev.neg hz hr
include hS
theorem spec_l05Set_ev : ∃ r, Ev (fun k => spec_l05Set.f k ps S) r ∧ (r.length = ps.length ∧ ∀ u, gB r u = true ↔ ∃ s : Nat, (s : Int) ∈ S ∧ s < ps.length ∧ Anc ps s u) := by
 have key : ∀ (n i : Nat) (x : List Bool), i + n = S.length → x.length = ps.length → Sound ps S x → (∀ s : Nat, (s : Int) ∈ S.take i → s < ps.length → gB x s = true) → ∃ r, Ev (fun k => spec_l05Set.l0 k ps S x (i : Int)) r ∧ (r.length = ps.length ∧ ∀ u, gB r u = true ↔ ∃ s : Nat, (s : Int) ∈ S ∧ s < ps.length ∧ Anc ps s u) := by
  intro n
  induction n with
  | zero =>
   intro i x hi hl h1 h2
   obtain ⟨r, hr, hq⟩ := spec_l05Set_l1 ps S hd hn hx ps.length x (Nat.le_refl _) hl h1 (fun s hs hsl => h2 s (by rw [List.take_of_length_le (by omega)]; exact hs) hsl) (fun y hy hyl => absurd hyl (by omega))
   refine ⟨r, Ev.succ ?_, hq⟩
   simp only [spec_l05Set.l0]
   refine Ev.neg (by omega) ?_
   rw [w64 (by omega) (by omega)]
   exact hr
  | succ n ih =>
   intro i x hi hl h1 h2
   have hrd : rd S (i : Int) = S[i]'(by omega) := rd_nat _ _ _
   have htk : S.take (i + 1) = S.take i ++ [S[i]'(by omega)] := List.take_succ_eq_append_getElem (by omega)
   by_cases hv : 0 ≤ S[i]'(by omega) ∧ S[i]'(by omega) ≤ (ps.length : Int) - 1
   ·obtain ⟨s, hse⟩ := Int.eq_ofNat_of_zero_le hv.1
    have hmem : (s : Int) ∈ S := by rw [← hse]; exact List.getElem_mem _
    have hsl : s < x.length := by omega
    obtain ⟨r, hr, hq⟩ := ih (i + 1) (x.set s true) (by omega) (by rw [List.length_set]; exact hl) (by
     intro u hu
     rw [gB_set x s u hsl] at hu
     simp only [Bool.or_eq_true, decide_eq_true_eq] at hu
     rcases hu with hu | rfl
     ·exact h1 u hu
     ·exact ⟨u, hmem, by omega, Anc.refl _⟩) (by
     intro t ht htl
     rw [gB_set x s t hsl]
     rw [htk] at ht
     rcases List.mem_append.1 ht with ht | ht
     ·rw [h2 t ht htl]; rfl
     ·have : t = s := by have := List.mem_singleton.1 ht; omega
      simp [this])
    refine ⟨r, Ev.succ ?_, hq⟩
    simp only [spec_l05Set.l0]
    rw [hrd, w64 (by omega) (by omega), up1 i (by omega)]
    refine Ev.pos (by omega) (Ev.pos (by omega) (Ev.bnd0 (spec_l01In_eq _ _ _) (Ev.pos (by simpa using hv) ?_)))
    rw [hse, Int.toNat_natCast]
    exact Ev.pos (by omega) (Ev.pos (by omega) hr)
   ·obtain ⟨r, hr, hq⟩ := ih (i + 1) x (by omega) hl h1 (by
     intro t ht htl
     rw [htk] at ht
     rcases List.mem_append.1 ht with ht | ht
     ·exact h2 t ht htl
     ·have := List.mem_singleton.1 ht
      exact absurd ⟨by omega, by omega⟩ hv)
    refine ⟨r, Ev.succ ?_, hq⟩
    simp only [spec_l05Set.l0]
    rw [hrd, w64 (by omega) (by omega), up1 i (by omega)]
    exact Ev.pos (by omega) (Ev.pos (by omega) (Ev.bnd0 (spec_l01In_eq _ _ _) (Ev.neg (by simpa using hv) hr)))
 have hz : ∀ u, gB (List.replicate ps.length false) u = false := by
  intro u
  simp only [gB, List.getD, List.getElem?_replicate]
  split <;> rfl
 obtain ⟨r, hr, hq⟩ := key S.length 0 (List.replicate ps.length false) (by omega) (by simp) (fun u hu => by rw [hz] at hu; cases hu) (fun s hs => by simp at hs)
 refine ⟨r, ?_, hq⟩
 simp only [spec_l05Set.f]
 refine Ev.pos (by omega) (Ev.pos (by omega) ?_)
 rw [Int.toNat_natCast]
 exact hr
end
theorem impl_set_has_eq (c : Nat) (hc : c < 2 ^ 64) (u : Int) : impl_set_has.f (c : Int) u = some (decide (0 ≤ u ∧ u ≤ 63) && c.testBit u.toNat) := by
 simp only [impl_set_has.f]
 rw [impl_inRange_eq]
 simp only [Option.bind_some]
 by_cases h : 0 ≤ u ∧ u ≤ 63
 ·rw [if_pos (by simpa using h), wrapu64 _ (by omega) (by omega), if_pos (by omega)]
  obtain ⟨v, rfl⟩ := Int.eq_ofNat_of_zero_le h.1
  congr 1
  have e : shr .u64 (c : Int) (v : Int) = ((c / 2 ^ v : Nat) : Int) := by
   unfold shr
   have e : min ((v : Int)).toNat IntKind.u64.bits = v := by simp [IntKind.bits]; omega
   rw [e]
   simp
  rw [e]
  have hlt : c / 2 ^ v < 2 ^ 64 := Nat.lt_of_le_of_lt (Nat.div_le_self _ _) hc
  have := and64 (c / 2 ^ v) 1 hlt (by decide)
  rw [show ((1 : Nat) : Int) = 1 from rfl] at this
  rw [this, Nat.and_one_is_mod]
  rw [show decide (0 ≤ (v : Int) ∧ (v : Int) ≤ 63) = true from decide_eq_true h, Bool.true_and, Int.toNat_natCast, Nat.testBit_eq_decide_div_mod_eq]
  by_cases hm : c / 2 ^ v % 2 = 1
  ·simp [hm]
  ·have : c / 2 ^ v % 2 = 0 := by omega
   simp [this]
 ·rw [if_neg (by simpa using h)]
  rw [show decide (0 ≤ u ∧ u ≤ 63) = false from by simpa using h]
  rfl
def Words (x : List Int) : Prop := ∀ v, v < x.length → 0 ≤ rd x (v : Int) ∧ rd x (v : Int) < 18446744073709551616
def wd (x : List Int) (v : Nat) : Nat := (rd x (v : Int)).toNat
theorem wd_lt {x : List Int} (h : Words x) {v : Nat} (hv : v < x.length) : wd x v < 2 ^ 64 := by
 have := h v hv
 unfold wd
 omega
theorem wd_cast {x : List Int} (h : Words x) {v : Nat} (hv : v < x.length) : rd x (v : Int) = (wd x v : Int) := by
 have := h v hv
 unfold wd
 omega
theorem impl_unionOf_ev (x : List Int) (hx : Words x) (l : List Int) (hl : l.length ≤ 140737488351232) (hp : ∀ p ∈ l, 0 ≤ p ∧ p < (x.length : Int)) :
  ∃ s : Nat, Ev (fun k => impl_unionOf.f k x l) (s : Int) ∧ s < 2 ^ 64 ∧ ∀ u, s.testBit u = true ↔ ∃ p : Nat, (p : Int) ∈ l ∧ (wd x p).testBit u = true := by
 simp only [impl_unionOf.f]
 have key : ∀ (n i s : Nat), i + n = l.length → s < 2 ^ 64 → ∃ r : Nat, Ev (fun k => impl_unionOf.l0 k x (s : Int) l (l.length : Int) (i : Int)) (r : Int) ∧ r < 2 ^ 64 ∧ ∀ u, r.testBit u = true ↔ (s.testBit u = true ∨ ∃ p : Nat, (p : Int) ∈ l.drop i ∧ (wd x p).testBit u = true) := by
  intro n
  induction n with
  | zero =>
   intro i s hi hs
   refine ⟨s, Ev.succ ?_, hs, fun u => ?_⟩
   ·simp only [impl_unionOf.l0]
    exact Ev.neg (by omega) (Ev.now _)
   ·rw [drop_end l i (by omega)]
    simp
  | succ n ih =>
   intro i s hi hs
   have hrd : rd l (i : Int) = l[i]'(by omega) := rd_nat _ _ _
   have hpi := hp _ (List.getElem_mem (show i < l.length by omega))
   obtain ⟨p, hpe⟩ := Int.eq_ofNat_of_zero_le hpi.1
   rw [hpe] at hpi
   have hlt := wd_lt hx (show p < x.length by omega)
   obtain ⟨r, hr, hr1, hr2⟩ := ih (i + 1) (s ||| wd x p) (by omega) (or_lt hs hlt)
   refine ⟨r, Ev.succ ?_, hr1, fun u => ?_⟩
   ·simp only [impl_unionOf.l0]
    rw [hrd, hpe, wd_cast hx (show p < x.length by omega), or64 _ _ hs hlt, up1 i (by omega)]
    exact Ev.pos (by omega) (Ev.pos (by omega) (Ev.pos (by omega) (Ev.pos (by omega) (Ev.pos (by omega) hr))))
   ·rw [hr2 u, Nat.testBit_or, List.drop_eq_getElem_cons (show i < l.length by omega), hpe]
    simp only [Bool.or_eq_true, List.mem_cons]
    constructor
    ·rintro ((h | h) | ⟨q, hq, h⟩)
     ·exact .inl h
     ·exact .inr ⟨p, .inl rfl, h⟩
     ·exact .inr ⟨q, .inr hq, h⟩
    ·rintro (h | ⟨q, hq | hq, h⟩)
     ·exact .inl (.inl h)
     ·have : q = p := by omega
      exact .inl (.inr (this ▸ h))
     ·exact .inr ⟨q, hq, h⟩
 obtain ⟨r, hr, hr1, hr2⟩ := key l.length 0 0 (by omega) (by decide)
 exact ⟨r, hr, hr1, fun u => by simpa using hr2 u⟩
theorem anc_iff (ps : List (List Int)) (v u : Nat) : Anc ps v u ↔ (u = v ∨ ∃ p : Nat, (p : Int) ∈ row ps v ∧ Anc ps p u) := by
 constructor
 ·intro h
  cases h with
  | refl => exact .inl rfl
  | step hp ha => exact .inr ⟨_, hp, ha⟩
 ·rintro (rfl | ⟨p, hp, ha⟩)
  ·exact Anc.refl _
  ·exact Anc.step hp ha
def Clo (ps : List (List Int)) (x : List Int) (n : Nat) : Prop := ∀ v, v < n → ∀ u, (wd x v).testBit u = true ↔ Anc ps v u
theorem rd_set (x : List Int) (i : Nat) (a : Int) (v : Nat) (h : i < x.length) : rd (x.set i a) (v : Int) = if v = i then a else rd x (v : Int) := by
 by_cases e : v = i
 ·subst e
  simp [rd, List.getD, List.getElem?_set_self h]
 ·simp [rd, List.getD, List.getElem?_set_ne (Ne.symm e), e]
theorem impl_closures_ev (ps : List (List Int)) (hd : Down ps) (hn : ps.length ≤ 60) (hr : ∀ r ∈ ps, r.length ≤ 1000000) : ∃ x, Ev (fun k => impl_closures.f k ps) x ∧ x.length = ps.length ∧ Words x ∧ Clo ps x ps.length := by
 simp only [impl_closures.f]
 have key : ∀ (n i : Nat) (x : List Int), i + n = ps.length → x.length = ps.length → Words x → Clo ps x i → ∃ y, Ev (fun k => impl_closures.l0 k x ps (ps.length : Int) (i : Int)) y ∧ y.length = ps.length ∧ Words y ∧ Clo ps y ps.length := by
  intro n
  induction n with
  | zero =>
   intro i x hi hl hw hc
   refine ⟨x, Ev.succ ?_, hl, hw, by rw [show ps.length = i by omega]; exact hc⟩
   simp only [impl_closures.l0]
   exact Ev.neg (by omega) (Ev.now _)
  | succ n ih =>
   intro i x hi hl hw hc
   have hrow := rdL_nat ps i (by omega)
   have hrg := row_get ps i (by omega)
   obtain ⟨s, hs, hs1, hs2⟩ := impl_unionOf_ev x hw (ps[i]'(by omega)) (by have := hr _ (List.getElem_mem (show i < ps.length by omega)); omega) (fun p hp => by
    have := hd i (by omega) p (by rw [hrg]; exact hp)
    omega)
   have h2 : 2 ^ i < 2 ^ 64 := two_pow_lt (by omega)
   have hor := or_lt hs1 h2
   obtain ⟨y, hy, hy1⟩ := ih (i + 1) (x.set i ((s ||| 2 ^ i : Nat) : Int)) (by omega) (by rw [List.length_set]; exact hl) (by
    intro v hv
    rw [List.length_set] at hv
    rw [rd_set x i _ v (by omega)]
    split
    ·omega
    ·exact hw v hv) (by
    intro v hv u
    unfold wd
    rw [rd_set x i _ v (by omega)]
    by_cases e : v = i
    ·subst e
     rw [if_pos rfl, Int.toNat_natCast, Nat.testBit_or, anc_iff]
     simp only [Bool.or_eq_true, Nat.testBit_two_pow, decide_eq_true_eq]
     rw [hs2 u]
     constructor
     ·rintro (⟨p, hp, h⟩ | h)
      ·rw [← hrg] at hp
       have := hd v (by omega) _ hp
       exact .inr ⟨p, hp, (hc p (by omega) u).1 h⟩
      ·exact .inl h.symm
     ·rintro (h | ⟨p, hp, h⟩)
      ·exact .inr h.symm
      ·have := hd v (by omega) _ hp
       rw [hrg] at hp
       exact .inl ⟨p, hp, (hc p (by omega) u).2 h⟩
    ·rw [if_neg e]
     exact hc v (by omega) u)
   refine ⟨y, Ev.succ ?_, hy1⟩
   simp only [impl_closures.l0]
   rw [hrow, up1 i (by omega), wrapu64 _ (by omega) (by omega), shl64_one i (by omega)]
   refine Ev.pos (by omega) (Ev.pos (by omega) (Ev.pos (by omega) (Ev.bnd hs (Ev.pos (by omega) (Ev.pos (by omega) ?_)))))
   rw [or64 _ _ hs1 h2, Int.toNat_natCast]
   exact hy
 obtain ⟨y, hy, hy1⟩ := key ps.length 0 (List.replicate ps.length 0) (by omega) (by simp) (fun v hv => by
  rw [List.length_replicate] at hv
  simp [rd, List.getD, hv]) (fun v hv => absurd hv (by omega))
 refine ⟨y, ?_, hy1⟩
 refine Ev.pos (by omega) (Ev.pos (by omega) ?_)
 rw [Int.toNat_natCast]
 exact hy
def setStep (s : Nat) (v : Int) : Nat := if 0 ≤ v ∧ v ≤ 63 then s ||| 2 ^ v.toNat else s
def setN (l : List Int) : Nat := l.foldl setStep 0
theorem setStep_lt {s : Nat} (v : Int) (h : s < 2 ^ 64) : setStep s v < 2 ^ 64 := by
 unfold setStep
 split
 ·exact or_lt h (two_pow_lt (by omega))
 ·exact h
theorem setFold_lt : ∀ (l : List Int) (s : Nat), s < 2 ^ 64 → l.foldl setStep s < 2 ^ 64
 | [], _, h => h
 | v :: l, _, h => setFold_lt l _ (setStep_lt v h)
theorem setN_lt (l : List Int) : setN l < 2 ^ 64 := setFold_lt l 0 (by decide)
theorem impl_setOf_l0 (l : List Int) (hl : l.length ≤ 140737488351232) : ∀ (n i s : Nat), i + n = l.length → s < 2 ^ 64 → Ev (fun k => impl_setOf.l0 k (s : Int) l (l.length : Int) (i : Int)) (((l.drop i).foldl setStep s : Nat) : Int) := by
 intro n
 induction n with
 | zero =>
  intro i s hi hs
  refine Ev.succ ?_
  simp only [impl_setOf.l0]
  have e : l.drop i = [] := List.drop_eq_nil_iff.2 (by omega)
  exact Ev.neg (by omega) (Ev.some_ (by rw [e]; rfl))
 | succ n ih =>
  intro i s hi hs
  refine Ev.succ ?_
  simp only [impl_setOf.l0]
  have hd := drop_rd l i (by omega)
  refine Ev.pos (by omega) (Ev.pos (by omega) (Ev.pos (by omega) (Ev.bnd0 (impl_inRange_eq _ _ _) ?_)))
  rw [show wrap64 ((i : Int) + 1) = ((i + 1 : Nat) : Int) from by rw [w64 (by omega) (by omega)]; omega, hd, List.foldl_cons]
  by_cases hv : 0 ≤ rd l (i : Int) ∧ rd l (i : Int) ≤ 63
  ·refine Ev.pos (by simpa using hv) ?_
   obtain ⟨v, hv'⟩ := Int.eq_ofNat_of_zero_le hv.1
   rw [hv'] at hv ⊢
   rw [wrapu64 _ (by omega) (by omega), shl64_one v (by omega), or64 _ _ hs (two_pow_lt (by omega))]
   refine Ev.pos (by omega) ?_
   have hst : setStep s (v : Int) = s ||| 2 ^ v := by rw [setStep, if_pos hv]; rfl
   rw [hst]
   exact ih (i + 1) _ (by omega) (or_lt hs (two_pow_lt (by omega)))
  ·refine Ev.neg (by simpa using hv) ?_
   have hst : setStep s (rd l (i : Int)) = s := by rw [setStep, if_neg hv]
   rw [hst]
   exact ih (i + 1) _ (by omega) hs
theorem impl_setOf_ev (l : List Int) (hl : l.length ≤ 140737488351232) : Ev (fun k => impl_setOf.f k l) (setN l : Int) := by
 simp only [impl_setOf.f]
 exact impl_setOf_l0 l hl l.length 0 0 (by omega) (by decide)
theorem setN_bit : ∀ (l : List Int) (s u : Nat), (l.foldl setStep s).testBit u = true ↔ (s.testBit u = true ∨ (u ≤ 63 ∧ (u : Int) ∈ l))
 | [], s, u => by simp
 | v :: l, s, u => by
  rw [List.foldl_cons, setN_bit l (setStep s v) u]
  unfold setStep
  split
  ·rename_i h
   obtain ⟨w, rfl⟩ := Int.eq_ofNat_of_zero_le h.1
   rw [Nat.testBit_or, Int.toNat_natCast, Nat.testBit_two_pow]
   simp only [Bool.or_eq_true, decide_eq_true_eq, List.mem_cons]
   constructor
   ·rintro ((h1 | h1) | ⟨h1, h2⟩)
    ·exact .inl h1
    ·exact .inr ⟨by omega, .inl (by omega)⟩
    ·exact .inr ⟨h1, .inr h2⟩
   ·rintro (h1 | ⟨h1, h2 | h2⟩)
    ·exact .inl (.inl h1)
    ·exact .inl (.inr (by omega))
    ·exact .inr ⟨h1, h2⟩
  ·rename_i h
   simp only [List.mem_cons]
   constructor
   ·rintro (h1 | ⟨h1, h2⟩)
    ·exact .inl h1
    ·exact .inr ⟨h1, .inr h2⟩
   ·rintro (h1 | ⟨h1, h2 | h2⟩)
    ·exact .inl h1
    ·exact absurd ⟨by omega, by omega⟩ h
    ·exact .inr ⟨h1, h2⟩
theorem rdW_nat (l : List S123) (i : Nat) (h : i < l.length) : rd_T123 l (i : Int) = l[i] := by
 simp [rd_T123, List.getD, List.getElem?_eq_getElem h]
theorem impl_isPlace_eq (a : Int) (n : Nat) (hn : n ≤ 140737488351232) : impl_isPlace.f a (n : Int) = some (decide (0 ≤ a ∧ a ≤ (n : Int) - 1)) := by
 simp only [impl_isPlace.f]
 rw [w64 (by omega) (by omega), impl_inRange_eq]
 rfl
theorem rows4 {ps : List (List Int)} (h : graphOk ps = true) : ∀ r ∈ ps, r.length ≤ 1000000 := by
 intro r hr
 simp only [graphOk, Bool.and_eq_true, decide_eq_true_eq] at h
 obtain ⟨i, hi, rfl⟩ := List.getElem_of_mem hr
 have := (gAll_get ps 0 h.2 i hi).1
 omega
def liveB (p : Nat → Bool) (ins : Int) (dels : List Int) : Bool := decide (0 ≤ ins) && p ins.toNat && dels.all fun d => !(decide (0 ≤ d) && p d.toNat)
open Classical in
noncomputable def pS (ps : List (List Int)) (S : List Int) (u : Nat) : Bool := decide (∃ s : Nat, (s : Int) ∈ S ∧ s < ps.length ∧ Anc ps s u)
open Classical in
theorem pS_iff (ps : List (List Int)) (S : List Int) (u : Nat) : pS ps S u = true ↔ ∃ s : Nat, (s : Int) ∈ S ∧ s < ps.length ∧ Anc ps s u := by
 unfold pS
 exact decide_eq_true_iff
theorem bool_ext {f g : Nat → Bool} (h : ∀ u, f u = true ↔ g u = true) : f = g := funext fun u => by rw [Bool.eq_iff_iff]; exact h u
theorem gB_out {x : List Bool} {u : Nat} (h : x.length ≤ u) : gB x u = false := by
 simp [gB, List.getD, List.getElem?_eq_none h]
theorem spec_l06Live_ev (s : ByteArray) (ins ord : Int) (dels : List Int) (x : List Bool) (hx : x.length ≤ 1000000) (hd : dels.length ≤ 140737488351232) : Ev (fun k => spec_l06Live.f k s ins ord dels x) (liveB (gB x) ins dels) := by
 have key : ∀ (n i : Nat), i + n = dels.length → Ev (fun k => spec_l06Live.l0 k x (i : Int) s ins ord dels) ((dels.drop i).all fun d => !(decide (0 ≤ d) && gB x d.toNat)) := by
  intro n
  induction n with
  | zero =>
   intro i hi
   refine Ev.succ ?_
   simp only [spec_l06Live.l0]
   rw [drop_end dels i (by omega)]
   exact Ev.neg (by omega) (Ev.some_ rfl)
  | succ n ih =>
   intro i hi
   have hrd : rd dels (i : Int) = dels[i]'(by omega) := rd_nat _ _ _
   refine Ev.succ ?_
   simp only [spec_l06Live.l0]
   rw [hrd, w64 (by omega) (by omega), up1 i (by omega), List.drop_eq_getElem_cons (show i < dels.length by omega), List.all_cons]
   refine Ev.pos (by omega) (Ev.pos (by omega) (Ev.bnd0 (spec_l01In_eq _ _ _) ?_))
   by_cases h : 0 ≤ dels[i]'(by omega) ∧ dels[i]'(by omega) ≤ (x.length : Int) - 1
   ·refine Ev.pos (by simpa using h) (Ev.pos (by omega) (Ev.pos (by omega) ?_))
    obtain ⟨d, hde⟩ := Int.eq_ofNat_of_zero_le h.1
    rw [hde, rdB_nat, Int.toNat_natCast]
    by_cases hb : gB x d = true
    ·exact Ev.pos hb (Ev.some_ (by rw [hb]; simp))
    ·refine Ev.neg hb ?_
     rw [Bool.eq_false_iff.2 hb, Bool.and_false, Bool.not_false, Bool.true_and]
     exact ih (i + 1) (by omega)
   ·refine Ev.neg (by simpa using h) ?_
    have e : (decide (0 ≤ dels[i]'(by omega)) && gB x (dels[i]'(by omega)).toNat) = false := by
     by_cases c : 0 ≤ dels[i]'(by omega)
     ·rw [gB_out (by omega), Bool.and_false]
     ·rw [decide_eq_false c, Bool.false_and]
    rw [e, Bool.not_false, Bool.true_and]
    exact ih (i + 1) (by omega)
 have k0 := key dels.length 0 (by omega)
 rw [List.drop_zero] at k0
 simp only [spec_l06Live.f]
 rw [w64 (by omega) (by omega)]
 refine Ev.bnd0 (spec_l01In_eq _ _ _) ?_
 unfold liveB
 by_cases h : 0 ≤ ins ∧ ins ≤ (x.length : Int) - 1
 ·refine Ev.pos (by simpa using h) (Ev.pos (by omega) (Ev.pos (by omega) (Ev.succ ?_)))
  simp only [spec_l06Live.j0]
  obtain ⟨d, hde⟩ := Int.eq_ofNat_of_zero_le h.1
  rw [hde, rdB_nat, Int.toNat_natCast, decide_eq_true (show (0 : Int) ≤ (d : Int) by omega), Bool.true_and]
  rw [hde] at k0
  by_cases hb : gB x d = true
  ·rw [hb, Bool.true_and]
   exact Ev.neg (by simp) k0
  ·rw [Bool.eq_false_iff.2 hb, Bool.false_and]
   exact Ev.pos (by simp) (Ev.now _)
 ·refine Ev.neg (by simpa using h) (Ev.succ ?_)
  simp only [spec_l06Live.j0]
  refine Ev.pos trivial (Ev.some_ ?_)
  by_cases c : 0 ≤ ins
  ·rw [gB_out (by omega), Bool.and_false, Bool.false_and]
  ·rw [decide_eq_false c, Bool.false_and, Bool.false_and]
theorem impl_isLive_ev (s : ByteArray) (ins ord : Int) (dels : List Int) (c : Nat) (hc : c < 2 ^ 64) (hd : dels.length ≤ 140737488351232) : Ev (fun k => impl_Body_isLive.f k s ins ord dels (c : Int)) (liveB c.testBit ins dels) := by
 have big : ∀ u, 63 < u → c.testBit u = false := fun u hu => Nat.testBit_lt_two_pow (Nat.lt_of_lt_of_le hc (Nat.pow_le_pow_right (by decide) (by omega)))
 simp only [impl_Body_isLive.f]
 refine Ev.bnd0 (impl_set_has_eq c hc _) ?_
 unfold liveB
 by_cases h : (decide (0 ≤ ins ∧ ins ≤ 63) && c.testBit ins.toNat) = true
 ·refine Ev.pos h (Ev.bnd (impl_setOf_ev dels hd) (Ev.some_ ?_))
  rw [and64 _ _ (setN_lt _) hc]
  have h' := h
  simp only [Bool.and_eq_true, decide_eq_true_eq] at h'
  rw [decide_eq_true h'.1.1, h'.2, Bool.true_and, Bool.true_and, Bool.eq_iff_iff, beq_iff_eq, List.all_eq_true]
  constructor
  ·intro h0 d hd0
   by_cases c0 : 0 ≤ d
   ·obtain ⟨u, rfl⟩ := Int.eq_ofNat_of_zero_le c0
    rw [Int.toNat_natCast]
    by_cases hu : u ≤ 63
    ·have hz : setN dels &&& c = 0 := by omega
     have hb : (setN dels &&& c).testBit u = false := by rw [hz, Nat.zero_testBit]
     have hsn : (setN dels).testBit u = true := (setN_bit dels 0 u).2 (.inr ⟨hu, hd0⟩)
     rw [Nat.testBit_and, hsn, Bool.true_and] at hb
     simp [hb]
    ·simp [big u (by omega)]
   ·simp [c0]
  ·intro h0
   have hz : setN dels &&& c = 0 := by
    apply Nat.eq_of_testBit_eq
    intro u
    rw [Nat.zero_testBit, Nat.testBit_and, Bool.and_eq_false_iff]
    by_cases hs : (setN dels).testBit u = true
    ·rcases (setN_bit dels 0 u).1 hs with h1 | ⟨h1, h2⟩
     ·simp at h1
     ·have := h0 _ h2
      simp only [Int.toNat_natCast, Bool.not_eq_true', Bool.and_eq_false_iff, decide_eq_false_iff_not] at this
      rcases this with h3 | h3
      ·omega
      ·exact .inr h3
    ·exact .inl (Bool.eq_false_iff.2 hs)
   omega
 ·refine Ev.neg h (Ev.some_ ?_)
  by_cases c0 : 0 ≤ ins
  ·have h1 : c.testBit ins.toNat = false := by
    by_cases hu : ins ≤ 63
    ·rw [decide_eq_true (show 0 ≤ ins ∧ ins ≤ 63 from ⟨c0, hu⟩), Bool.true_and] at h
     exact Bool.eq_false_iff.2 h
    ·exact big _ (by omega)
   rw [h1, Bool.and_false, Bool.false_and]
  ·rw [decide_eq_false c0, Bool.false_and, Bool.false_and]
def placesL (p : Nat → Bool) : List S123 → Nat → List Int
 | [], _ => []
 | b :: bs, i => (if liveB p b.f1 b.f3 = true then [(i : Int)] else []) ++ placesL p bs (i + 1)
theorem placesL_length (p : Nat → Bool) : ∀ (bs : List S123) (i : Nat), (placesL p bs i).length ≤ bs.length
 | [], _ => by simp [placesL]
 | b :: bs, i => by
  have := placesL_length p bs (i + 1)
  simp only [placesL, List.length_append, List.length_cons]
  split <;> simp <;> omega
theorem spec_l06Places_ev (ps : List (List Int)) (bs : List S123) (x : List Bool) (hb : bs.length ≤ 1048576) (hbx : ∀ b ∈ bs, b.f3.length ≤ 1048576) (hx : x.length ≤ 1000000) : Ev (fun k => spec_l06Places.f k ps bs x) (placesL (gB x) bs 0) := by
 have key : ∀ (n i : Nat) (acc : List Int), i + n = bs.length → acc.length ≤ i → Ev (fun k => spec_l06Places.l0 k x acc (i : Int) ps bs) (acc ++ placesL (gB x) (bs.drop i) i) := by
  intro n
  induction n with
  | zero =>
   intro i acc hi ha
   refine Ev.succ ?_
   simp only [spec_l06Places.l0]
   rw [drop_end bs i (by omega)]
   exact Ev.neg (by omega) (Ev.some_ (by simp [placesL]))
  | succ n ih =>
   intro i acc hi ha
   refine Ev.succ ?_
   simp only [spec_l06Places.l0]
   have hm := hbx _ (List.getElem_mem (show i < bs.length by omega))
   rw [rdW_nat bs i (by omega), up1 i (by omega), List.drop_eq_getElem_cons (show i < bs.length by omega)]
   refine Ev.pos (by omega) (Ev.pos (by omega) (Ev.bnd (spec_l06Live_ev _ _ _ _ x hx (by omega)) ?_))
   simp only [placesL]
   by_cases c : liveB (gB x) (bs[i]'(by omega)).f1 (bs[i]'(by omega)).f3 = true
   ·rw [if_pos c, ← List.append_assoc]
    exact Ev.pos c (Ev.pos (by omega) (ih (i + 1) _ (by omega) (by simp; omega)))
   ·rw [if_neg c, List.nil_append]
    exact Ev.neg c (ih (i + 1) _ (by omega) (by omega))
 simp only [spec_l06Places.f]
 have := key bs.length 0 [] (by omega) (by simp)
 simpa using this
theorem impl_liveIn_ev (ps : List (List Int)) (bs : List S123) (c : Nat) (hc : c < 2 ^ 64) (hb : bs.length ≤ 1048576) (hbx : ∀ b ∈ bs, b.f3.length ≤ 1048576) : Ev (fun k => impl_Weave_liveIn.f k ps bs (c : Int)) (placesL c.testBit bs 0) := by
 have key : ∀ (n i : Nat) (acc : List Int), i + n = bs.length → acc.length ≤ i → Ev (fun k => impl_Weave_liveIn.l0 k (c : Int) acc bs (bs.length : Int) (i : Int)) (acc ++ placesL c.testBit (bs.drop i) i) := by
  intro n
  induction n with
  | zero =>
   intro i acc hi ha
   refine Ev.succ ?_
   simp only [impl_Weave_liveIn.l0]
   rw [drop_end bs i (by omega)]
   exact Ev.neg (by omega) (Ev.some_ (by simp [placesL]))
  | succ n ih =>
   intro i acc hi ha
   refine Ev.succ ?_
   simp only [impl_Weave_liveIn.l0]
   have hm := hbx _ (List.getElem_mem (show i < bs.length by omega))
   rw [rdW_nat bs i (by omega), up1 i (by omega), List.drop_eq_getElem_cons (show i < bs.length by omega)]
   refine Ev.pos (by omega) (Ev.pos (by omega) (Ev.pos (by omega) (Ev.bnd (impl_isLive_ev _ _ _ _ c hc (by omega)) ?_)))
   simp only [placesL]
   by_cases c1 : liveB c.testBit (bs[i]'(by omega)).f1 (bs[i]'(by omega)).f3 = true
   ·rw [if_pos c1, ← List.append_assoc]
    exact Ev.pos c1 (Ev.pos (by omega) (ih (i + 1) _ (by omega) (by simp; omega)))
   ·rw [if_neg c1, List.nil_append]
    exact Ev.neg c1 (ih (i + 1) _ (by omega) (by omega))
 simp only [impl_Weave_liveIn.f]
 have := key bs.length 0 [] (by omega) (by simp)
 simpa using this
noncomputable def bodyOk (ps : List (List Int)) (born : List Int) (b : S123) : Bool :=
 lineOk b.f0 && decide (0 ≤ b.f1 ∧ b.f1 ≤ (ps.length : Int) - 1) && decide (b.f2 = rd born b.f1) && asc (ps.length : Int) none b.f3 && b.f3.all fun d => liveB (pS ps (row ps d.toNat)) b.f1 b.f3
def bornOf (born : List Int) (b : S123) : List Int := born.set b.f1.toNat (rd born b.f1 + 1)
noncomputable def endOk (ps : List (List Int)) (bs : List S123) (born : List Int) : Nat → Nat → Bool
 | 0, _ => true
 | n + 1, v => decide (rd born (v : Int) ≤ 80) && decide ((placesL (pS ps [(v : Int)]) bs 0).length ≤ 80) && endOk ps bs born n (v + 1)
noncomputable def bodiesGo (ps : List (List Int)) (all : List S123) : List S123 → List Int → Bool
 | [], born => endOk ps all born ps.length 0
 | b :: bs, born => bodyOk ps born b && bodiesGo ps all bs (bornOf born b)
noncomputable def weaveOk (ps : List (List Int)) (bs : List S123) : Bool := graphOk ps && decide (bs.length ≤ 300) && bodiesGo ps bs bs (List.replicate ps.length 0)
def Born (born : List Int) (i : Nat) : Prop := ∀ v : Nat, v < born.length → 0 ≤ rd born (v : Int) ∧ rd born (v : Int) ≤ (i : Int)
theorem Born.step {born : List Int} {i : Nat} (h : Born born i) (b : S123) (h0 : 0 ≤ b.f1) (h1 : b.f1 < born.length) : Born (bornOf born b) (i + 1) := by
 obtain ⟨u, hu⟩ := Int.eq_ofNat_of_zero_le h0
 have hul : u < born.length := by omega
 intro v hv
 unfold bornOf at hv ⊢
 rw [List.length_set] at hv
 rw [hu, Int.toNat_natCast, rd_set born u _ v hul]
 have a := h u hul
 have b := h v hv
 split <;> omega
theorem spec_bornOf (born : List Int) (b : S123) : (bornOf born b).length = born.length := by unfold bornOf; rw [List.length_set]
def ProperL (ps : List (List Int)) (x : List (List Bool)) (n : Nat) : Prop := x.length = n ∧ ∀ (i : Nat) (h : i < x.length), (x[i]).length = ps.length ∧ gB x[i] = pS ps (row ps i)
theorem rdP_nat (l : List (List Bool)) (i : Nat) (h : i < l.length) : rd_L8 l (i : Int) = l[i] := by
 simp [rd_L8, List.getD, List.getElem?_eq_getElem h]
theorem go_bad (ps : List (List Int)) (bs : List S123) {b : S123} {l : List S123} {born : List Int} (h : bodyOk ps born b = false) : bodiesGo ps bs (b :: l) born = false := by
 rw [bodiesGo, h, Bool.false_and]
theorem born0 (n : Nat) : Born (List.replicate n 0) 0 := by
 intro v hv
 rw [rd_nat _ v hv]
 simp
section
variable (ps : List (List Int)) (bs : List S123) (hg : graphOk ps = true) (hf : Fine ps bs) (h3 : bs.length ≤ 300)
include hg hf h3
theorem spec_closure_ev (v : Nat) : ∃ r, Ev (fun k => spec_l06Closure.f k ps bs (v : Int)) r ∧ r.length = ps.length ∧ gB r = pS ps [(v : Int)] := by
 have _ := hf
 have _ := h3
 have hd := graphOk_down hg
 have hn := graphOk_len hg
 obtain ⟨r, hr, hrl, hru⟩ := spec_l05Set_ev ps [(v : Int)] hd (by omega) (by simp) (rows4 hg)
 refine ⟨r, ?_, hrl, bool_ext fun u => (hru u).trans (pS_iff ps _ u).symm⟩
 simp only [spec_l06Closure.f]
 exact Ev.bnd hr (Ev.now _)
theorem spec_end (born : List Int) (hb : born.length = ps.length) : ∀ (m v : Nat), v + m = ps.length → Ev (fun k => spec_WeaveOk.l3 k (ps.length : Int) born (v : Int) ps bs) (endOk ps bs born m v) := by
 have hn := graphOk_len hg
 intro m
 induction m with
 | zero =>
  intro v hv
  refine Ev.succ ?_
  simp only [spec_WeaveOk.l3]
  exact Ev.neg (by omega) (Ev.some_ rfl)
 | succ m ih =>
  intro v hv
  refine Ev.succ ?_
  simp only [spec_WeaveOk.l3]
  rw [up1 v (by omega), endOk]
  refine Ev.pos (by omega) (Ev.pos (by omega) (Ev.pos (by omega) ?_))
  by_cases c : rd born (v : Int) > 80
  ·exact Ev.pos c (Ev.some_ (by rw [decide_eq_false (by omega)]; simp))
  ·refine Ev.neg c ?_
   obtain ⟨r, hr, hrl, hre⟩ := spec_closure_ev ps bs hg hf h3 v
   refine Ev.bnd hr (Ev.bnd (spec_l06Places_ev ps bs r hf.2.2.1 (fun b hb => (hf.2.2.2 b hb).2) (by omega)) ?_)
   rw [hre, decide_eq_true (show rd born (v : Int) ≤ 80 by omega), Bool.true_and]
   by_cases c2 : ((placesL (pS ps [(v : Int)]) bs 0).length : Int) > 80
   ·exact Ev.pos c2 (Ev.some_ (by rw [decide_eq_false (by omega)]; simp))
   ·rw [decide_eq_true (by omega), Bool.true_and]
    exact Ev.neg c2 (ih (v + 1) (by omega))
theorem spec_dels (P : List (List Bool)) (hP : ProperL ps P ps.length) (born : List Int) (i : Nat) (b : S123) (hb : ∀ d ∈ b.f3, 0 ≤ d ∧ d ≤ (ps.length : Int) - 1) (hl : b.f3.length ≤ 1048576) (hi : i < 1000) (R : Bool) (hR : Ev (fun k => spec_WeaveOk.l1 k (ps.length : Int) born P ((i + 1 : Nat) : Int) ps bs) R) :
  ∀ (m j : Nat), j + m = b.f3.length → Ev (fun k => spec_WeaveOk.l2 k (ps.length : Int) born P (i : Int) (j : Int) ps bs b.f0 b.f1 b.f2 b.f3) (((b.f3.drop j).all fun d => liveB (pS ps (row ps d.toNat)) b.f1 b.f3) && R) := by
 have _ := hf
 have _ := h3
 have hn := graphOk_len hg
 intro m
 induction m with
 | zero =>
  intro j hj
  refine Ev.succ ?_
  simp only [spec_WeaveOk.l2]
  rw [drop_end _ j (by omega), up1 i (by omega)]
  refine Ev.neg (by omega) ?_
  rw [List.all_nil, Bool.true_and]
  exact hR
 | succ m ih =>
  intro j hj
  have hrd : rd b.f3 (j : Int) = (b.f3)[j]'(by omega) := rd_nat _ _ _
  have hd := hb _ (List.getElem_mem (show j < b.f3.length by omega))
  obtain ⟨u, hu⟩ := Int.eq_ofNat_of_zero_le hd.1
  rw [hu] at hd
  have hul : u < P.length := by rw [hP.1]; omega
  have hPu := hP.2 u hul
  refine Ev.succ ?_
  simp only [spec_WeaveOk.l2]
  rw [hrd, hu, rdP_nat P u hul, up1 j (by omega), List.drop_eq_getElem_cons (show j < b.f3.length by omega), List.all_cons, hu, Int.toNat_natCast]
  refine Ev.pos (by omega) (Ev.pos (by omega) (Ev.pos (by omega) (Ev.pos (by omega) (Ev.bnd (spec_l06Live_ev _ _ _ _ _ (by omega) (by omega)) ?_))))
  rw [hPu.2]
  by_cases c : liveB (pS ps (row ps u)) b.f1 b.f3 = true
  ·rw [c, Bool.true_and]
   exact Ev.pos (by first | rfl | trivial) (ih (j + 1) (by omega))
  ·rw [Bool.eq_false_iff.2 c, Bool.false_and, Bool.false_and]
   exact Ev.neg (by simp) (Ev.now _)
theorem spec_bodies (P : List (List Bool)) (hP : ProperL ps P ps.length) : ∀ (m i : Nat) (born : List Int), i + m = bs.length → born.length = ps.length → Born born i → Ev (fun k => spec_WeaveOk.l1 k (ps.length : Int) born P (i : Int) ps bs) (bodiesGo ps bs (bs.drop i) born) := by
 have hn := graphOk_len hg
 intro m
 induction m with
 | zero =>
  intro i born hi hl hb
  refine Ev.succ ?_
  simp only [spec_WeaveOk.l1]
  rw [drop_end bs i (by omega)]
  exact Ev.neg (by omega) (spec_end ps bs hg hf h3 born hl ps.length 0 (by omega))
 | succ m ih =>
  intro i born hi hl hb
  have hm := hf.2.2.2 _ (List.getElem_mem (show i < bs.length by omega))
  refine Ev.succ ?_
  simp only [spec_WeaveOk.l1]
  rw [rdW_nat bs i (by omega), List.drop_eq_getElem_cons (show i < bs.length by omega), w64 (show -9223372036854775808 ≤ (ps.length : Int) - 1 by omega) (by omega)]
  generalize hbe : bs[i]'(by omega) = b at hm ⊢
  refine Ev.pos (by omega) (Ev.pos (by omega) (Ev.bnd (spec_LineOk_ev b.f0 (by omega)) ?_))
  by_cases c1 : lineOk b.f0 = true
  ·refine Ev.pos c1 (Ev.bnd0 (spec_l01In_eq _ _ _) ?_)
   by_cases c2 : 0 ≤ b.f1 ∧ b.f1 ≤ (ps.length : Int) - 1
   ·refine Ev.pos (by simpa using c2) (Ev.pos c2.1 (Ev.pos (by omega) ?_))
    by_cases c3 : b.f2 = rd born b.f1
    ·refine Ev.pos c3 (Ev.bnd (spec_l05Rise_ev b.f3 (ps.length : Int) (by omega) (by omega) (by omega)) (Ev.succ ?_))
     simp only [spec_WeaveOk.j3]
     by_cases c4 : asc (ps.length : Int) none b.f3 = true
     ·refine Ev.neg (by simp [c4]) (Ev.pos c2.1 (Ev.pos (by omega) ?_))
      obtain ⟨u, hu⟩ := Int.eq_ofNat_of_zero_le c2.1
      have hbu := hb u (by omega)
      rw [← hu] at hbu
      rw [w64 (by omega) (by omega)]
      have key := spec_dels ps bs hg hf h3 P hP (bornOf born b) i b (asc_bound _ _ _ c4) hm.2 (by omega) _ (ih (i + 1) (bornOf born b) (by omega) (by rw [spec_bornOf]; exact hl) (hb.step b c2.1 (by omega))) b.f3.length 0 (by omega)
      refine Ev_eq key ?_
      rw [bodiesGo, bodyOk, c1, decide_eq_true c2, decide_eq_true c3, c4, List.drop_zero]
      simp
     ·exact Ev.pos (by simp [Bool.eq_false_iff.2 c4]) (Ev.some_ (go_bad ps bs (by simp [bodyOk, Bool.eq_false_iff.2 c4])).symm)
    ·refine Ev.neg c3 (Ev.succ ?_)
     simp only [spec_WeaveOk.j3]
     exact Ev.pos trivial (Ev.some_ (go_bad ps bs (by simp [bodyOk, c3])).symm)
   ·refine Ev.neg (by simpa using c2) (Ev.succ ?_)
    simp only [spec_WeaveOk.j3]
    exact Ev.pos trivial (Ev.some_ (go_bad ps bs (by rw [bodyOk, decide_eq_false c2]; simp)).symm)
  ·refine Ev.neg c1 (Ev.succ ?_)
   simp only [spec_WeaveOk.j3]
   exact Ev.pos trivial (Ev.some_ (go_bad ps bs (by simp [bodyOk, Bool.eq_false_iff.2 c1])).symm)
theorem spec_proper : ∀ (m v : Nat) (P : List (List Bool)), v + m = ps.length → ProperL ps P v → Ev (fun k => spec_WeaveOk.l0 k (ps.length : Int) (List.replicate ps.length 0) P (v : Int) ps bs) (bodiesGo ps bs bs (List.replicate ps.length 0)) := by
 have hn := graphOk_len hg
 have hd := graphOk_down hg
 intro m
 induction m with
 | zero =>
  intro v P hv hP
  refine Ev.succ ?_
  simp only [spec_WeaveOk.l0]
  refine Ev.neg (by omega) ?_
  have := spec_bodies ps bs hg hf h3 P (by have e : v = ps.length := (by omega); exact e ▸ hP) bs.length 0 (List.replicate ps.length 0) (by omega) (by simp) (born0 _)
  simpa using this
 | succ m ih =>
  intro v P hv hP
  have h4 := rows4 hg _ (List.getElem_mem (show v < ps.length by omega))
  refine Ev.succ ?_
  simp only [spec_WeaveOk.l0]
  obtain ⟨r, hr, hrl, hru⟩ := spec_l05Set_ev ps (ps[v]'(by omega)) hd (by omega) (by omega) (rows4 hg)
  rw [rdL_nat ps v (by omega), up1 v (by omega)]
  have hPl := hP.1
  refine Ev.pos (by omega) (Ev.pos (by omega) (Ev.pos (by omega) (Ev.bnd hr (Ev.pos (by omega) (ih (v + 1) (P ++ [r]) (by omega) ⟨by simp [hPl], fun i h => ?_⟩)))))
  by_cases c : i < P.length
  ·rw [List.getElem_append_left c]
   exact hP.2 i c
  ·have e : i = v := by simp at h; omega
   subst e
   have eg : (P ++ [r])[i] = r := by
    rw [List.getElem_append_right (by omega)]
    simp [hPl]
   rw [eg]
   refine ⟨hrl, bool_ext fun u => ?_⟩
   rw [hru u, pS_iff, row_get ps i (by omega)]
end
theorem spec_WeaveOk_ev (ps : List (List Int)) (bs : List S123) (hf : Fine ps bs) : Ev (fun k => spec_WeaveOk.f k ps bs) (weaveOk ps bs) := by
 have hf1 := hf.1
 simp only [spec_WeaveOk.f]
 unfold weaveOk
 refine Ev.bnd (spec_GraphOk_ev ps (by omega) (fun x hx => by have := hf.2.1 x hx; omega)) ?_
 by_cases hg : graphOk ps = true
 ·refine Ev.pos hg (Ev.succ ?_)
  simp only [spec_WeaveOk.j0]
  by_cases h3 : bs.length ≤ 300
  ·refine Ev.neg (by simp; omega) (Ev.pos (by omega) (Ev.pos (by omega) ?_))
   rw [Int.toNat_natCast, hg, decide_eq_true h3, Bool.true_and, Bool.true_and]
   exact spec_proper ps bs hg hf h3 ps.length 0 [] (by omega) ⟨rfl, fun i h => absurd h (by simp)⟩
  ·exact Ev.pos (by simp; omega) (Ev.some_ (by rw [decide_eq_false h3]; simp))
 ·refine Ev.neg hg (Ev.succ ?_)
  simp only [spec_WeaveOk.j0]
  exact Ev.pos trivial (Ev.some_ (by rw [Bool.eq_false_iff.2 hg]; simp))
section
variable (ps : List (List Int)) (bs : List S123) (hg : graphOk ps = true) (hf : Fine ps bs) (h3 : bs.length ≤ 300) (x : List Int) (hxl : x.length = ps.length) (hw : Words x) (hc : Clo ps x ps.length)
include hg hf h3 hxl hw hc
theorem clo_bits (v : Nat) (hv : v < ps.length) : (wd x v).testBit = pS ps [(v : Int)] := by
 have _ := hg
 have _ := hf
 have _ := h3
 have _ := hxl
 have _ := hw
 refine bool_ext fun u => ?_
 rw [hc v hv u, pS_iff]
 constructor
 ·intro h; exact ⟨v, by simp, hv, h⟩
 ·rintro ⟨s, hs, _, ha⟩
  have : s = v := by have := List.mem_singleton.1 hs; omega
  exact this ▸ ha
theorem union_bits (l : List Int) (hl : l.length ≤ 140737488351232) (hp : ∀ p ∈ l, 0 ≤ p ∧ p < (ps.length : Int)) : ∃ s : Nat, Ev (fun k => impl_unionOf.f k x l) (s : Int) ∧ s < 2 ^ 64 ∧ s.testBit = pS ps l := by
 have _ := hg
 have _ := hf
 have _ := h3
 obtain ⟨s, hs, hs1, hs2⟩ := impl_unionOf_ev x hw l hl (fun p h => by have := hp p h; omega)
 refine ⟨s, hs, hs1, bool_ext fun u => ?_⟩
 rw [hs2 u, pS_iff]
 constructor
 ·rintro ⟨p, hp1, hp2⟩
  have := hp _ hp1
  exact ⟨p, hp1, by omega, (hc p (by omega) u).1 hp2⟩
 ·rintro ⟨p, hp1, hp2, ha⟩
  exact ⟨p, hp1, (hc p hp2 u).2 ha⟩
theorem impl_end (born : List Int) (hb : born.length = ps.length) : ∀ (m v : Nat), v + m = ps.length → Ev (fun k => impl_bodiesOk.l2 k born x (x.length : Int) (v : Int) ps bs) (endOk ps bs born m v) := by
 have hn := graphOk_len hg
 intro m
 induction m with
 | zero =>
  intro v hv
  refine Ev.succ ?_
  simp only [impl_bodiesOk.l2]
  exact Ev.neg (by omega) (Ev.some_ rfl)
 | succ m ih =>
  intro v hv
  refine Ev.succ ?_
  simp only [impl_bodiesOk.l2]
  rw [up1 v (by omega), endOk, wd_cast hw (show v < x.length by omega)]
  refine Ev.pos (by omega) (Ev.pos (by omega) (Ev.pos (by omega) (Ev.pos (by omega) ?_)))
  by_cases c : rd born (v : Int) > 80
  ·exact Ev.pos c (Ev.some_ (by rw [decide_eq_false (by omega)]; simp))
  ·refine Ev.neg c (Ev.bnd (impl_liveIn_ev ps bs (wd x v) (wd_lt hw (by omega)) hf.2.2.1 (fun b hb => (hf.2.2.2 b hb).2)) ?_)
   rw [clo_bits ps bs hg hf h3 x hxl hw hc v (by omega), decide_eq_true (show rd born (v : Int) ≤ 80 by omega), Bool.true_and]
   by_cases c2 : ((placesL (pS ps [(v : Int)]) bs 0).length : Int) > 80
   ·exact Ev.pos c2 (Ev.some_ (by rw [decide_eq_false (by omega)]; simp))
   ·rw [decide_eq_true (by omega), Bool.true_and]
    exact Ev.neg c2 (ih (v + 1) (by omega))
theorem impl_dels (born : List Int) (i : Nat) (b : S123) (hb : ∀ d ∈ b.f3, 0 ≤ d ∧ d ≤ (ps.length : Int) - 1) (hl : b.f3.length ≤ 1048576) (hi : i < 1000) (R : Bool) (hR : Ev (fun k => impl_bodiesOk.l0 k x born bs (bs.length : Int) ((i + 1 : Nat) : Int) ps bs) R) :
  ∀ (m j : Nat), j + m = b.f3.length → Ev (fun k => impl_bodiesOk.l1 k x born bs (bs.length : Int) (i : Int) b.f3 (b.f3.length : Int) (j : Int) ps bs b.f0 b.f1 b.f2 b.f3) (((b.f3.drop j).all fun d => liveB (pS ps (row ps d.toNat)) b.f1 b.f3) && R) := by
 have hn := graphOk_len hg
 have hdn := graphOk_down hg
 intro m
 induction m with
 | zero =>
  intro j hj
  refine Ev.succ ?_
  simp only [impl_bodiesOk.l1]
  rw [drop_end _ j (by omega), up1 i (by omega)]
  refine Ev.neg (by omega) ?_
  rw [List.all_nil, Bool.true_and]
  exact hR
 | succ m ih =>
  intro j hj
  have hrd : rd b.f3 (j : Int) = (b.f3)[j]'(by omega) := rd_nat _ _ _
  have hd := hb _ (List.getElem_mem (show j < b.f3.length by omega))
  obtain ⟨u, hu⟩ := Int.eq_ofNat_of_zero_le hd.1
  rw [hu] at hd
  have hul : u < ps.length := by omega
  have h4 := rows4 hg _ (List.getElem_mem hul)
  obtain ⟨s, hs, hs1, hs2⟩ := union_bits ps bs hg hf h3 x hxl hw hc (ps[u]'hul) (by omega) (fun p hp => by have := hdn u hul p (by rw [row_get ps u hul]; exact hp); omega)
  refine Ev.succ ?_
  simp only [impl_bodiesOk.l1]
  rw [hrd, hu, rdL_nat ps u hul, up1 j (by omega), List.drop_eq_getElem_cons (show j < b.f3.length by omega), List.all_cons, hu, Int.toNat_natCast]
  refine Ev.pos (by omega) (Ev.pos (by omega) (Ev.pos (by omega) (Ev.pos (by omega) (Ev.pos (by omega) (Ev.bnd hs (Ev.bnd (impl_isLive_ev _ _ _ _ s hs1 (by omega)) ?_))))))
  rw [hs2, ← row_get ps u hul]
  by_cases c : liveB (pS ps (row ps u)) b.f1 b.f3 = true
  ·rw [c, Bool.true_and]
   exact Ev.pos (by first | rfl | trivial) (ih (j + 1) (by omega))
  ·rw [Bool.eq_false_iff.2 c, Bool.false_and, Bool.false_and]
   exact Ev.neg (by simp) (Ev.now _)
theorem impl_bodies : ∀ (m i : Nat) (born : List Int), i + m = bs.length → born.length = ps.length → Born born i → Ev (fun k => impl_bodiesOk.l0 k x born bs (bs.length : Int) (i : Int) ps bs) (bodiesGo ps bs (bs.drop i) born) := by
 have hn := graphOk_len hg
 intro m
 induction m with
 | zero =>
  intro i born hi hl hb
  refine Ev.succ ?_
  simp only [impl_bodiesOk.l0]
  rw [drop_end bs i (by omega)]
  exact Ev.neg (by omega) (impl_end ps bs hg hf h3 x hxl hw hc born hl ps.length 0 (by omega))
 | succ m ih =>
  intro i born hi hl hb
  have hm := hf.2.2.2 _ (List.getElem_mem (show i < bs.length by omega))
  have hbad : ∀ {b : S123} {l : List S123}, bodyOk ps born b = false → bodiesGo ps bs (b :: l) born = false := fun h => by rw [bodiesGo, h, Bool.false_and]
  refine Ev.succ ?_
  simp only [impl_bodiesOk.l0]
  rw [rdW_nat bs i (by omega), List.drop_eq_getElem_cons (show i < bs.length by omega)]
  generalize hbe : bs[i]'(by omega) = b at hm ⊢
  refine Ev.pos (by omega) (Ev.pos (by omega) (Ev.pos (by omega) (Ev.bnd0 (impl_LineOk_eq b.f0) ?_)))
  by_cases c1 : lineOk b.f0 = true
  ·refine Ev.pos c1 (Ev.bnd0 (impl_isPlace_eq _ x.length (by omega)) ?_)
   rw [hxl]
   by_cases c2 : 0 ≤ b.f1 ∧ b.f1 ≤ (ps.length : Int) - 1
   ·refine Ev.pos (by simpa using c2) (Ev.pos c2.1 (Ev.pos (by omega) ?_))
    by_cases c3 : b.f2 = rd born b.f1
    ·refine Ev.pos c3 (Ev.bnd (impl_ascends_ev b.f3 (ps.length : Int) (by omega) (by omega) (by omega)) (Ev.succ ?_))
     simp only [impl_bodiesOk.j1]
     by_cases c4 : asc (ps.length : Int) none b.f3 = true
     ·refine Ev.neg (by simp [c4]) (Ev.pos c2.1 (Ev.pos (by omega) ?_))
      obtain ⟨u, hu⟩ := Int.eq_ofNat_of_zero_le c2.1
      have hbu := hb u (by omega)
      rw [← hu] at hbu
      rw [w64 (by omega) (by omega)]
      have key := impl_dels ps bs hg hf h3 x hxl hw hc (bornOf born b) i b (asc_bound _ _ _ c4) hm.2 (by omega) _ (ih (i + 1) (bornOf born b) (by omega) (by rw [spec_bornOf]; exact hl) (hb.step b c2.1 (by omega))) b.f3.length 0 (by omega)
      refine Ev_eq key ?_
      rw [bodiesGo, bodyOk, c1, decide_eq_true c2, decide_eq_true c3, c4, List.drop_zero]
      simp
     ·exact Ev.pos (by simp [Bool.eq_false_iff.2 c4]) (Ev.some_ (hbad (by simp [bodyOk, Bool.eq_false_iff.2 c4])).symm)
    ·refine Ev.neg c3 (Ev.succ ?_)
     simp only [impl_bodiesOk.j1]
     exact Ev.pos trivial (Ev.some_ (hbad (by simp [bodyOk, c3])).symm)
   ·refine Ev.neg (by simpa using c2) (Ev.succ ?_)
    simp only [impl_bodiesOk.j1]
    exact Ev.pos trivial (Ev.some_ (hbad (by rw [bodyOk, decide_eq_false c2]; simp)).symm)
  ·refine Ev.neg c1 (Ev.succ ?_)
   simp only [impl_bodiesOk.j1]
   exact Ev.pos trivial (Ev.some_ (hbad (by simp [bodyOk, Bool.eq_false_iff.2 c1])).symm)
end
theorem impl_WeaveOk_ev (ps : List (List Int)) (bs : List S123) (hf : Fine ps bs) : Ev (fun k => impl_WeaveOk.f k ps bs) (weaveOk ps bs) := by
 have hf1 := hf.1
 simp only [impl_WeaveOk.f]
 unfold weaveOk
 by_cases h3 : bs.length ≤ 300
 ·refine Ev.pos (by omega) (Ev.bnd (impl_GraphOk_ev ps (by omega) (fun x hx => by have := hf.2.1 x hx; omega)) ?_)
  by_cases hg : graphOk ps = true
  ·refine Ev.pos hg ?_
   have hd := graphOk_down hg
   have hn := graphOk_len hg
   obtain ⟨x, hx1, hxl, hw, hc⟩ := impl_closures_ev ps hd (by omega) (rows4 hg)
   refine Ev.bnd hx1 (Ev.bnd ?_ (Ev.now _))
   simp only [impl_bodiesOk.f]
   refine Ev.pos (by omega) (Ev.pos (by omega) ?_)
   rw [Int.toNat_natCast, hxl, hg, decide_eq_true h3, Bool.true_and, Bool.true_and]
   have := impl_bodies ps bs hg hf h3 x hxl hw hc bs.length 0 (List.replicate ps.length 0) (by omega) (by simp) (born0 _)
   simpa using this
  ·exact Ev.neg hg (Ev.some_ (by rw [Bool.eq_false_iff.2 hg]; simp))
 ·exact Ev.neg (by omega) (Ev.some_ (by rw [decide_eq_false h3]; simp))
theorem weaveOk_graph {ps : List (List Int)} {bs : List S123} (h : weaveOk ps bs = true) : graphOk ps = true ∧ bs.length ≤ 300 := by
 simp only [weaveOk, Bool.and_eq_true, decide_eq_true_eq] at h
 exact h.1
def isV (ps : List (List Int)) (v : Int) : Bool := decide (0 ≤ v ∧ v ≤ (ps.length : Int) - 1)
theorem placesL_mem (p : Nat → Bool) : ∀ (bs : List S123) (i : Nat) (x : Int), x ∈ placesL p bs i → (i : Int) ≤ x ∧ x < (i : Int) + bs.length
 | [], i, x, h => by simp [placesL] at h
 | b :: bs, i, x, h => by
  simp only [placesL, List.mem_append] at h
  rcases h with h | h
  ·split at h
   ·simp at h
    subst h
    simp only [List.length_cons]
    omega
   ·simp at h
  ·have := placesL_mem p bs (i + 1) x h
   simp only [List.length_cons]
   omega
theorem placesL_in (p : Nat → Bool) (bs : List S123) (j : Nat) (hj : j < (placesL p bs 0).length) : ∃ m : Nat, rd (placesL p bs 0) (j : Int) = (m : Int) ∧ (placesL p bs 0)[j] = (m : Int) ∧ m < bs.length := by
 have h := placesL_mem p bs 0 _ (List.getElem_mem hj)
 obtain ⟨m, hm⟩ := Int.eq_ofNat_of_zero_le (show 0 ≤ (placesL p bs 0)[j] by omega)
 refine ⟨m, ?_, hm, by omega⟩
 rw [← hm]
 simp [rd, List.getD, List.getElem?_eq_getElem hj]
def linesL (bs : List S123) (L : List Int) : List ByteArray := L.map fun x => (rd_T123 bs x).f0
theorem spec_l06Lines_ev (ps : List (List Int)) (bs : List S123) (L : List Int) (hl : L.length ≤ 1048576) (hL : ∀ j, ∀ h : j < L.length, ∃ m : Nat, rd L (j : Int) = (m : Int) ∧ L[j] = (m : Int) ∧ m < bs.length) : Ev (fun k => spec_l06Lines.f k ps bs L) (linesL bs L) := by
 have key : ∀ (n i : Nat) (acc : List ByteArray), i + n = L.length → acc.length ≤ i → Ev (fun k => spec_l06Lines.l0 k L acc (i : Int) ps bs) (acc ++ linesL bs (L.drop i)) := by
  intro n
  induction n with
  | zero =>
   intro i acc hi ha
   refine Ev.succ ?_
   simp only [spec_l06Lines.l0]
   rw [drop_end L i (by omega)]
   exact Ev.neg (by omega) (Ev.some_ (by simp [linesL]))
  | succ n ih =>
   intro i acc hi ha
   obtain ⟨m, h1, h2, h4⟩ := hL i (by omega)
   refine Ev.succ ?_
   simp only [spec_l06Lines.l0]
   rw [h1, up1 i (by omega), List.drop_eq_getElem_cons (show i < L.length by omega), h2]
   refine Ev.pos (by omega) (Ev.pos (by omega) (Ev.pos (by omega) (Ev.pos (by omega) (Ev.pos (by omega) ?_))))
   exact Ev_eq (ih (i + 1) _ (by omega) (by simp; omega)) (by simp [linesL])
 simp only [spec_l06Lines.f]
 exact Ev_eq (key L.length 0 [] (by omega) (by simp)) (by simp)
theorem impl_linesAt_ev (ps : List (List Int)) (bs : List S123) (L : List Int) (hl : L.length ≤ 1048576) (hL : ∀ j, ∀ h : j < L.length, ∃ m : Nat, rd L (j : Int) = (m : Int) ∧ L[j] = (m : Int) ∧ m < bs.length) : Ev (fun k => impl_Weave_linesAt.f k ps bs L) (linesL bs L) := by
 have key : ∀ (n i : Nat) (acc : List ByteArray), i + n = L.length → acc.length ≤ i → Ev (fun k => impl_Weave_linesAt.l0 k acc L (L.length : Int) (i : Int) ps bs) (acc ++ linesL bs (L.drop i)) := by
  intro n
  induction n with
  | zero =>
   intro i acc hi ha
   refine Ev.succ ?_
   simp only [impl_Weave_linesAt.l0]
   rw [drop_end L i (by omega)]
   exact Ev.neg (by omega) (Ev.some_ (by simp [linesL]))
  | succ n ih =>
   intro i acc hi ha
   obtain ⟨m, h1, h2, h4⟩ := hL i (by omega)
   refine Ev.succ ?_
   simp only [impl_Weave_linesAt.l0]
   rw [h1, up1 i (by omega), List.drop_eq_getElem_cons (show i < L.length by omega), h2]
   refine Ev.pos (by omega) (Ev.pos (by omega) (Ev.pos (by omega) (Ev.pos (by omega) (Ev.pos (by omega) (Ev.pos (by omega) ?_)))))
   exact Ev_eq (ih (i + 1) _ (by omega) (by simp; omega)) (by simp [linesL])
 simp only [impl_Weave_linesAt.f]
 exact Ev_eq (key L.length 0 [] (by omega) (by simp)) (by simp)
theorem spec_l03All_ev (l : List ByteArray) (m : Int) (hl : Sized l) : Ev (fun k => spec_l03All.f k l m) (linesOk m l) := by
 simp only [spec_l03All.f]
 by_cases h : (l.length : Int) > m
 ·refine Ev.pos h (Ev.some_ ?_)
  simp only [linesOk]
  rw [show decide ((l.length : Int) ≤ m) = false from by simp; omega]
  rfl
 refine Ev.neg h ?_
 have key : ∀ (n i : Nat), i + n = l.length → Ev (fun k => spec_l03All.l0 k l (i : Int)) (allOk (l.drop i)) := by
  intro n
  induction n with
  | zero =>
   intro i hi
   refine Ev.succ ?_
   simp only [spec_l03All.l0]
   refine Ev.neg (by omega) (Ev.some_ ?_)
   rw [drop_end l i (by omega)]
   rfl
  | succ n ih =>
   intro i hi
   refine Ev.succ ?_
   simp only [spec_l03All.l0]
   have hlt := hl.1
   refine Ev.pos (by omega) (Ev.pos (by omega) (Ev.bnd (spec_LineOk_ev _ (hl.2 _ (rdOf_mem _ l i (by omega)))) ?_))
   rw [up1 i (by omega), drop_rdOf ByteArray.empty l i (by omega)]
   by_cases hx : lineOk (rdOf ByteArray.empty l (i : Int)) = true
   ·refine Ev.pos hx (Ev_eq (ih (i + 1) (by omega)) ?_)
    simp only [allOk, List.all_cons, hx, Bool.true_and]
   ·refine Ev.neg hx (Ev.some_ ?_)
    simp only [allOk, List.all_cons, Bool.not_eq_true _ ▸ hx]
    simp
 refine Ev_eq (key l.length 0 (by omega)) ?_
 simp only [linesOk, List.drop_zero]
 rw [show decide ((l.length : Int) ≤ m) = true from by simp; omega]
 rfl
theorem impl_areLines_ev (l : List ByteArray) (hl : l.length ≤ 140737488351232) : Ev (fun k => impl_areLines.f k l) (allOk l) := by
 simp only [impl_areLines.f]
 have key : ∀ (n i : Nat), i + n = l.length → Ev (fun k => impl_areLines.l0 k l (l.length : Int) (i : Int)) (allOk (l.drop i)) := by
  intro n
  induction n with
  | zero =>
   intro i hi
   refine Ev.succ ?_
   simp only [impl_areLines.l0]
   refine Ev.neg (by omega) (Ev.some_ ?_)
   rw [drop_end l i (by omega)]
   rfl
  | succ n ih =>
   intro i hi
   refine Ev.succ ?_
   simp only [impl_areLines.l0]
   refine Ev.pos (by omega) (Ev.pos (by omega) (Ev.pos (by omega) (Ev.bnd0 (impl_LineOk_eq _) ?_)))
   rw [up1 i (by omega), drop_rdOf ByteArray.empty l i (by omega)]
   by_cases hx : lineOk (rdOf ByteArray.empty l (i : Int)) = true
   ·refine Ev.pos hx (Ev_eq (ih (i + 1) (by omega)) ?_)
    simp only [allOk, List.all_cons, hx, Bool.true_and]
   ·refine Ev.neg hx (Ev.some_ ?_)
    simp only [allOk, List.all_cons]
    simp [Bool.eq_false_iff.2 hx]
 exact key l.length 0 (by omega)
theorem spec_l04Ok_ev (l : List ByteArray) (hl : Sized l) : Ev (fun k => spec_l04Ok.f k l) (linesOk 300 l) := by
 simp only [spec_l04Ok.f]
 exact Ev.bnd (spec_l03All_ev l 300 hl) (Ev.now _)
theorem linesOk_len {m : Int} {l : List ByteArray} (h : linesOk m l = true) : (l.length : Int) ≤ m := by
 simp only [linesOk, Bool.and_eq_true, decide_eq_true_eq] at h
 exact h.1
def TT (a b : List ByteArray) (i j : Nat) : Nat := lcs (a.drop i) (b.drop j)
theorem TT_right (a b : List ByteArray) (i : Nat) : TT a b i b.length = 0 := by
 unfold TT
 rw [List.drop_length, lcs_nil_right]
theorem TT_left (a b : List ByteArray) (j : Nat) : TT a b a.length j = 0 := by
 unfold TT
 rw [List.drop_length, lcs_nil_left]
theorem TT_step (a b : List ByteArray) (i j : Nat) (hi : i < a.length) (hj : j < b.length) : TT a b i j = if a[i] = b[j] then TT a b (i + 1) (j + 1) + 1 else max (TT a b (i + 1) j) (TT a b i (j + 1)) := by
 have ha : a.drop i = a[i] :: a.drop (i + 1) := List.drop_eq_getElem_cons hi
 have hb : b.drop j = b[j] :: b.drop (j + 1) := List.drop_eq_getElem_cons hj
 unfold TT
 rw [ha, hb, lcs_cons]
theorem TT_le (a b : List ByteArray) (i j : Nat) : TT a b i j ≤ a.length := by
 have := lcs_le_left (a.drop i) (b.drop j)
 rw [List.length_drop] at this
 unfold TT
 omega
theorem rdT_nat (x : List (List Int)) (i : Nat) : rd_L1 x (i : Int) = x.getD i [] := by
 simp [rd_L1]
theorem rd_getD (r : List Int) (j : Nat) : rd r (j : Int) = r.getD j 0 := by simp [rd]
def rowOk (a b : List ByteArray) (x : List (List Int)) (i j : Nat) : Prop := (x.getD i []).length = b.length + 1 ∧ ∀ k, j ≤ k → k ≤ b.length → (x.getD i []).getD k 0 = (TT a b i k : Int)
def tabOk (a b : List ByteArray) (x : List (List Int)) (i : Nat) : Prop := x.length = a.length + 1 ∧ ∀ k, i ≤ k → k ≤ a.length → rowOk a b x k 0
theorem getD_set_ne' (x : List (List Int)) (i k : Nat) (r : List Int) (h : k ≠ i) : (x.set i r).getD k [] = x.getD k [] := by
 simp [List.getD, List.getElem?_set_ne (Ne.symm h)]
theorem getD_set_eq' (x : List (List Int)) (i : Nat) (r : List Int) (h : i < x.length) : (x.set i r).getD i [] = r := by
 simp [List.getD, List.getElem?_set_self h]
theorem rowOk_other {a b : List ByteArray} {x : List (List Int)} {i k j : Nat} {r : List Int} (h : k ≠ i) (hr : rowOk a b x k j) : rowOk a b (x.set i r) k j := by
 unfold rowOk at *
 rw [getD_set_ne' x i k r h]
 exact hr
theorem rowOk_put {a b : List ByteArray} {x : List (List Int)} {i j : Nat} {v : Int} (hx : i < x.length) (h : rowOk a b x i (j + 1)) (hj : j ≤ b.length) (hv : v = (TT a b i j : Int)) : rowOk a b (x.set i ((x.getD i []).set j v)) i j := by
 unfold rowOk at *
 rw [getD_set_eq' x i _ hx]
 generalize x.getD i [] = row at h ⊢
 refine ⟨by rw [List.length_set]; exact h.1, fun k hk hk2 => ?_⟩
 by_cases e : k = j
 ·subst e
  simp only [List.getD, List.getElem?_set_self (show k < row.length by omega), hv, Option.getD_some]
 ·have := h.2 k (by omega) hk2
  simp only [List.getD] at this ⊢
  rw [List.getElem?_set_ne (Ne.symm e)]
  exact this
theorem tabOk_row {a b : List ByteArray} {x : List (List Int)} {i : Nat} (h : tabOk a b x (i + 1)) (hr : rowOk a b x i 0) : tabOk a b x i :=
 ⟨h.1, fun k hk hk2 => by
  by_cases e : k = i
  ·subst e; exact hr
  ·exact h.2 k (by omega) hk2⟩
theorem tabOk_put {a b : List ByteArray} {x : List (List Int)} {i j : Nat} {r : List Int} (h : tabOk a b x j) (hij : i < j) : tabOk a b (x.set i r) j :=
 ⟨by rw [List.length_set]; exact h.1, fun k hk hk2 => rowOk_other (by omega) (h.2 k hk hk2)⟩
theorem zeroRow {a b : List ByteArray} {x : List (List Int)} {i : Nat} (h : x.getD i [] = List.replicate (b.length + 1) 0) (hT : TT a b i b.length = 0) : rowOk a b x i b.length := by
 unfold rowOk
 rw [h]
 refine ⟨by simp, fun k hk hk2 => ?_⟩
 have : k = b.length := by omega
 subst this
 rw [hT]
 simp [List.getD]
section
variable (a b : List ByteArray) (ha : a.length ≤ 1000000) (hb : b.length ≤ 1000000)
include ha hb
theorem spec_l04Table_l1 (i : Nat) (hi : i ≤ a.length) (Q : List (List Int) → Prop) (hQ : ∀ y, tabOk a b y i → ∃ r, Ev (fun k => spec_l04Table.l0 k a b y ((i : Int) - 1)) r ∧ Q r) :
  ∀ (j : Nat) (x : List (List Int)), j ≤ b.length → tabOk a b x (i + 1) → x.length = a.length + 1 → rowOk a b x i (if i < a.length then j else 0) → ∃ r, Ev (fun k => spec_l04Table.l1 k a b x (i : Int) ((j : Int) - 1)) r ∧ Q r := by
 intro j
 induction j with
 | zero =>
  intro x hj ht hxl hr
  have hr0 : rowOk a b x i 0 := by
   split at hr <;> exact hr
  obtain ⟨r, hev, hq⟩ := hQ x (tabOk_row ht hr0)
  refine ⟨r, Ev.succ ?_, hq⟩
  simp only [spec_l04Table.l1]
  refine Ev.neg (by omega) (Ev.succ ?_)
  simp only [spec_l04Table.j2]
  rw [show wrap64 ((i : Int) - 1) = (i : Int) - 1 from w64 (by omega) (by omega)]
  exact Ev.neg (by simp) hev
 | succ j ih =>
  intro x hj ht hxl hr
  by_cases hia : i < a.length
  ·rw [if_pos hia] at hr
   have hr1 := ht.2 (i + 1) (by omega) (by omega)
   have hl0 : (rd_L1 x (i : Int)).length = b.length + 1 := by rw [rdT_nat]; exact hr.1
   have hl1 : (rd_L1 x ((i + 1 : Nat) : Int)).length = b.length + 1 := by rw [rdT_nat]; exact hr1.1
   have v1 : rd (rd_L1 x ((i + 1 : Nat) : Int)) (j : Int) = (TT a b (i + 1) j : Int) := by rw [rdT_nat, rd_getD]; exact hr1.2 j (by omega) (by omega)
   have v2 : rd (rd_L1 x ((i + 1 : Nat) : Int)) ((j + 1 : Nat) : Int) = (TT a b (i + 1) (j + 1) : Int) := by rw [rdT_nat, rd_getD]; exact hr1.2 (j + 1) (by omega) (by omega)
   have v3 : rd (rd_L1 x (i : Int)) ((j + 1 : Nat) : Int) = (TT a b i (j + 1) : Int) := by rw [rdT_nat, rd_getD]; exact hr.2 (j + 1) (by omega) (by omega)
   have hst := TT_step a b i j hia (by omega)
   have hle := TT_le a b (i + 1) (j + 1)
   have sa : rdOf ByteArray.empty a (i : Int) = a[i] := rdOf_nat _ _ _ hia
   have sb : rdOf ByteArray.empty b (j : Int) = b[j]'(by omega) := rdOf_nat _ _ _ (by omega)
   have e1 : (((j + 1 : Nat) : Int) - 1) = (j : Int) := by omega
   rw [e1]
   have next : ∀ v : Int, v = (TT a b i j : Int) → ∃ r, Ev (fun k => spec_l04Table.l1 k a b (x.set i ((rd_L1 x (i : Int)).set j v)) (i : Int) ((j : Int) - 1)) r ∧ Q r := by
    intro v hv
    rw [rdT_nat]
    refine ih _ (by omega) (tabOk_put ht (by omega)) (by rw [List.length_set]; exact hxl) ?_
    rw [if_pos hia]
    exact rowOk_put (by omega) hr (by omega) hv
   have main : ∀ v : Int, v = (TT a b i j : Int) → (∀ r, Ev (fun k => spec_l04Table.l1 k a b (x.set i ((rd_L1 x (i : Int)).set j v)) (i : Int) ((j : Int) - 1)) r → Ev (fun k => spec_l04Table.j2 k a b x (i : Int) (j : Int) true) r) → ∃ r, Ev (fun k => spec_l04Table.l1 k a b x (i : Int) (j : Int)) r ∧ Q r := by
    intro v hv hm
    obtain ⟨r, hev, hq⟩ := next v hv
    refine ⟨r, Ev.succ ?_, hq⟩
    simp only [spec_l04Table.l1]
    refine Ev.pos (by omega) ?_
    rw [show decide ((i : Int) < (a.length : Int)) = true from by simp; omega]
    exact hm r hev
   by_cases he : a[i] = b[j]'(by omega)
   ·rw [if_pos he] at hst
    refine main (TT a b (i + 1) (j + 1) + 1 : Int) (by rw [hst]; omega) (fun r hev => Ev.succ ?_)
    simp only [spec_l04Table.j2]
    rw [up1 i (by omega), up1 j (by omega), v1, v2, v3, sa, sb]
    rw [show wrap64 ((TT a b (i + 1) (j + 1) : Int) + 1) = (TT a b (i + 1) (j + 1) : Int) + 1 from w64 (by omega) (by omega), show wrap64 ((j : Int) - 1) = (j : Int) - 1 from w64 (by omega) (by omega), Int.toNat_natCast, Int.toNat_natCast]
    refine Ev.pos trivial (Ev.pos (by omega) (Ev.pos (by omega) (Ev.pos (by omega) (Ev.pos (by omega) (Ev.pos (by omega) (Ev.pos (by omega) (Ev.pos (by omega) (Ev.pos (by omega) ?_))))))))
    by_cases hgt : (TT a b i (j + 1) : Int) > (TT a b (i + 1) j : Int)
    ·exact Ev.pos hgt (Ev.pos (by omega) (Ev.pos (by omega) (Ev.pos ((toList_iff _ _).2 he) (Ev.pos (by omega) (Ev.pos (by omega) hev)))))
    ·exact Ev.neg hgt (Ev.pos (by omega) (Ev.pos (by omega) (Ev.pos ((toList_iff _ _).2 he) (Ev.pos (by omega) (Ev.pos (by omega) hev)))))
   ·rw [if_neg he] at hst
    by_cases hgt : (TT a b i (j + 1) : Int) > (TT a b (i + 1) j : Int)
    ·refine main (TT a b i (j + 1) : Int) (by rw [hst]; omega) (fun r hev => Ev.succ ?_)
     simp only [spec_l04Table.j2]
     rw [up1 i (by omega), up1 j (by omega), v1, v3, sa, sb]
     rw [show wrap64 ((j : Int) - 1) = (j : Int) - 1 from w64 (by omega) (by omega), Int.toNat_natCast, Int.toNat_natCast]
     exact Ev.pos trivial (Ev.pos (by omega) (Ev.pos (by omega) (Ev.pos (by omega) (Ev.pos (by omega) (Ev.pos (by omega) (Ev.pos (by omega) (Ev.pos (by omega) (Ev.pos (by omega) (Ev.pos hgt (Ev.pos (by omega) (Ev.pos (by omega) (Ev.neg (fun h => he ((toList_iff _ _).1 h)) (Ev.pos (by omega) hev)))))))))))))
    ·refine main (TT a b (i + 1) j : Int) (by rw [hst]; omega) (fun r hev => Ev.succ ?_)
     simp only [spec_l04Table.j2]
     rw [up1 i (by omega), up1 j (by omega), v1, v3, sa, sb]
     rw [show wrap64 ((j : Int) - 1) = (j : Int) - 1 from w64 (by omega) (by omega), Int.toNat_natCast, Int.toNat_natCast]
     exact Ev.pos trivial (Ev.pos (by omega) (Ev.pos (by omega) (Ev.pos (by omega) (Ev.pos (by omega) (Ev.pos (by omega) (Ev.pos (by omega) (Ev.pos (by omega) (Ev.pos (by omega) (Ev.neg hgt (Ev.pos (by omega) (Ev.pos (by omega) (Ev.neg (fun h => he ((toList_iff _ _).1 h)) (Ev.pos (by omega) hev)))))))))))))
  ·rw [if_neg hia] at hr
   obtain ⟨r, hev, hq⟩ := hQ x (tabOk_row ht hr)
   refine ⟨r, Ev.succ ?_, hq⟩
   simp only [spec_l04Table.l1]
   refine Ev.pos (by omega) ?_
   rw [show decide ((i : Int) < (a.length : Int)) = false from by simp; omega]
   refine Ev.succ ?_
   simp only [spec_l04Table.j2]
   rw [show wrap64 ((i : Int) - 1) = (i : Int) - 1 from w64 (by omega) (by omega)]
   exact Ev.neg (by simp) hev
theorem spec_l04Table_l0 : ∀ (i : Nat) (x : List (List Int)), i ≤ a.length + 1 → tabOk a b x i → ∃ r, Ev (fun k => spec_l04Table.l0 k a b x ((i : Int) - 1)) r ∧ tabOk a b r 0 := by
 intro i
 induction i with
 | zero =>
  intro x hi ht
  refine ⟨x, Ev.succ ?_, ht⟩
  simp only [spec_l04Table.l0]
  exact Ev.neg (by omega) (Ev.now _)
 | succ i ih =>
  intro x hi ht
  have e1 : (((i + 1 : Nat) : Int) - 1) = (i : Int) := by omega
  rw [e1]
  have hxl := ht.1
  have hz : (x.set i (List.replicate (b.length + 1) 0)).getD i [] = List.replicate (b.length + 1) 0 := getD_set_eq' x i _ (by omega)
  obtain ⟨r, hev, hq⟩ := spec_l04Table_l1 a b ha hb i (by omega) _ (fun y hy => ih y (by omega) hy) b.length (x.set i (List.replicate (b.length + 1) 0)) (Nat.le_refl _) (tabOk_put ht (by omega)) (by rw [List.length_set]; exact hxl) (by
   have h1 := zeroRow (a := a) (i := i) hz (TT_right a b i)
   by_cases hia : i < a.length
   ·rw [if_pos hia]; exact h1
   ·rw [if_neg hia]
    have : i = a.length := by omega
    subst this
    refine ⟨h1.1, fun k _ hk => ?_⟩
    rw [hz, TT_left]
    simp only [List.getD, List.getElem?_replicate]
    split <;> rfl)
  refine ⟨r, Ev.succ ?_, hq⟩
  simp only [spec_l04Table.l0]
  rw [show wrap64 ((b.length : Int) + 1) = ((b.length + 1 : Nat) : Int) from up1 _ (by omega), show wrap64 ((b.length : Int) - 1) = (b.length : Int) - 1 from w64 (by omega) (by omega), Int.toNat_natCast, Int.toNat_natCast]
  exact Ev.pos (by omega) (Ev.pos (by omega) (Ev.pos (by omega) (Ev.pos (by omega) (Ev.pos (by omega) hev))))
theorem spec_l04Table_ev : ∃ x, Ev (fun k => spec_l04Table.f k a b) x ∧ tabOk a b x 0 := by
 obtain ⟨r, hev, hq⟩ := spec_l04Table_l0 a b ha hb (a.length + 1) (List.replicate (a.length + 1) []) (Nat.le_refl _) ⟨by simp, fun k h1 h2 => absurd h1 (by omega)⟩
 refine ⟨r, ?_, hq⟩
 simp only [spec_l04Table.f]
 rw [show wrap64 ((a.length : Int) + 1) = ((a.length + 1 : Nat) : Int) from up1 _ (by omega), Int.toNat_natCast]
 refine Ev.pos (by omega) (Ev.pos (by omega) ?_)
 have e1 : (((a.length + 1 : Nat) : Int) - 1) = (a.length : Int) := by omega
 rw [e1] at hev
 exact hev
end
theorem mx_max (p q : Nat) : mx (p : Int) (q : Int) = ((max p q : Nat) : Int) := by
 unfold mx
 split <;> omega
section
variable (a b : List ByteArray) (ha : a.length ≤ 1000000) (hb : b.length ≤ 1000000)
include ha hb
theorem impl_commonFrom_l2 (i : Nat) (hi : i < a.length) (Q : List (List Int) → Prop) (hQ : ∀ y, tabOk a b y i → (∀ k, k < i → y.getD k [] = List.replicate (b.length + 1) 0) → ∃ r, Ev (fun k => impl_commonFrom.l1 k a b y ((i : Int) - 1)) r ∧ Q r) :
  ∀ (j : Nat) (x : List (List Int)), j ≤ b.length → tabOk a b x (i + 1) → (∀ k, k < i → x.getD k [] = List.replicate (b.length + 1) 0) → rowOk a b x i j → ∃ r, Ev (fun k => impl_commonFrom.l2 k a b x (i : Int) ((j : Int) - 1)) r ∧ Q r := by
 intro j
 induction j with
 | zero =>
  intro x hj ht hz hr
  obtain ⟨r, hev, hq⟩ := hQ x (tabOk_row ht hr) hz
  refine ⟨r, Ev.succ ?_, hq⟩
  simp only [impl_commonFrom.l2]
  rw [show wrap64 ((i : Int) - 1) = (i : Int) - 1 from w64 (by omega) (by omega)]
  exact Ev.neg (by omega) hev
 | succ j ih =>
  intro x hj ht hz hr
  have hxl := ht.1
  have hr1 := ht.2 (i + 1) (by omega) (by omega)
  have hl0 : (rd_L1 x (i : Int)).length = b.length + 1 := by rw [rdT_nat]; exact hr.1
  have hl1 : (rd_L1 x ((i + 1 : Nat) : Int)).length = b.length + 1 := by rw [rdT_nat]; exact hr1.1
  have v1 : rd (rd_L1 x ((i + 1 : Nat) : Int)) (j : Int) = (TT a b (i + 1) j : Int) := by rw [rdT_nat, rd_getD]; exact hr1.2 j (by omega) (by omega)
  have v2 : rd (rd_L1 x ((i + 1 : Nat) : Int)) ((j + 1 : Nat) : Int) = (TT a b (i + 1) (j + 1) : Int) := by rw [rdT_nat, rd_getD]; exact hr1.2 (j + 1) (by omega) (by omega)
  have v3 : rd (rd_L1 x (i : Int)) ((j + 1 : Nat) : Int) = (TT a b i (j + 1) : Int) := by rw [rdT_nat, rd_getD]; exact hr.2 (j + 1) (by omega) (by omega)
  have hst := TT_step a b i j hi (by omega)
  have hle := TT_le a b (i + 1) (j + 1)
  have sa : rdOf ByteArray.empty a (i : Int) = a[i] := rdOf_nat _ _ _ hi
  have sb : rdOf ByteArray.empty b (j : Int) = b[j]'(by omega) := rdOf_nat _ _ _ (by omega)
  have e1 : (((j + 1 : Nat) : Int) - 1) = (j : Int) := by omega
  rw [e1]
  have next : ∀ v : Int, v = (TT a b i j : Int) → ∃ r, Ev (fun k => impl_commonFrom.l2 k a b (x.set i ((rd_L1 x (i : Int)).set j v)) (i : Int) ((j : Int) - 1)) r ∧ Q r := by
   intro v hv
   rw [rdT_nat]
   exact ih _ (by omega) (tabOk_put ht (by omega)) (fun k hk => by rw [getD_set_ne' x i k _ (by omega)]; exact hz k hk) (rowOk_put (by omega) hr (by omega) hv)
  by_cases he : a[i] = b[j]'(by omega)
  ·rw [if_pos he] at hst
   obtain ⟨r, hev, hq⟩ := next (TT a b (i + 1) (j + 1) + 1 : Int) (by rw [hst]; omega)
   refine ⟨r, Ev.succ ?_, hq⟩
   simp only [impl_commonFrom.l2]
   rw [up1 i (by omega), up1 j (by omega), v2, sa, sb]
   rw [show wrap64 ((TT a b (i + 1) (j + 1) : Int) + 1) = (TT a b (i + 1) (j + 1) : Int) + 1 from w64 (by omega) (by omega), show wrap64 ((j : Int) - 1) = (j : Int) - 1 from w64 (by omega) (by omega), Int.toNat_natCast, Int.toNat_natCast]
   exact Ev.pos (by omega) (Ev.pos (by omega) (Ev.pos (by omega) (Ev.pos (by omega) (Ev.pos (by omega) (Ev.pos ((toList_iff _ _).2 he) (Ev.pos (by omega) (Ev.pos (by omega) (Ev.pos (by omega) (Ev.pos (by omega) (Ev.pos (by omega) (Ev.pos (by omega) hev)))))))))))
  ·rw [if_neg he] at hst
   obtain ⟨r, hev, hq⟩ := next ((max (TT a b (i + 1) j) (TT a b i (j + 1)) : Nat) : Int) (by rw [hst])
   refine ⟨r, Ev.succ ?_, hq⟩
   simp only [impl_commonFrom.l2]
   rw [up1 i (by omega), up1 j (by omega), v1, v3, sa, sb, mx_max]
   rw [show wrap64 ((j : Int) - 1) = (j : Int) - 1 from w64 (by omega) (by omega), Int.toNat_natCast, Int.toNat_natCast]
   exact Ev.pos (by omega) (Ev.pos (by omega) (Ev.pos (by omega) (Ev.pos (by omega) (Ev.pos (by omega) (Ev.neg (fun h => he ((toList_iff _ _).1 h)) (Ev.pos (by omega) (Ev.pos (by omega) (Ev.pos (by omega) (Ev.pos (by omega) (Ev.pos (by omega) (Ev.pos (by omega) (Ev.pos (by omega) hev))))))))))))
theorem impl_commonFrom_l1 : ∀ (i : Nat) (x : List (List Int)), i ≤ a.length → tabOk a b x i → (∀ k, k < i → x.getD k [] = List.replicate (b.length + 1) 0) → ∃ r, Ev (fun k => impl_commonFrom.l1 k a b x ((i : Int) - 1)) r ∧ tabOk a b r 0 := by
 intro i
 induction i with
 | zero =>
  intro x hi ht hz
  refine ⟨x, Ev.succ ?_, ht⟩
  simp only [impl_commonFrom.l1]
  exact Ev.neg (by omega) (Ev.now _)
 | succ i ih =>
  intro x hi ht hz
  have e1 : (((i + 1 : Nat) : Int) - 1) = (i : Int) := by omega
  rw [e1]
  obtain ⟨r, hev, hq⟩ := impl_commonFrom_l2 a b ha hb i (by omega) _ (fun y hy hy2 => ih y (by omega) hy hy2) b.length x (Nat.le_refl _) ht (fun k hk => hz k (by omega)) (zeroRow (hz i (by omega)) (TT_right a b i))
  refine ⟨r, Ev.succ ?_, hq⟩
  simp only [impl_commonFrom.l1]
  refine Ev.pos (by omega) ?_
  rw [show wrap64 ((b.length : Int) - 1) = (b.length : Int) - 1 from w64 (by omega) (by omega)]
  exact hev
theorem impl_commonFrom_ev : ∃ x, Ev (fun k => impl_commonFrom.f k a b) x ∧ tabOk a b x 0 := by
 have key : ∀ (n i : Nat) (x : List (List Int)), i + n = a.length + 1 → x.length = a.length + 1 → (∀ k, k < i → x.getD k [] = List.replicate (b.length + 1) 0) → ∃ r, Ev (fun k => impl_commonFrom.l0 k a b x ((a.length + 1 : Nat) : Int) (i : Int)) r ∧ tabOk a b r 0 := by
  intro n
  induction n with
  | zero =>
   intro i x hi hl hz
   obtain ⟨r, hev, hq⟩ := impl_commonFrom_l1 a b ha hb a.length x (Nat.le_refl _) ⟨hl, fun k h1 h2 => by
    have : k = a.length := by omega
    subst this
    unfold rowOk
    rw [hz a.length (by omega)]
    refine ⟨by simp, fun k _ hk => ?_⟩
    rw [TT_left]
    simp only [List.getD, List.getElem?_replicate]
    split <;> rfl⟩ (fun k hk => hz k (by omega))
   refine ⟨r, Ev.succ ?_, hq⟩
   simp only [impl_commonFrom.l0]
   refine Ev.neg (by omega) ?_
   rw [show wrap64 ((a.length : Int) - 1) = (a.length : Int) - 1 from w64 (by omega) (by omega)]
   exact hev
  | succ n ih =>
   intro i x hi hl hz
   obtain ⟨r, hev, hq⟩ := ih (i + 1) (x.set i (List.replicate (b.length + 1) 0)) (by omega) (by rw [List.length_set]; exact hl) (fun k hk => by
    by_cases e : k = i
    ·subst e; exact getD_set_eq' x k _ (by omega)
    ·rw [getD_set_ne' x i k _ e]; exact hz k (by omega))
   refine ⟨r, Ev.succ ?_, hq⟩
   simp only [impl_commonFrom.l0]
   rw [show wrap64 ((b.length : Int) + 1) = ((b.length + 1 : Nat) : Int) from up1 _ (by omega), up1 i (by omega), Int.toNat_natCast, Int.toNat_natCast]
   exact Ev.pos (by omega) (Ev.pos (by omega) (Ev.pos (by omega) (Ev.pos (by omega) (Ev.pos (by omega) hev))))
 obtain ⟨r, hev, hq⟩ := key (a.length + 1) 0 (List.replicate (a.length + 1) []) (by omega) (by simp) (fun k hk => absurd hk (by omega))
 refine ⟨r, ?_, hq⟩
 simp only [impl_commonFrom.f]
 rw [show wrap64 ((a.length : Int) + 1) = ((a.length + 1 : Nat) : Int) from up1 _ (by omega), Int.toNat_natCast]
 refine Ev.pos (by omega) (Ev.pos (by omega) (Ev.bnd0 rfl ?_))
 rw [List.length_replicate]
 exact hev
end
theorem tab_at {a b : List ByteArray} {x : List (List Int)} (h : tabOk a b x 0) (i j : Nat) (hi : i ≤ a.length) (hj : j ≤ b.length) : rd (rd_L1 x (i : Int)) (j : Int) = (TT a b i j : Int) := by
 rw [rdT_nat, rd_getD]
 exact (h.2 i (Nat.zero_le _) hi).2 j (Nat.zero_le _) hj
theorem tab_len {a b : List ByteArray} {x : List (List Int)} (h : tabOk a b x 0) (i : Nat) (hi : i ≤ a.length) : (rd_L1 x (i : Int)).length = b.length + 1 := by
 rw [rdT_nat]
 exact (h.2 i (Nat.zero_le _) hi).1
def alignL (a b : List ByteArray) : List Int := if linesOk 300 a = true ∧ linesOk 300 b = true then pairs 0 a b else []
theorem toList_ne {a b : ByteArray} (h : ¬ a = b) : ¬ a.toList = b.toList := fun e => h ((toList_iff _ _).1 e)
theorem drop_cons' {α : Type} (l : List α) (i : Nat) (h : i < l.length) : l.drop i = l[i] :: l.drop (i + 1) := List.drop_eq_getElem_cons h
theorem impl_align_l0 (a b : List ByteArray) (t : List (List Int)) (r : List Int) : ∀ (n i : Nat) (x : List Int), i + n = x.length → x.length ≤ 1000000 → (∀ j, j < i → x[j]? = some (-1)) → Ev (fun k => impl_align.l1 k a b t (List.replicate x.length (-1)) 0 0) r → Ev (fun k => impl_align.l0 k a b t x (x.length : Int) (i : Int)) r := by
 intro n
 induction n with
 | zero =>
  intro i x hi hl hx hr
  refine Ev.succ ?_
  simp only [impl_align.l0]
  refine Ev.neg (by omega) ?_
  have : x = List.replicate x.length (-1) := by
   apply List.ext_getElem?
   intro j
   by_cases h : j < i
   ·rw [hx j h, List.getElem?_replicate, if_pos (by omega)]
   ·rw [List.getElem?_eq_none (by omega), List.getElem?_eq_none (by simp; omega)]
  rw [this]
  exact hr
 | succ n ih =>
  intro i x hi hl hx hr
  refine Ev.succ ?_
  simp only [impl_align.l0]
  rw [up1 i (by omega), Int.toNat_natCast]
  refine Ev.pos (by omega) (Ev.pos (by omega) (Ev.pos (by omega) ?_))
  have := ih (i + 1) (x.set i (-1)) (by rw [List.length_set]; omega) (by rw [List.length_set]; omega) (by
   intro j hj
   by_cases h : j = i
   ·subst h
    rw [List.getElem?_set_self (by omega)]
   ·rw [List.getElem?_set_ne (by omega)]
    exact hx j (by omega)) (by rw [List.length_set]; exact hr)
  rw [List.length_set] at this
  exact this
section
variable (a b : List ByteArray) (t : List (List Int)) (ht : tabOk a b t 0) (ha : a.length ≤ 1000000) (hb : b.length ≤ 1000000)
include ha hb ht
theorem impl_align_l1 : ∀ (n i j : Nat) (acc : List Int), i ≤ a.length → j ≤ b.length → (a.length - i) + (b.length - j) ≤ n → acc.length = j → Ev (fun k => impl_align.l1 k a b t (acc ++ List.replicate (b.length - j) (-1)) (i : Int) (j : Int)) (acc ++ pairs i (a.drop i) (b.drop j)) := by
 intro n
 induction n with
 | zero =>
  intro i j acc hi hj hn hl
  have e1 : i = a.length := by omega
  have e2 : j = b.length := by omega
  subst e1; subst e2
  refine Ev.succ ?_
  simp only [impl_align.l1]
  refine Ev.neg (by omega) (Ev.succ ?_)
  simp only [impl_align.j2]
  exact Ev.neg (by simp) (Ev.some_ (by rw [List.drop_length, List.drop_length, pairs_nil, Nat.sub_self]; rfl))
 | succ n ih =>
  intro i j acc hi hj hn hl
  refine Ev.succ ?_
  simp only [impl_align.l1]
  by_cases hia : i < a.length
  ·refine Ev.pos (by omega) ?_
   by_cases hjb : j < b.length
   ·rw [show decide ((j : Int) < (b.length : Int)) = true from by simp; omega]
    refine Ev.succ ?_
    simp only [impl_align.j2]
    have hl0 := tab_len ht i (by omega)
    have hl1 := tab_len ht (i + 1) (by omega)
    have v1 := tab_at ht (i + 1) j (by omega) (by omega)
    have v2 := tab_at ht i (j + 1) (by omega) (by omega)
    have hxl := ht.1
    have hal : (acc ++ List.replicate (b.length - j) (-1 : Int)).length = b.length := by simp; omega
    have hrep : List.replicate (b.length - j) (-1 : Int) = -1 :: List.replicate (b.length - (j + 1)) (-1) := by
     rw [← List.replicate_succ]; congr 1; omega
    rw [up1 i (by omega), up1 j (by omega), v1, v2, rdOf_nat _ _ _ hia, rdOf_nat _ _ _ hjb]
    rw [drop_cons' a i hia, drop_cons' b j hjb, pairs_cons]
    by_cases he : a[i] = b[j]
    ·rw [if_pos he]
     refine Ev.pos (by first | rfl | trivial) (Ev.pos (by omega) (Ev.pos (by omega) (Ev.pos (by omega) (Ev.pos (by omega) (Ev.pos ((toList_iff _ _).2 he) (Ev.pos (by omega) ?_))))))
     have := ih (i + 1) (j + 1) (acc ++ [(i : Int)]) (by omega) (by omega) (by omega) (by simp; omega)
     rw [List.append_assoc, List.append_assoc, List.singleton_append, List.singleton_append] at this
     rw [Int.toNat_natCast, hrep, ← hl, List.set_append_right _ _ (Nat.le_refl _), Nat.sub_self, List.set_cons_zero, hl]
     exact this
    ·rw [if_neg he]
     refine Ev.pos (by first | rfl | trivial) (Ev.pos (by omega) (Ev.pos (by omega) (Ev.pos (by omega) (Ev.pos (by omega) (Ev.neg (toList_ne he) (Ev.pos (by omega) (Ev.pos (by omega) (Ev.pos (by omega) (Ev.pos (by omega) (Ev.pos (by omega) (Ev.pos (by omega) ?_)))))))))))
     have c1 : TT a b (i + 1) j = lcs (a.drop (i + 1)) (b[j] :: b.drop (j + 1)) := by rw [TT, drop_cons' b j hjb]
     have c2 : TT a b i (j + 1) = lcs (a[i] :: a.drop (i + 1)) (b.drop (j + 1)) := by rw [TT, drop_cons' a i hia]
     rw [← c1, ← c2]
     by_cases hge : TT a b (i + 1) j ≥ TT a b i (j + 1)
     ·rw [if_pos hge]
      refine Ev.pos (by omega) ?_
      have := ih (i + 1) j acc (by omega) (by omega) (by omega) hl
      rw [drop_cons' b j hjb] at this
      exact this
     ·rw [if_neg hge]
      refine Ev.neg (by omega) ?_
      have := ih i (j + 1) (acc ++ [-1]) (by omega) (by omega) (by omega) (by simp; omega)
      rw [List.append_assoc, List.append_assoc, List.singleton_append, List.singleton_append, drop_cons' a i hia, ← hrep] at this
      exact this
   ·have e2 : j = b.length := by omega
    subst e2
    rw [show decide (((b.length : Nat) : Int) < (b.length : Int)) = false from by simp]
    refine Ev.succ ?_
    simp only [impl_align.j2]
    exact Ev.neg (by simp) (Ev.some_ (by rw [List.drop_length, pairs_nil_right, Nat.sub_self]; rfl))
  ·refine Ev.neg (by omega) (Ev.succ ?_)
   simp only [impl_align.j2]
   have e1 : i = a.length := by omega
   subst e1
   exact Ev.neg (by simp) (Ev.some_ (by rw [List.drop_length, pairs_nil, List.length_drop]))
end
theorem impl_align_ev (a b : List ByteArray) (ha : a.length ≤ 1000000) (hb : b.length ≤ 1000000) : Ev (fun k => impl_align.f k a b) (pairs 0 a b) := by
 obtain ⟨x, hx, ht⟩ := impl_commonFrom_ev a b ha hb
 have h1 := impl_align_l1 a b x ht ha hb _ 0 0 [] (by omega) (by omega) (Nat.le_refl _) rfl
 have h0 := impl_align_l0 a b x (pairs 0 a b) b.length 0 (List.replicate b.length 0) (by simp) (by simp; omega) (fun j h => absurd h (by omega)) (by rw [List.length_replicate]; exact h1)
 simp only [impl_align.f]
 refine Ev.bnd hx (Ev.pos (by omega) (Ev.pos (by omega) (Ev.bnd0 rfl ?_)))
 rw [Int.toNat_natCast]
 exact h0
section
variable (a b : List ByteArray) (t : List (List Int)) (ht : tabOk a b t 0) (ha : a.length ≤ 1000000) (hb : b.length ≤ 1000000)
include hb
theorem spec_Align_l1 : ∀ (n j : Nat) (acc : List Int), j + n = b.length → acc.length ≤ j → Ev (fun k => spec_Align.l1 k b acc (j : Int)) (acc ++ List.replicate n (-1)) := by
 intro n
 induction n with
 | zero =>
  intro j acc hj hl
  refine Ev.succ ?_
  simp only [spec_Align.l1]
  exact Ev.neg (by omega) (Ev.some_ (by simp))
 | succ n ih =>
  intro j acc hj hl
  refine Ev.succ ?_
  simp only [spec_Align.l1]
  rw [up1 j (by omega)]
  refine Ev.pos (by omega) (Ev.pos (by omega) ?_)
  have := ih (j + 1) (acc ++ [-1]) (by omega) (by simp; omega)
  rw [List.append_assoc, List.singleton_append, ← List.replicate_succ] at this
  exact this
include ha ht
theorem spec_Align_l0 : ∀ (n i j : Nat) (acc : List Int), i ≤ a.length → j ≤ b.length → (a.length - i) + (b.length - j) ≤ n → acc.length ≤ j → Ev (fun k => spec_Align.l0 k a b acc t (i : Int) (j : Int)) (acc ++ pairs i (a.drop i) (b.drop j)) := by
 intro n
 induction n with
 | zero =>
  intro i j acc hi hj hn hl
  have e1 : i = a.length := by omega
  have e2 : j = b.length := by omega
  subst e1; subst e2
  refine Ev.succ ?_
  simp only [spec_Align.l0]
  refine Ev.neg (by omega) (Ev.succ ?_)
  simp only [spec_Align.j2]
  refine Ev.neg (by simp) ?_
  rw [List.drop_length, List.drop_length, pairs_nil]
  exact spec_Align_l1 b hb 0 b.length acc (by omega) hl
 | succ n ih =>
  intro i j acc hi hj hn hl
  refine Ev.succ ?_
  simp only [spec_Align.l0]
  by_cases hia : i < a.length
  ·refine Ev.pos (by omega) ?_
   by_cases hjb : j < b.length
   ·rw [show decide ((j : Int) < (b.length : Int)) = true from by simp; omega]
    refine Ev.succ ?_
    simp only [spec_Align.j2]
    have hl0 := tab_len ht i (by omega)
    have hl1 := tab_len ht (i + 1) (by omega)
    have v1 := tab_at ht (i + 1) j (by omega) (by omega)
    have v2 := tab_at ht i (j + 1) (by omega) (by omega)
    have hxl := ht.1
    rw [up1 i (by omega), up1 j (by omega), v1, v2, rdOf_nat _ _ _ hia, rdOf_nat _ _ _ hjb]
    rw [drop_cons' a i hia, drop_cons' b j hjb, pairs_cons]
    by_cases he : a[i] = b[j]
    ·rw [if_pos he]
     refine Ev.pos (by first | rfl | trivial) (Ev.pos (by omega) (Ev.pos (by omega) (Ev.pos (by omega) (Ev.pos (by omega) (Ev.pos ((toList_iff _ _).2 he) (Ev.pos (by omega) ?_))))))
     have := ih (i + 1) (j + 1) (acc ++ [(i : Int)]) (by omega) (by omega) (by omega) (by simp; omega)
     rw [List.append_assoc, List.singleton_append] at this
     exact this
    ·rw [if_neg he]
     refine Ev.pos (by first | rfl | trivial) (Ev.pos (by omega) (Ev.pos (by omega) (Ev.pos (by omega) (Ev.pos (by omega) (Ev.neg (toList_ne he) (Ev.pos (by omega) (Ev.pos (by omega) (Ev.pos (by omega) (Ev.pos (by omega) (Ev.pos (by omega) (Ev.pos (by omega) ?_)))))))))))
     have c1 : TT a b (i + 1) j = lcs (a.drop (i + 1)) (b[j] :: b.drop (j + 1)) := by rw [TT, drop_cons' b j hjb]
     have c2 : TT a b i (j + 1) = lcs (a[i] :: a.drop (i + 1)) (b.drop (j + 1)) := by rw [TT, drop_cons' a i hia]
     rw [← c1, ← c2]
     by_cases hge : TT a b (i + 1) j ≥ TT a b i (j + 1)
     ·rw [if_pos hge]
      refine Ev.pos (by omega) ?_
      have := ih (i + 1) j acc (by omega) (by omega) (by omega) hl
      rw [drop_cons' b j hjb] at this
      exact this
     ·rw [if_neg hge]
      refine Ev.neg (by omega) (Ev.pos (by omega) ?_)
      have := ih i (j + 1) (acc ++ [-1]) (by omega) (by omega) (by omega) (by simp; omega)
      rw [List.append_assoc, List.singleton_append, drop_cons' a i hia] at this
      exact this
   ·have e2 : j = b.length := by omega
    subst e2
    rw [show decide (((b.length : Nat) : Int) < (b.length : Int)) = false from by simp]
    refine Ev.succ ?_
    simp only [spec_Align.j2]
    refine Ev.neg (by simp) ?_
    rw [List.drop_length, pairs_nil_right]
    exact spec_Align_l1 b hb 0 b.length acc (by omega) hl
  ·refine Ev.neg (by omega) (Ev.succ ?_)
   simp only [spec_Align.j2]
   refine Ev.neg (by simp) ?_
   have e1 : i = a.length := by omega
   subst e1
   rw [List.drop_length, pairs_nil, List.length_drop]
   exact spec_Align_l1 b hb _ j acc (by omega) hl
end
theorem spec_Align_ev (a b : List ByteArray) (ha : Sized a) (hb : Sized b) : Ev (fun k => spec_Align.f k a b) (alignL a b) := by
 simp only [spec_Align.f]
 refine Ev.bnd0 rfl (Ev.bnd (spec_l04Ok_ev a ha) ?_)
 by_cases h1 : linesOk 300 a = true
 ·refine Ev.pos h1 (Ev.bnd (spec_l04Ok_ev b hb) (Ev.succ ?_))
  simp only [spec_Align.j0]
  by_cases h2 : linesOk 300 b = true
  ·have l1 := linesOk_len h1
   have l2 := linesOk_len h2
   obtain ⟨x, hx, ht⟩ := spec_l04Table_ev a b (by omega) (by omega)
   refine Ev.neg (by rw [h2]; simp) (Ev.bnd hx ?_)
   have := spec_Align_l0 a b x ht (by omega) (by omega) _ 0 0 [] (by omega) (by omega) (Nat.le_refl _) (by simp)
   rw [alignL, if_pos ⟨h1, h2⟩]
   exact this
  ·exact Ev.pos (by simp [h2]) (Ev.some_ (by rw [alignL, if_neg (fun h => h2 h.2)]))
 ·refine Ev.neg h1 (Ev.succ ?_)
  simp only [spec_Align.j0]
  exact Ev.pos (by first | rfl | trivial) (Ev.some_ (by rw [alignL, if_neg (fun h => h1 h.1)]))
theorem spec_LinesOk_ev (l : List ByteArray) (hl : Sized l) : Ev (fun k => spec_LinesOk.f k l) (linesOk 80 l) := by
 simp only [spec_LinesOk.f]
 exact Ev.bnd (spec_l03All_ev l 80 hl) (Ev.now _)
theorem impl_LinesOk_ev (l : List ByteArray) (hl : Sized l) : Ev (fun k => impl_LinesOk.f k l) (linesOk 80 l) := by
 simp only [impl_LinesOk.f]
 by_cases h : (l.length : Int) ≤ 80
 ·exact Ev.pos h (Ev.bnd (impl_areLines_ev l hl.1) (Ev.some_ (by simp [linesOk, h])))
 ·exact Ev.neg h (Ev.some_ (by simp [linesOk, h]))
theorem asc_range (n : Int) : ∀ (o : Option Int) (l : List Int), asc n o l = true → ∀ d ∈ l, 0 ≤ d ∧ d ≤ n - 1
 | _, [], _, d, h => by simp at h
 | none, v :: l, h, d, hd => by
  simp only [asc, Bool.and_eq_true, decide_eq_true_eq] at h
  rcases List.mem_cons.1 hd with rfl | hd
  ·exact h.1
  ·exact asc_range n _ l h.2 d hd
 | some p, v :: l, h, d, hd => by
  simp only [asc, Bool.and_eq_true, decide_eq_true_eq] at h
  rcases List.mem_cons.1 hd with rfl | hd
  ·exact h.1.1
  ·exact asc_range n _ l h.2 d hd
def atP {α : Type} (i : Nat) (ns : List (Nat × α)) : List α := (ns.filter fun x => decide (x.1 = i)).map (·.2)
def mergeN {α : Type} : Nat → List α → List (Nat × α) → List α
 | i, [], ns => atP i ns
 | i, b :: bs, ns => atP i ns ++ b :: mergeN (i + 1) bs ns
theorem atP_append {α : Type} (i : Nat) (a b : List (Nat × α)) : atP i (a ++ b) = atP i a ++ atP i b := by simp [atP]
theorem atP_one {α : Type} (i p : Nat) (x : α) : atP i [(p, x)] = if p = i then [x] else [] := by
 unfold atP
 by_cases h : p = i <;> simp [h]
theorem mergeN_past {α : Type} (bs : List α) : ∀ (i p : Nat) (ns : List (Nat × α)) (x : α), p < i → mergeN i bs (ns ++ [(p, x)]) = mergeN i bs ns := by
 induction bs with
 | nil =>
  intro i p ns x h
  simp only [mergeN, atP_append, atP_one]
  rw [if_neg (by omega), List.append_nil]
 | cons b bs ih =>
  intro i p ns x h
  simp only [mergeN, atP_append, atP_one]
  rw [if_neg (by omega), List.append_nil, ih (i + 1) p ns x (by omega)]
theorem mergeN_insert {α : Type} (bs : List α) : ∀ (i p : Nat) (ns : List (Nat × α)) (x : α), i ≤ p → p ≤ i + bs.length → (∀ y ∈ ns, y.1 ≤ p) →
  mergeN i bs (ns ++ [(p, x)]) = (mergeN i bs ns).insertIdx ((p - i) + (ns.filter fun y => decide (i ≤ y.1)).length) x := by
 induction bs with
 | nil =>
  intro i p ns x h1 h2 h3
  obtain rfl : p = i := by simp at h2; omega
  simp only [mergeN, atP_append, atP_one, if_pos]
  have e : (ns.filter fun y => decide (p ≤ y.1)) = ns.filter fun y => decide (y.1 = p) := by
   apply List.filter_congr
   intro y hy
   have := h3 y hy
   simp only [decide_eq_decide]
   omega
  rw [e, Nat.sub_self, Nat.zero_add]
  have hl : (ns.filter fun y => decide (y.1 = p)).length = (atP p ns).length := by simp [atP]
  rw [hl, List.insertIdx_length_self]
 | cons b bs ih =>
  intro i p ns x h1 h2 h3
  have hsplit : (ns.filter fun y => decide (i ≤ y.1)).length = (atP i ns).length + (ns.filter fun y => decide (i + 1 ≤ y.1)).length := by
   unfold atP
   rw [List.length_map]
   clear h3
   induction ns with
   | nil => rfl
   | cons y ns ihn =>
    simp only [List.filter_cons]
    by_cases c1 : y.1 = i
    ·rw [if_pos (by simp; omega), if_pos (by simp [c1]), if_neg (by simp; omega)]
     simp only [List.length_cons]
     omega
    ·by_cases c2 : i ≤ y.1
     ·rw [if_pos (by simp [c2]), if_neg (by simp [c1]), if_pos (by simp; omega)]
      simp only [List.length_cons]
      omega
     ·rw [if_neg (by simp; omega), if_neg (by simp [c1]), if_neg (by simp; omega)]
      exact ihn
  by_cases c : p = i
  ·subst c
   simp only [mergeN, atP_append, atP_one, if_pos]
   rw [mergeN_past bs (p + 1) p ns x (by omega)]
   have e2 : (ns.filter fun y => decide (p + 1 ≤ y.1)) = [] := by
    rw [List.filter_eq_nil_iff]
    intro y hy
    have := h3 y hy
    simp
    omega
   rw [hsplit, e2, Nat.sub_self, Nat.zero_add, List.length_nil, List.append_assoc, List.singleton_append]
   simp only [Nat.add_zero]
   generalize atP p ns = A
   generalize b :: mergeN (p + 1) bs ns = R
   induction A with
   | nil => simp
   | cons a A ihA => simp only [List.cons_append, List.length_cons, List.insertIdx_succ_cons, ihA]
  ·simp only [mergeN, atP_append, atP_one]
   rw [if_neg (by omega), List.append_nil, ih (i + 1) p ns x (by omega) (by simp at h2; omega) h3, hsplit]
   have e3 : p - i + ((atP i ns).length + (ns.filter fun y => decide (i + 1 ≤ y.1)).length) = (atP i ns).length + ((p - (i + 1) + (ns.filter fun y => decide (i + 1 ≤ y.1)).length) + 1) := by omega
   rw [e3]
   generalize p - (i + 1) + (ns.filter fun y => decide (i + 1 ≤ y.1)).length = q
   generalize atP i ns = A
   induction A with
   | nil => simp
   | cons a A ihA => simp only [List.cons_append, List.length_cons]; rw [show A.length + 1 + (q + 1) = (A.length + (q + 1)) + 1 by omega, List.insertIdx_succ_cons, ihA]
def numb (v : Int) : Nat → List (Nat × ByteArray) → List (Nat × S123)
 | _, [] => []
 | c, (p, s) :: t => (p, ⟨s, v, (c : Int), []⟩) :: numb v (c + 1) t
def numbL (v : Int) : Nat → List ByteArray → List S123
 | _, [] => []
 | c, s :: t => ⟨s, v, (c : Int), []⟩ :: numbL v (c + 1) t
theorem numb_length (v : Int) : ∀ (t : List (Nat × ByteArray)) (c : Nat), (numb v c t).length = t.length
 | [], c => rfl
 | (p, s) :: t, c => by simp [numb, numb_length v t (c + 1)]
theorem numb_append (v : Int) : ∀ (a b : List (Nat × ByteArray)) (c : Nat), numb v c (a ++ b) = numb v c a ++ numb v (c + a.length) b
 | [], b, c => by simp [numb]
 | (p, s) :: a, b, c => by
  simp only [List.cons_append, numb, numb_append v a b (c + 1), List.length_cons]
  rw [show c + 1 + a.length = c + (a.length + 1) by omega]
theorem numb_mem (v : Int) : ∀ (t : List (Nat × ByteArray)) (c : Nat) (y : Nat × S123), y ∈ numb v c t → ∃ s, (y.1, s) ∈ t ∧ y.2.f0 = s ∧ y.2.f3 = []
 | [], c, y, h => by simp [numb] at h
 | (p, s) :: t, c, y, h => by
  simp only [numb, List.mem_cons] at h
  rcases h with rfl | h
  ·exact ⟨s, by simp, rfl, rfl⟩
  ·obtain ⟨s', h1, h2⟩ := numb_mem v t (c + 1) y h
   exact ⟨s', List.mem_cons_of_mem _ h1, h2⟩
def UpN (t : List (Nat × ByteArray)) : Prop := t.Pairwise fun a b => a.1 ≤ b.1
def below (i : Nat) (t : List (Nat × ByteArray)) : Nat := (t.filter fun x => decide (x.1 < i)).length
theorem atP_gt {α : Type} (i : Nat) (ns : List (Nat × α)) (h : ∀ x ∈ ns, i < x.1) : atP i ns = [] := by
 unfold atP
 rw [List.map_eq_nil_iff, List.filter_eq_nil_iff]
 intro x hx
 have := h x hx
 simp
 omega
theorem atP_cons {α : Type} (i p : Nat) (x : α) (ns : List (Nat × α)) : atP i ((p, x) :: ns) = if p = i then x :: atP i ns else atP i ns := by
 unfold atP
 by_cases h : p = i <;> simp [h]
theorem below_none (i : Nat) (t : List (Nat × ByteArray)) (h : ∀ x ∈ t, i ≤ x.1) : below i t = 0 := by
 unfold below
 rw [List.length_eq_zero_iff, List.filter_eq_nil_iff]
 intro x hx
 have := h x hx
 simp
 omega
theorem numb_at (v : Int) (i : Nat) : ∀ (t : List (Nat × ByteArray)) (c : Nat), UpN t → atP i (numb v c t) = numbL v (c + below i t) (atP i t)
 | [], c, _ => by simp [numb, numbL, atP]
 | (p, s) :: t, c, h => by
  obtain ⟨h1, h2⟩ := List.pairwise_cons.1 h
  have ih := numb_at v i t (c + 1) h2
  simp only [numb, atP_cons]
  by_cases e : p = i
  ·subst e
   have hb : below p t = 0 := below_none p t (fun x hx => h1 x hx)
   have hb' : below p ((p, s) :: t) = 0 := below_none p _ (fun x hx => by rcases List.mem_cons.1 hx with rfl | hx; exact Nat.le_refl _; exact h1 x hx)
   rw [if_pos rfl, if_pos rfl, ih, hb, hb']
   simp [numbL]
  ·rw [if_neg e, if_neg e]
   by_cases l : p < i
   ·rw [ih]
    congr 1
    unfold below
    rw [List.filter_cons_of_pos (by simpa using l)]
    simp only [List.length_cons]
    omega
   ·have hg : ∀ x ∈ t, i < x.1 := fun x hx => by have := h1 x hx; omega
    rw [ih, atP_gt i t hg]
    simp [numbL]
theorem below_succ (i : Nat) : ∀ t : List (Nat × ByteArray), below (i + 1) t = below i t + (atP i t).length
 | [] => rfl
 | (p, s) :: t => by
  have ih := below_succ i t
  rw [atP_cons]
  unfold below at *
  by_cases e : p = i
  ·subst e
   rw [if_pos rfl, List.filter_cons_of_pos (by simp), List.filter_cons_of_neg (by simp)]
   simp only [List.length_cons]
   omega
  ·rw [if_neg e]
   by_cases l : p < i
   ·rw [List.filter_cons_of_pos (by simp; omega), List.filter_cons_of_pos (by simpa using l)]
    simp only [List.length_cons]
    omega
   ·rw [List.filter_cons_of_neg (by simp; omega), List.filter_cons_of_neg (by simpa using l)]
    exact ih
def scanN (L : List Int) : List Int → List ByteArray → Nat → List (Nat × ByteArray)
 | z :: st, s :: ls, p => if 0 ≤ z then scanN L st ls ((rd L z).toNat + 1) else (p, s) :: scanN L st ls p
 | _, _, _ => []
def Up (n : Nat) (L : List Int) : List Int → Nat → Prop
 | [], p => p ≤ n
 | z :: st, p => if 0 ≤ z then z < (L.length : Int) ∧ (p : Int) ≤ rd L z ∧ rd L z < (n : Int) ∧ Up n L st ((rd L z).toNat + 1) else Up n L st p
theorem Up.le {n : Nat} {L : List Int} : ∀ (st : List Int) (p : Nat), Up n L st p → p ≤ n
 | [], p, h => h
 | z :: st, p, h => by
  simp only [Up] at h
  split at h
  ·omega
  ·exact Up.le st p h
theorem scanN_ge {n : Nat} {L : List Int} : ∀ (st : List Int) (ls : List ByteArray) (p : Nat), Up n L st p → ∀ x ∈ scanN L st ls p, p ≤ x.1 ∧ x.1 ≤ n
 | [], _, _, _, x, hx => by simp [scanN] at hx
 | z :: st, [], _, _, x, hx => by simp [scanN] at hx
 | z :: st, s :: ls, p, h, x, hx => by
  have hp := Up.le _ _ h
  simp only [scanN] at hx
  simp only [Up] at h
  split at h
  ·rename_i hz
   rw [if_pos hz] at hx
   have := scanN_ge st ls _ h.2.2.2 x hx
   omega
  ·rename_i hz
   rw [if_neg hz] at hx
   rcases List.mem_cons.1 hx with rfl | hx
   ·exact ⟨Nat.le_refl _, hp⟩
   ·exact scanN_ge st ls p h x hx
theorem scanN_up {n : Nat} {L : List Int} : ∀ (st : List Int) (ls : List ByteArray) (p : Nat), Up n L st p → UpN (scanN L st ls p)
 | [], _, _, _ => by simp [scanN, UpN]
 | z :: st, [], _, _ => by simp [scanN, UpN]
 | z :: st, s :: ls, p, h => by
  have h0 := h
  simp only [Up] at h
  simp only [scanN]
  split at h
  ·rename_i hz
   rw [if_pos hz]
   exact scanN_up st ls _ h.2.2.2
  ·rename_i hz
   rw [if_neg hz]
   exact List.pairwise_cons.2 ⟨fun x hx => (scanN_ge st ls p h x hx).1, scanN_up st ls p h⟩
theorem scanN_length (L : List Int) : ∀ (st : List Int) (ls : List ByteArray) (p : Nat), (scanN L st ls p).length ≤ ls.length
 | [], ls, p => by cases ls <;> simp [scanN]
 | z :: st, [], p => by simp [scanN]
 | z :: st, s :: ls, p => by
  simp only [scanN]
  split
  ·have := scanN_length L st ls ((rd L z).toNat + 1)
   simp only [List.length_cons]; omega
  ·have := scanN_length L st ls p
   simp only [List.length_cons]; omega
theorem scanN_mem (L : List Int) : ∀ (st : List Int) (ls : List ByteArray) (p : Nat) (x : Nat × ByteArray), x ∈ scanN L st ls p → x.2 ∈ ls
 | [], ls, p, x, h => by cases ls <;> simp [scanN] at h
 | z :: st, [], p, x, h => by simp [scanN] at h
 | z :: st, s :: ls, p, x, h => by
  simp only [scanN] at h
  split at h
  ·exact List.mem_cons_of_mem _ (scanN_mem L st ls _ x h)
  ·rcases List.mem_cons.1 h with rfl | h
   ·simp
   ·exact List.mem_cons_of_mem _ (scanN_mem L st ls p x h)
theorem up_none {n : Nat} {L : List Int} : ∀ (m p : Nat), p ≤ n → Up n L (List.replicate m (-1)) p
 | 0, p, h => h
 | m + 1, p, h => by
  rw [List.replicate_succ]
  simp only [Up]
  rw [if_neg (by omega)]
  exact up_none m p h
theorem pairs_up {n : Nat} {L : List Int} (h1 : ∀ i : Nat, i < L.length → 0 ≤ rd L (i : Int) ∧ rd L (i : Int) < (n : Int)) (h2 : ∀ i : Nat, i + 1 < L.length → rd L (i : Int) < rd L ((i + 1 : Nat) : Int)) :
  ∀ (m : Nat) (i : Nat) (a b : List ByteArray) (p : Nat), a.length + b.length ≤ m → i + a.length ≤ L.length → p ≤ n → (i < L.length → (p : Int) ≤ rd L (i : Int)) → Up n L (pairs i a b) p := by
 intro m
 induction m with
 | zero =>
  intro i a b p hm hi hp hq
  obtain rfl : a = [] := List.length_eq_zero_iff.1 (by omega)
  rw [pairs_nil]
  exact up_none _ _ hp
 | succ m ih =>
  intro i a b p hm hi hp hq
  cases a with
  | nil => rw [pairs_nil]; exact up_none _ _ hp
  | cons x a =>
   cases b with
   | nil => rw [pairs_cons_nil]; exact hp
   | cons y b =>
    simp only [List.length_cons] at hm hi
    have hil : i < L.length := by omega
    have hv := h1 i hil
    have hpi := hq hil
    rw [pairs_cons]
    split
    ·simp only [Up]
     rw [if_pos (by omega)]
     refine ⟨by omega, hpi, hv.2, ih (i + 1) a b _ (by omega) (by omega) (by omega) (fun hl => ?_)⟩
     have := h2 i hl
     omega
    ·split
     ·refine ih (i + 1) a (y :: b) p (by simp only [List.length_cons]; omega) (by omega) hp (fun hl => ?_)
      have := h2 i hl
      omega
     ·simp only [Up]
      rw [if_neg (by omega)]
      exact ih i (x :: a) b p (by simp only [List.length_cons]; omega) (by simp only [List.length_cons]; omega) hp hq
def delsOf (D : Nat → Bool) (v : Int) : Nat → List S123 → List S123
 | _, [] => []
 | i, b :: l => (if D i = true then ⟨b.f0, b.f1, b.f2, b.f3 ++ [v]⟩ else b) :: delsOf D v (i + 1) l
theorem delsOf_length (D : Nat → Bool) (v : Int) : ∀ (l : List S123) (i : Nat), (delsOf D v i l).length = l.length
 | [], _ => rfl
 | b :: l, i => by simp [delsOf, delsOf_length D v l (i + 1)]
theorem delsOf_congr {D E : Nat → Bool} (v : Int) : ∀ (l : List S123) (i : Nat), (∀ m, i ≤ m → m < i + l.length → D m = E m) → delsOf D v i l = delsOf E v i l
 | [], _, _ => rfl
 | b :: l, i, h => by
  simp only [delsOf]
  rw [h i (Nat.le_refl _) (by simp), delsOf_congr v l (i + 1) (fun m h1 h2 => h m (by omega) (by simp only [List.length_cons]; omega))]
theorem delsOf_none (v : Int) : ∀ (l : List S123) (i : Nat), delsOf (fun _ => false) v i l = l
 | [], _ => rfl
 | b :: l, i => by simp [delsOf, delsOf_none v l (i + 1)]
theorem delsOf_get (D : Nat → Bool) (v : Int) : ∀ (l : List S123) (i m : Nat) (h : m < l.length), (delsOf D v i l)[m]? = some (if D (i + m) = true then ⟨l[m].f0, l[m].f1, l[m].f2, l[m].f3 ++ [v]⟩ else l[m])
 | [], _, m, h => absurd h (by simp)
 | b :: l, i, 0, h => by simp [delsOf]
 | b :: l, i, m + 1, h => by
  simp only [delsOf, List.getElem?_cons_succ, List.getElem_cons_succ]
  rw [delsOf_get D v l (i + 1) m (by simpa using h), show i + 1 + m = i + (m + 1) by omega]
theorem delsOf_set (D : Nat → Bool) (v : Int) : ∀ (l : List S123) (i m : Nat) (h : m < l.length), D (i + m) = false → (delsOf D v i l).set m ⟨l[m].f0, l[m].f1, l[m].f2, l[m].f3 ++ [v]⟩ = delsOf (fun y => D y || decide (y = i + m)) v i l
 | [], _, m, h, _ => absurd h (by simp)
 | b :: l, i, 0, h, hD => by
  simp only [delsOf, List.set_cons_zero, List.getElem_cons_zero, Nat.add_zero, decide_true, Bool.or_true, if_true]
  rw [delsOf_congr v l (i + 1) (E := fun y => D y || decide (y = i)) (fun m h1 h2 => by rw [show decide (m = i) = false by simp; omega, Bool.or_false])]
 | b :: l, i, m + 1, h, hD => by
  simp only [delsOf, List.set_cons_succ, List.getElem_cons_succ]
  rw [delsOf_set D v l (i + 1) m (by simpa using h) (by rw [show i + 1 + m = i + (m + 1) by omega]; exact hD), show i + 1 + m = i + (m + 1) by omega]
  congr 1
  simp
def gone (L st : List Int) (x m : Nat) : Bool := (List.range x).any fun t => decide (rd L (t : Int) = (m : Int)) && !decide ((t : Int) ∈ st)
theorem gone_succ (L st : List Int) (x m : Nat) : gone L st (x + 1) m = (gone L st x m || (decide (rd L (x : Int) = (m : Int)) && !decide ((x : Int) ∈ st))) := by
 unfold gone
 rw [List.range_succ, List.any_append]
 simp
theorem gone_iff (L st : List Int) (x m : Nat) : gone L st x m = true ↔ ∃ t : Nat, t < x ∧ rd L (t : Int) = (m : Int) ∧ (t : Int) ∉ st := by
 unfold gone
 rw [List.any_eq_true]
 constructor
 ·rintro ⟨t, ht, h⟩
  rw [Bool.and_eq_true, decide_eq_true_eq, Bool.not_eq_true', decide_eq_false_iff_not] at h
  exact ⟨t, List.mem_range.1 ht, h⟩
 ·rintro ⟨t, ht, h⟩
  refine ⟨t, List.mem_range.2 ht, ?_⟩
  rw [Bool.and_eq_true, decide_eq_true_eq, Bool.not_eq_true', decide_eq_false_iff_not]
  exact h
theorem mergeN_none {α : Type} : ∀ (bs : List α) (i : Nat), mergeN i bs [] = bs
 | [], i => by simp [mergeN, atP]
 | b :: bs, i => by simp [mergeN, atP, mergeN_none bs (i + 1)]
theorem allOk_sized0 {l : List ByteArray} (h : linesOk 300 l = true) : Sized l := by
 rw [linesOk, Bool.and_eq_true, decide_eq_true_eq] at h
 refine ⟨by omega, fun x hx => ?_⟩
 have := lineOk_size (List.all_eq_true.1 h.2 x hx)
 omega
theorem contains_ev (st : List Int) (x : Int) (h : st.length ≤ 140737488351232) : Ev (fun k => slices_Contains_int_int.f k st x) (decide (x ∈ st)) := by
 have key : ∀ n i : Nat, i + n = st.length → ∃ r : Int, Ev (fun k => slices_Index_int_int.l0 k st x (st.length : Int) (i : Int)) r ∧ (0 ≤ r ↔ x ∈ st.drop i) := by
  intro n
  induction n with
  | zero =>
   intro i hi
   refine ⟨-1, Ev.succ ?_, ?_⟩
   ·simp only [slices_Index_int_int.l0]
    exact Ev.neg (by omega) (Ev.now _)
   ·rw [drop_end st i (by omega)]
    simp
  | succ n ih =>
   intro i hi
   by_cases c : x = rd st (i : Int)
   ·refine ⟨(i : Int), Ev.succ ?_, ?_⟩
    ·simp only [slices_Index_int_int.l0]
     exact Ev.pos (by omega) (Ev.pos (by omega) (Ev.pos (by omega) (Ev.pos c (Ev.now _))))
    ·rw [drop_rd st i (by omega), ← c]
     simp
   ·obtain ⟨r, hr, hr2⟩ := ih (i + 1) (by omega)
    refine ⟨r, Ev.succ ?_, ?_⟩
    ·simp only [slices_Index_int_int.l0]
     rw [up1 i (by omega)]
     exact Ev.pos (by omega) (Ev.pos (by omega) (Ev.pos (by omega) (Ev.neg c hr)))
    ·rw [drop_rd st i (by omega), hr2]
     simp [c]
 obtain ⟨r, hr, hr2⟩ := key st.length 0 (by omega)
 simp only [slices_Contains_int_int.f, slices_Index_int_int.f]
 refine Ev.bnd hr (Ev.some_ ?_)
 rw [List.drop_zero] at hr2
 exact decide_eq_decide.2 hr2
theorem copyGraph_ev (ps : List (List Int)) (h : ps.length ≤ 1048576) (hx : ∀ r ∈ ps, r.length ≤ 1048576) : Ev (fun k => impl_copyGraph.f k ps) ps := by
 have key : ∀ n i : Nat, i + n = ps.length → Ev (fun k => impl_copyGraph.l0 k (ps.take i) ps (ps.length : Int) (i : Int)) ps := by
  intro n
  induction n with
  | zero =>
   intro i hi
   refine Ev.succ ?_
   simp only [impl_copyGraph.l0]
   exact Ev.neg (by omega) (Ev.some_ (List.take_of_length_le (by omega)))
  | succ n ih =>
   intro i hi
   refine Ev.succ ?_
   simp only [impl_copyGraph.l0]
   have hi' : i < ps.length := by omega
   have hm := hx _ (List.getElem_mem hi')
   rw [up1 i (by omega), rdL_nat ps i hi']
   refine Ev.pos (by omega) (Ev.pos (by omega) (Ev.pos (by omega) (Ev.bnd0 (a := ps[i]) ?_ ?_)))
   ·simp only [slices_Clone_int_int.f]
    rw [if_pos (by omega)]
   ·refine Ev.pos (by rw [List.length_take]; omega) ?_
    rw [List.take_append_getElem hi']
    exact ih (i + 1) (by omega)
 simp only [impl_copyGraph.f]
 exact key ps.length 0 (by omega)
theorem copyWeave_ev (ps : List (List Int)) (bs : List S123) (hf : Fine ps bs) : Ev (fun k => impl_copyWeave.f k ps bs) (ps, bs) := by
 have hb := hf.2.2.1
 have key : ∀ n i : Nat, i + n = bs.length → Ev (fun k => impl_copyWeave.l0 k bs (bs.length : Int) (i : Int) ps (bs.take i)) (ps, bs) := by
  intro n
  induction n with
  | zero =>
   intro i hi
   refine Ev.succ ?_
   simp only [impl_copyWeave.l0]
   exact Ev.neg (by omega) (Ev.some_ (by rw [List.take_of_length_le (by omega)]))
  | succ n ih =>
   intro i hi
   refine Ev.succ ?_
   simp only [impl_copyWeave.l0]
   have hi' : i < bs.length := by omega
   have hm := (hf.2.2.2 _ (List.getElem_mem hi')).2
   rw [up1 i (by omega), rdW_nat bs i hi']
   refine Ev.pos (by omega) (Ev.pos (by omega) (Ev.pos (by omega) (Ev.bnd0 (a := bs[i].f3) ?_ ?_)))
   ·simp only [slices_Clone_int_int.f]
    rw [if_pos (by omega)]
   ·refine Ev.pos (by rw [List.length_take]; omega) ?_
    have e : (⟨bs[i].f0, bs[i].f1, bs[i].f2, bs[i].f3⟩ : S123) = bs[i] := rfl
    rw [e, List.take_append_getElem hi']
    exact ih (i + 1) (by omega)
 simp only [impl_copyWeave.f]
 exact Ev.bnd (copyGraph_ev ps hf.1 hf.2.1) (key bs.length 0 (by omega))
section
variable (ps : List (List Int)) (parents L st : List Int) (lines : List ByteArray) (bs : List S123)
theorem add_l0_ev (hL : L.length ≤ 1048576) (_ : bs.length ≤ 1048576) (hbx : ∀ b ∈ bs, b.f3.length ≤ 1048576) (hst : st.length ≤ 1048576) (h1 : ∀ i : Nat, i < L.length → ∃ m : Nat, rd L (i : Int) = (m : Int) ∧ m < bs.length) (h2 : ∀ i j : Nat, i < L.length → j < L.length → rd L (i : Int) = rd L (j : Int) → i = j) {R : List (List Int) × List S123 × Bool}
  (hR : Ev (fun k => impl_Weave_add.l1 k ps parents L st lines (delsOf (gone L st L.length) (ps.length : Int) 0 bs) 0 0 0) R) :
  ∀ n x : Nat, x + n = L.length → Ev (fun k => impl_Weave_add.l0 k ps parents L st lines (delsOf (gone L st x) (ps.length : Int) 0 bs) (x : Int)) R := by
 intro n
 induction n with
 | zero =>
  intro x hx
  refine Ev.succ ?_
  simp only [impl_Weave_add.l0]
  obtain rfl : x = L.length := by omega
  exact Ev.neg (by omega) hR
 | succ n ih =>
  intro x hx
  have hi := ih (x + 1) (by omega)
  refine Ev.succ ?_
  simp only [impl_Weave_add.l0]
  rw [up1 x (by omega)]
  refine Ev.pos (by omega) (Ev.pos (by omega) (Ev.bnd (contains_ev st (x : Int) (by omega)) ?_))
  by_cases c : (x : Int) ∈ st
  ·refine Ev.pos (by simpa using c) ?_
   have e : gone L st (x + 1) = gone L st x := funext fun m => by rw [gone_succ]; simp [c]
   rw [e] at hi
   exact hi
  ·refine Ev.neg (by simpa using c) ?_
   obtain ⟨m, hm, hml⟩ := h1 x (by omega)
   have hg : gone L st x m = false := by
    rw [← Bool.not_eq_true, gone_iff]
    rintro ⟨t, ht, he, _⟩
    have := h2 t x (by omega) (by omega) (by rw [he, hm])
    omega
   have hlen : m < (delsOf (gone L st x) (ps.length : Int) 0 bs).length := by rw [delsOf_length]; exact hml
   have hget : (delsOf (gone L st x) (ps.length : Int) 0 bs)[m] = bs[m] := by
    have := delsOf_get (gone L st x) (ps.length : Int) bs 0 m hml
    rw [Nat.zero_add, hg, if_neg (by simp), List.getElem?_eq_getElem hlen] at this
    exact Option.some.inj this
   have hbm := hbx _ (List.getElem_mem hml)
   rw [hm, rdW_nat _ m hlen, hget, Int.toNat_natCast, delsOf_set _ _ bs 0 m hml (by rw [Nat.zero_add]; exact hg)]
   refine Ev.pos (by omega) (Ev.pos (by omega) (Ev.pos (by omega) ?_))
   have e : gone L st (x + 1) = fun y => gone L st x y || decide (y = 0 + m) := funext fun y => by
    rw [gone_succ, hm]
    simp only [c, decide_false, Bool.not_false, Bool.and_true, Nat.zero_add]
    congr 1
    exact decide_eq_decide.2 ⟨fun h => by omega, fun h => by omega⟩
   rw [e] at hi
   exact hi
end
section
variable (ps : List (List Int)) (parents L st : List Int) (lines : List ByteArray) (bD : List S123)
theorem add_l1_ev (hlen : st.length = lines.length) (hl : lines.length ≤ 1000000) (hb : bD.length ≤ 1048576) (hps : ps.length ≤ 1048576) (hpar : parents.length ≤ 1048576) :
  ∀ (n j p : Nat) (acc : List (Nat × ByteArray)), j + n = lines.length → Up bD.length L (st.drop j) p → acc.length ≤ j → (∀ y ∈ acc, y.1 ≤ p) → (mergeN 0 bD (numb (ps.length : Int) 0 acc)).length = bD.length + acc.length →
   ∃ M, M = mergeN 0 bD (numb (ps.length : Int) 0 (acc ++ scanN L (st.drop j) (lines.drop j) p)) ∧ M.length = bD.length + (acc ++ scanN L (st.drop j) (lines.drop j) p).length ∧
   Ev (fun k => impl_Weave_add.l1 k ps parents L st lines (mergeN 0 bD (numb (ps.length : Int) 0 acc)) ((p : Int) + (acc.length : Int)) (acc.length : Int) (j : Int)) (ps ++ [parents], M, decide ((M.length : Int) ≤ 300)) := by
 intro n
 induction n with
 | zero =>
  intro j p acc hj hu ha hp hm
  rw [drop_end st j (by omega), drop_end lines j (by omega)]
  simp only [scanN, List.append_nil]
  refine ⟨_, rfl, hm, Ev.succ ?_⟩
  simp only [impl_Weave_add.l1, impl_Weave_add.fin]
  refine Ev.neg (by omega) (Ev.bnd0 (a := parents) ?_ (Ev.pos (by omega) (Ev.now _)))
  simp only [slices_Clone_int_int.f]
  rw [if_pos (by omega)]
 | succ n ih =>
  intro j p acc hj hu ha hp hm
  have hpl := Up.le _ _ hu
  rw [drop_rd st j (by omega)] at hu
  simp only [Up] at hu
  rw [drop_rd st j (by omega), drop_rdOf ByteArray.empty lines j (by omega)]
  simp only [scanN]
  by_cases c : 0 ≤ rd st (j : Int)
  ·rw [if_pos c] at hu
   obtain ⟨h1, h2, h3, h4⟩ := hu
   rw [if_pos c]
   obtain ⟨M, hM, hM1, hM2⟩ := ih (j + 1) ((rd L (rd st (j : Int))).toNat + 1) acc (by omega) h4 (by omega) (fun y hy => by have := hp y hy; omega) hm
   refine ⟨M, hM, hM1, Ev.succ ?_⟩
   simp only [impl_Weave_add.l1]
   rw [w64 (n := rd L (rd st (j : Int)) + (acc.length : Int)) (by omega) (by omega), w64 (n := rd L (rd st (j : Int)) + (acc.length : Int) + 1) (by omega) (by omega), up1 j (by omega)]
   refine Ev.pos (by omega) (Ev.pos (by omega) (Ev.pos (by omega) (Ev.pos c (Ev.pos (by omega) ?_))))
   rw [show rd L (rd st (j : Int)) + (acc.length : Int) + 1 = (((rd L (rd st (j : Int))).toNat + 1 : Nat) : Int) + (acc.length : Int) by omega]
   exact hM2
  ·rw [if_neg c] at hu
   rw [if_neg c]
   have hnum : numb (ps.length : Int) 0 (acc ++ [(p, rdOf ByteArray.empty lines (j : Int))]) = numb (ps.length : Int) 0 acc ++ [(p, ⟨rdOf ByteArray.empty lines (j : Int), (ps.length : Int), (acc.length : Int), []⟩)] := by
    rw [numb_append]
    simp [numb]
   have hge : ∀ y ∈ numb (ps.length : Int) 0 acc, y.1 ≤ p := fun y hy => by
    obtain ⟨s, h1, _⟩ := numb_mem _ _ _ _ hy
    exact hp _ h1
   have hins := mergeN_insert bD 0 p (numb (ps.length : Int) 0 acc) (⟨rdOf ByteArray.empty lines (j : Int), (ps.length : Int), (acc.length : Int), []⟩ : S123) (by omega) (by omega) hge
   rw [← hnum] at hins
   have hfil : ((numb (ps.length : Int) 0 acc).filter fun y => decide (0 ≤ y.1)).length = acc.length := by
    rw [List.filter_eq_self.2 (fun y _ => by simp), numb_length]
   rw [hfil, Nat.sub_zero] at hins
   have hlm : (mergeN 0 bD (numb (ps.length : Int) 0 (acc ++ [(p, rdOf ByteArray.empty lines (j : Int))]))).length = bD.length + (acc ++ [(p, rdOf ByteArray.empty lines (j : Int))]).length := by
    rw [hins, List.length_insertIdx_of_le_length (by omega), hm, List.length_append]
    simp
    omega
   obtain ⟨M, hM, hM1, hM2⟩ := ih (j + 1) p (acc ++ [(p, rdOf ByteArray.empty lines (j : Int))]) (by omega) hu (by simp; omega) (fun y hy => by
    rcases List.mem_append.1 hy with h | h
    ·exact hp y h
    ·rw [List.mem_singleton.1 h]; exact Nat.le_refl _) hlm
   rw [List.append_assoc, List.singleton_append] at hM hM1
   refine ⟨M, hM, hM1, Ev.succ ?_⟩
   simp only [impl_Weave_add.l1]
   rw [w64 (n := (p : Int) + (acc.length : Int) + 1) (by omega) (by omega), w64 (n := (acc.length : Int) + 1) (by omega) (by omega), up1 j (by omega), show ((p : Int) + (acc.length : Int)).toNat = p + acc.length by omega, ← hins]
   refine Ev.pos (by omega) (Ev.pos (by omega) (Ev.pos (by omega) (Ev.neg (by omega) (Ev.pos (by omega) (Ev.pos (by omega) (Ev.pos (by omega) ?_))))))
   rw [List.length_append, List.length_singleton] at hM2
   rw [show (p : Int) + (acc.length : Int) + 1 = (p : Int) + ((acc.length + 1 : Nat) : Int) by omega, show (acc.length : Int) + 1 = ((acc.length + 1 : Nat) : Int) by omega]
   exact hM2
end
theorem rdLL_nat (l : List (List ByteArray)) (i : Nat) (h : i < l.length) : rd_L9 l (i : Int) = l[i] := by
 unfold rd_L9
 exact rdOf_nat _ l i h
section
variable (ps : List (List Int)) (parents L : List Int) (lines : List ByteArray) (st : List Int) (bs : List S123) (v : Int)
theorem sp_l0_ev (hlen : st.length = lines.length) (hl : lines.length ≤ 1000000) (hb : bs.length ≤ 1048576) {R : List (List Int) × List S123 × Int × Int} :
  ∀ (n j p : Nat) (acc : List (Nat × ByteArray)) (x12 : List (List ByteArray)) (x13 : List Bool), j + n = lines.length → Up bs.length L (st.drop j) p → acc.length ≤ j →
   x12.length = bs.length + 1 → (∀ i : Nat, i ≤ bs.length → rd_L9 x12 (i : Int) = atP i acc) → x13.length = bs.length →
   (∀ (y12 : List (List ByteArray)) (y13 : List Bool), y12.length = bs.length + 1 → (∀ i : Nat, i ≤ bs.length → rd_L9 y12 (i : Int) = atP i (acc ++ scanN L (st.drop j) (lines.drop j) p)) → y13.length = bs.length →
    (∀ m : Nat, m < bs.length → (gB y13 m = true ↔ gB x13 m = true ∨ ∃ z ∈ st.drop j, 0 ≤ z ∧ rd L z = (m : Int))) → Ev (fun k => spec_l06Add.l1 k parents v y12 y13 0 ps bs []) R) →
   Ev (fun k => spec_l06Add.l0 k parents lines v L st x12 x13 (p : Int) (j : Int) ps bs) R := by
 intro n
 induction n with
 | zero =>
  intro j p acc x12 x13 hj hu ha h12 hi12 h13 hR
  refine Ev.succ ?_
  simp only [spec_l06Add.l0]
  refine Ev.neg (by omega) (hR x12 x13 h12 (fun i hi => ?_) h13 (fun m hm => ?_))
  ·rw [hi12 i hi, drop_end st j (by omega)]
   simp [scanN]
  ·rw [drop_end st j (by omega)]
   simp
 | succ n ih =>
  intro j p acc x12 x13 hj hu ha h12 hi12 h13 hR
  have hpl := Up.le _ _ hu
  rw [drop_rd st j (by omega)] at hu hR
  rw [drop_rdOf ByteArray.empty lines j (by omega)] at hR
  simp only [Up] at hu
  simp only [scanN] at hR
  refine Ev.succ ?_
  simp only [spec_l06Add.l0]
  by_cases c : 0 ≤ rd st (j : Int)
  ·rw [if_pos c] at hu
   obtain ⟨h1, h2, h3, h4⟩ := hu
   rw [if_pos c] at hR
   obtain ⟨m0, hm0⟩ : ∃ m : Nat, rd L (rd st (j : Int)) = (m : Int) := ⟨(rd L (rd st (j : Int))).toNat, by omega⟩
   rw [hm0] at h2 h3 h4 hR ⊢
   rw [Int.toNat_natCast] at h4 hR
   rw [up1 m0 (by omega), w64 (n := ((m0 + 1 : Nat) : Int) - 1) (by omega) (by omega), up1 j (by omega), show (((m0 + 1 : Nat) : Int) - 1).toNat = m0 by omega]
   refine Ev.pos (by omega) (Ev.pos (by omega) (Ev.pos (by omega) (Ev.pos c (Ev.pos c (Ev.pos (by omega) (Ev.pos (by omega) (Ev.pos (by omega) ?_)))))))
   refine ih (j + 1) (m0 + 1) acc x12 (x13.set m0 true) (by omega) h4 (by omega) h12 hi12 (by rw [List.length_set]; exact h13) (fun y12 y13 g1 g2 g3 g4 => hR y12 y13 g1 g2 g3 (fun m hm => ?_))
   rw [g4 m hm, gB_set x13 m0 m (by omega), Bool.or_eq_true, decide_eq_true_eq]
   constructor
   ·rintro ((h | h) | ⟨z, hz, h⟩)
    ·exact .inl h
    ·exact .inr ⟨_, List.mem_cons_self .., c, by rw [hm0, h]⟩
    ·exact .inr ⟨z, List.mem_cons_of_mem _ hz, h⟩
   ·rintro (h | ⟨z, hz, h0, h⟩)
    ·exact .inl (.inl h)
    ·rcases List.mem_cons.1 hz with rfl | hz
     ·exact .inl (.inr (by rw [hm0] at h; omega))
     ·exact .inr ⟨z, hz, h0, h⟩
  ·rw [if_neg c] at hu hR
   have hp12 : p < x12.length := by omega
   have hrow := hi12 p hpl
   have hal : (atP p acc).length ≤ acc.length := by unfold atP; rw [List.length_map]; exact List.length_filter_le _ _
   rw [hrow, Int.toNat_natCast, up1 j (by omega)]
   refine Ev.pos (by omega) (Ev.pos (by omega) (Ev.pos (by omega) (Ev.neg c (Ev.pos (by omega) (Ev.pos (by omega) (Ev.pos (by omega) ?_))))))
   refine ih (j + 1) p (acc ++ [(p, rdOf ByteArray.empty lines (j : Int))]) _ x13 (by omega) hu (by simp; omega) (by rw [List.length_set]; exact h12) (fun i hi => ?_) h13 (fun y12 y13 g1 g2 g3 g4 => hR y12 y13 g1 (fun i hi => by rw [g2 i hi, List.append_assoc, List.singleton_append]) g3 (fun m hm => ?_))
   ·rw [rdLL_nat _ i (by rw [List.length_set]; omega), atP_append, atP_one]
    by_cases e : p = i
    ·subst e
     rw [List.getElem_set_self, if_pos rfl]
    ·rw [List.getElem_set_ne e, if_neg e, List.append_nil, ← hi12 i hi, rdLL_nat _ i (by omega)]
   ·rw [g4 m hm]
    constructor
    ·rintro (h | ⟨z, hz, h⟩)
     ·exact .inl h
     ·exact .inr ⟨z, List.mem_cons_of_mem _ hz, h⟩
    ·rintro (h | ⟨z, hz, h0, h⟩)
     ·exact .inl h
     ·rcases List.mem_cons.1 hz with rfl | hz
      ·exact absurd h0 c
      ·exact .inr ⟨z, hz, h0, h⟩
theorem sp_l1_ev (hps : ps.length ≤ 1048576) (hx : ∀ r ∈ ps, r.length ≤ 1048576) (hpar : parents.length ≤ 1048576) (x12 : List (List ByteArray)) (x13 t : List Bool) (hv : v = (ps.length : Int)) (ht : Ev (fun k => spec_l05Set.f k ps parents) t) {R : List (List Int) × List S123 × Int × Int}
  (hR : Ev (fun k => spec_l06Add.l2 k v x12 x13 t 0 0 ps bs (ps ++ [parents]) []) R) :
  ∀ n x : Nat, x + n = ps.length → Ev (fun k => spec_l06Add.l1 k parents v x12 x13 (x : Int) ps bs (ps.take x)) R := by
 intro n
 induction n with
 | zero =>
  intro x hx'
  refine Ev.succ ?_
  simp only [spec_l06Add.l1]
  rw [List.take_of_length_le (by omega)]
  refine Ev.neg (by omega) (Ev.bnd0 (a := []) rfl (Ev.pos (by simp; omega) (Ev.pos (by omega) (Ev.bnd ht ?_))))
  simpa using hR
 | succ n ih =>
  intro x hx'
  refine Ev.succ ?_
  simp only [spec_l06Add.l1]
  have hi' : x < ps.length := by omega
  have hm := hx _ (List.getElem_mem hi')
  rw [up1 x (by omega), rdL_nat ps x hi']
  refine Ev.pos (by omega) (Ev.bnd0 (a := []) rfl (Ev.pos (by omega) (Ev.pos (by omega) (Ev.pos (by simp; omega) (Ev.pos (by rw [List.length_take]; omega) ?_)))))
  rw [List.nil_append, List.take_append_getElem hi']
  exact ih (x + 1) (by omega)
end
def restM (bD : List S123) (ns : List (Nat × S123)) (i : Nat) : List S123 := match bD.drop (i - 1) with
 | [] => []
 | b :: t => b :: mergeN i t ns
theorem restM_end (bD : List S123) (ns : List (Nat × S123)) (i : Nat) (h : bD.length < i) : restM bD ns i = [] := by
 unfold restM
 rw [List.drop_eq_nil_iff.2 (by omega)]
theorem mergeN_rest (bD : List S123) (ns : List (Nat × S123)) (i : Nat) : mergeN i (bD.drop i) ns = atP i ns ++ restM bD ns (i + 1) := by
 unfold restM
 rw [Nat.add_sub_cancel]
 cases bD.drop i with
 | nil => simp [mergeN]
 | cons b t => simp [mergeN]
theorem restM_cons (bD : List S123) (ns : List (Nat × S123)) (i : Nat) (h : i < bD.length) : restM bD ns (i + 1) = bD[i] :: (atP (i + 1) ns ++ restM bD ns (i + 2)) := by
 have := mergeN_rest bD ns (i + 1)
 rw [← this]
 conv => lhs; unfold restM
 rw [Nat.add_sub_cancel, List.drop_eq_getElem_cons h]
def goneS (x13 t : List Bool) (bs : List S123) (m : Nat) : Bool := !gB x13 m && match bs[m]? with
 | some b => liveB (gB t) b.f1 b.f3
 | none => false
section
variable (ps P : List (List Int)) (bs : List S123) (v : Int) (news : List (Nat × ByteArray)) (x12 : List (List ByteArray)) (x13 t : List Bool)
theorem sp_l3_ev (i : Nat) (hi : i < x12.length) (h12 : rd_L9 x12 (i : Int) = atP i news) (hn : news.length ≤ 1000000) (hib : i ≤ 1048576) {R : List (List Int) × List S123 × Int × Int} :
  ∀ (n j ord : Nat) (acc : List S123), j + n = (atP i news).length → ord + n ≤ 1000000 → acc.length + n ≤ 1000000000 →
   Ev (fun k => spec_l06Add.l2 k v x12 x13 t ((ord + n : Nat) : Int) ((i + 1 : Nat) : Int) ps bs P (acc ++ numbL v ord ((atP i news).drop j))) R →
   Ev (fun k => spec_l06Add.l3 k v x12 x13 t (ord : Int) (i : Int) (j : Int) ps bs P acc) R := by
 intro n
 induction n with
 | zero =>
  intro j ord acc hj ho hacc hR
  refine Ev.succ ?_
  simp only [spec_l06Add.l3]
  rw [drop_end (atP i news) j (by omega)] at hR
  rw [h12, up1 i (by omega)]
  refine Ev.pos (by omega) (Ev.pos (by omega) (Ev.neg (by omega) ?_))
  simpa [numbL] using hR
 | succ n ih =>
  intro j ord acc hj ho hacc hR
  refine Ev.succ ?_
  simp only [spec_l06Add.l3]
  have hla : (atP i news).length ≤ news.length := by unfold atP; rw [List.length_map]; exact List.length_filter_le _ _
  rw [drop_rdOf ByteArray.empty (atP i news) j (by omega)] at hR
  rw [h12, up1 ord (by omega), up1 j (by omega)]
  refine Ev.pos (by omega) (Ev.pos (by omega) (Ev.pos (by omega) (Ev.pos (by omega) (Ev.pos (by omega) ?_))))
  refine ih (j + 1) (ord + 1) _ (by omega) (by omega) (by rw [List.length_append, List.length_singleton]; omega) ?_
  rw [List.append_assoc, show ord + 1 + n = ord + (n + 1) by omega]
  exact hR
theorem sp_l2_ev (hb : bs.length ≤ 1000000) (hbx : ∀ b ∈ bs, b.f3.length ≤ 1048576) (ht : t.length ≤ 1000000) (h12 : x12.length = bs.length + 1) (hi12 : ∀ i : Nat, i ≤ bs.length → rd_L9 x12 (i : Int) = atP i news) (h13 : x13.length = bs.length) (hn : news.length ≤ 100000) (hu : UpN news) (T : List S123) (hT : T.length ≤ 1000000000) :
  ∀ (n i : Nat) (acc : List S123), i + n = bs.length → acc ++ restM (delsOf (goneS x13 t bs) v 0 bs) (numb v 0 news) (i + 1) = T →
   Ev (fun k => spec_l06Add.l2 k v x12 x13 t (below (i + 1) news : Int) ((i + 1 : Nat) : Int) ps bs P acc) (if (T.length : Int) > 300 then ([], [], 0, 4) else (P, T, v, 0)) := by
 intro n
 induction n with
 | zero =>
  intro i acc hi hacc
  rw [restM_end _ _ _ (by rw [delsOf_length]; omega), List.append_nil] at hacc
  subst hacc
  refine Ev.succ ?_
  simp only [spec_l06Add.l2]
  refine Ev.neg (by omega) ?_
  by_cases c : (acc.length : Int) > 300
  ·exact Ev_eq (Ev.pos c (Ev.now _)) (by rw [if_pos c])
  ·exact Ev_eq (Ev.neg c (Ev.now _)) (by rw [if_neg c])
 | succ n ih =>
  intro i acc hi hacc
  have hi' : i < bs.length := by omega
  have hbm := hbx _ (List.getElem_mem hi')
  have hdl : i < (delsOf (goneS x13 t bs) v 0 bs).length := by rw [delsOf_length]; exact hi'
  have hget : (delsOf (goneS x13 t bs) v 0 bs)[i] = if goneS x13 t bs i = true then ⟨bs[i].f0, bs[i].f1, bs[i].f2, bs[i].f3 ++ [v]⟩ else bs[i] := by
   have := delsOf_get (goneS x13 t bs) v bs 0 i hi'
   rw [Nat.zero_add, List.getElem?_eq_getElem hdl] at this
   exact Option.some.inj this
  rw [restM_cons _ _ i hdl, hget] at hacc
  have hgone : goneS x13 t bs i = (!gB x13 i && liveB (gB t) bs[i].f1 bs[i].f3) := by
   unfold goneS
   rw [List.getElem?_eq_getElem hi']
  have hat : atP (i + 1) (numb v 0 news) = numbL v (below (i + 1) news) (atP (i + 1) news) := by rw [numb_at v (i + 1) news 0 hu, Nat.zero_add]
  have hlat : below (i + 1) news + (atP (i + 1) news).length ≤ news.length := by
   have h1 := below_succ (i + 1) news
   have h2 : below (i + 1 + 1) news ≤ news.length := List.length_filter_le _ _
   omega
  have hal : acc.length < 1000000000 := by
   have := congrArg List.length hacc
   rw [List.length_append, List.length_cons] at this
   omega
  -- what is done with the body as it is told
  have step : ∀ b' : S123, b' = (if goneS x13 t bs i = true then ⟨bs[i].f0, bs[i].f1, bs[i].f2, bs[i].f3 ++ [v]⟩ else bs[i]) →
    Ev (fun k => spec_l06Add.j3 k v x12 x13 t (below (i + 1) news : Int) ((i + 1 : Nat) : Int) ps bs P (acc ++ [b'])) (if (T.length : Int) > 300 then ([], [], 0, 4) else (P, T, v, 0)) := by
   intro b' hb'
   rw [← hb', hat] at hacc
   have hlen := congrArg List.length hacc
   simp only [List.length_append, List.length_cons] at hlen
   refine Ev.succ ?_
   simp only [spec_l06Add.j3]
   have hnl : (numbL v (below (i + 1) news) (atP (i + 1) news)).length = (atP (i + 1) news).length := by
    rw [← hat]
    unfold atP
    rw [List.length_map, List.length_map]
    have : ∀ (l : List (Nat × ByteArray)) (c : Nat), ((numb v c l).filter fun x => decide (x.1 = i + 1)).length = (l.filter fun x => decide (x.1 = i + 1)).length := by
     intro l
     induction l with
     | nil => intro c; rfl
     | cons y l ih2 =>
      intro c
      obtain ⟨a, s⟩ := y
      simp only [numb, List.filter_cons]
      by_cases e : a = i + 1 <;> simp [e, ih2]
    exact this news 0
   refine sp_l3_ev ps P bs v news x12 x13 t (i + 1) (by omega) (hi12 (i + 1) (by omega)) (by omega) (by omega) (atP (i + 1) news).length 0 (below (i + 1) news) _ (by omega) (by omega) (by rw [List.length_append, List.length_singleton]; omega) ?_
   rw [List.drop_zero, ← below_succ]
   exact ih (i + 1) _ (by omega) (by rw [List.append_assoc, List.append_assoc]; exact hacc)
  refine Ev.succ ?_
  simp only [spec_l06Add.l2]
  rw [w64 (n := ((i + 1 : Nat) : Int) - 1) (by omega) (by omega), show ((i + 1 : Nat) : Int) - 1 = (i : Int) by omega, rdW_nat bs i hi', rdB_nat]
  refine Ev.pos (by omega) (Ev.pos (by omega) (Ev.pos (by omega) (Ev.pos (by omega) (Ev.bnd0 (a := []) rfl (Ev.pos (by simp; omega) (Ev.bnd0 (a := bs[i].f3) rfl (Ev.pos (by omega) ?_)))))))
  by_cases c : gB x13 i = true
  ·refine Ev.pos c (Ev.pos (by omega) (step _ ?_))
   rw [hgone, c]
   rfl
  ·refine Ev.neg c (Ev.bnd (spec_l06Live_ev _ _ _ _ t ht (by omega)) ?_)
   have c' : gB x13 i = false := by simpa using c
   by_cases d : liveB (gB t) bs[i].f1 bs[i].f3 = true
   ·refine Ev.pos d (Ev.pos (by omega) (Ev.pos (by omega) (step _ ?_)))
    rw [hgone, c', d]
    rfl
   ·refine Ev.neg d (Ev.pos (by omega) (step _ ?_))
    have d' : liveB (gB t) bs[i].f1 bs[i].f3 = false := by simpa using d
    rw [hgone, d', Bool.and_false]
    rfl
theorem sp_start_ev (hb : bs.length ≤ 1000000) (hbx : ∀ b ∈ bs, b.f3.length ≤ 1048576) (ht : t.length ≤ 1000000) (h12 : x12.length = bs.length + 1) (hi12 : ∀ i : Nat, i ≤ bs.length → rd_L9 x12 (i : Int) = atP i news) (h13 : x13.length = bs.length) (hn : news.length ≤ 100000) (hu : UpN news) (T : List S123) (hT : T.length ≤ 1000000000) (hM : mergeN 0 (delsOf (goneS x13 t bs) v 0 bs) (numb v 0 news) = T) :
  Ev (fun k => spec_l06Add.l2 k v x12 x13 t 0 0 ps bs P []) (if (T.length : Int) > 300 then ([], [], 0, 4) else (P, T, v, 0)) := by
 have hm := mergeN_rest (delsOf (goneS x13 t bs) v 0 bs) (numb v 0 news) 0
 rw [List.drop_zero, hM, numb_at v 0 news 0 hu, Nat.zero_add] at hm
 have hb0 : below 0 news = 0 := below_none 0 news (fun x _ => Nat.zero_le _)
 have hlat : (atP 0 news).length ≤ news.length := by unfold atP; rw [List.length_map]; exact List.length_filter_le _ _
 refine Ev.succ ?_
 simp only [spec_l06Add.l2]
 refine Ev.pos (by omega) (Ev.neg (by omega) (Ev.succ ?_))
 simp only [spec_l06Add.j3]
 refine sp_l3_ev ps P bs v news x12 x13 t 0 (by omega) (hi12 0 (by omega)) (by omega) (by omega) (atP 0 news).length 0 0 [] (by omega) (by omega) (by simp; omega) ?_
 have h1 := below_succ 0 news
 rw [hb0] at h1 hm
 rw [List.drop_zero, ← h1, List.nil_append]
 exact sp_l2_ev ps P bs v news x12 x13 t hb hbx ht h12 hi12 h13 hn hu T hT bs.length 0 _ (by omega) hm.symm
end
theorem placesL_iff (p : Nat → Bool) : ∀ (bs : List S123) (i m : Nat), ((i + m : Nat) : Int) ∈ placesL p bs i ↔ ∃ h : m < bs.length, liveB p bs[m].f1 bs[m].f3 = true
 | [], i, m => by simp [placesL]
 | b :: bs, i, 0 => by
  simp only [placesL, Nat.add_zero, List.mem_append, List.getElem_cons_zero, List.length_cons]
  constructor
  ·rintro (h | h)
   ·split at h
    ·rename_i c; exact ⟨by omega, c⟩
    ·simp at h
   ·have := placesL_mem p bs (i + 1) _ h
    omega
  ·rintro ⟨_, h⟩
   left
   rw [if_pos h]
   simp
 | b :: bs, i, m + 1 => by
  have ih := placesL_iff p bs (i + 1) m
  simp only [placesL, List.mem_append, List.getElem_cons_succ, List.length_cons]
  rw [show i + (m + 1) = i + 1 + m by omega, ih]
  constructor
  ·rintro (h | ⟨h, h2⟩)
   ·split at h
    ·simp at h; omega
    ·simp at h
   ·exact ⟨by omega, h2⟩
  ·rintro ⟨h, h2⟩
   exact .inr ⟨by omega, h2⟩
theorem placesL_rise (p : Nat → Bool) : ∀ (bs : List S123) (i : Nat), (placesL p bs i).Pairwise (· < ·)
 | [], i => by simp [placesL]
 | b :: bs, i => by
  have ih := placesL_rise p bs (i + 1)
  simp only [placesL]
  split
  ·refine List.pairwise_cons.2 ⟨fun x hx => ?_, ih⟩
   have := placesL_mem p bs (i + 1) x hx
   omega
  ·simpa using ih
theorem rise_lt {L : List Int} (h : L.Pairwise (· < ·)) {i j : Nat} (hij : i < j) (hj : j < L.length) : rd L (i : Int) < rd L (j : Int) := by
 rw [rd_nat L i (by omega), rd_nat L j hj]
 exact List.pairwise_iff_getElem.1 h i j (by omega) hj hij
theorem rise_inj {L : List Int} (h : L.Pairwise (· < ·)) {i j : Nat} (hi : i < L.length) (hj : j < L.length) (e : rd L (i : Int) = rd L (j : Int)) : i = j := by
 rcases Nat.lt_trichotomy i j with c | c | c
 ·have := rise_lt h c hj; omega
 ·exact c
 ·have := rise_lt h c hi; omega
theorem up_mem {n : Nat} {L : List Int} : ∀ (st : List Int) (p : Nat), Up n L st p → ∀ z ∈ st, 0 ≤ z → z < (L.length : Int)
 | [], _, _, z, hz, _ => by simp at hz
 | y :: st, p, h, z, hz, h0 => by
  simp only [Up] at h
  rcases List.mem_cons.1 hz with rfl | hz
  ·rw [if_pos h0] at h
   exact h.1
  ·split at h
   ·exact up_mem st _ h.2.2.2 z hz h0
   ·exact up_mem st _ h z hz h0
theorem go_lines (ps : List (List Int)) (all : List S123) : ∀ (l : List S123) (born : List Int), bodiesGo ps all l born = true → ∀ b ∈ l, lineOk b.f0 = true ∧ asc (ps.length : Int) none b.f3 = true
 | [], _, _, b, hb => by simp at hb
 | c :: l, born, h, b, hb => by
  rw [bodiesGo, Bool.and_eq_true] at h
  rcases List.mem_cons.1 hb with rfl | hb
  ·have h1 := h.1
   simp only [bodyOk, Bool.and_eq_true] at h1
   exact ⟨h1.1.1.1.1, h1.1.2⟩
  ·exact go_lines ps all l _ h.2 b hb
theorem weaveOk_lines {ps : List (List Int)} {bs : List S123} (h : weaveOk ps bs = true) : ∀ b ∈ bs, lineOk b.f0 = true ∧ asc (ps.length : Int) none b.f3 = true := by
 simp only [weaveOk, Bool.and_eq_true, decide_eq_true_eq] at h
 exact go_lines ps bs bs _ h.2
theorem pS_same {ps : List (List Int)} {l : List Int} {p : Nat → Bool} (h : ∀ u, p u = true ↔ ∃ s : Nat, (s : Int) ∈ l ∧ s < ps.length ∧ Anc ps s u) : p = pS ps l := by
 funext u
 rw [Bool.eq_iff_iff, h u, pS_iff]
noncomputable def addT (ps : List (List Int)) (bs : List S123) (parents : List Int) (lines : List ByteArray) : List S123 :=
 let L := placesL (pS ps parents) bs 0
 let st := pairs 0 (linesL bs L) lines
 mergeN 0 (delsOf (gone L st L.length) (ps.length : Int) 0 bs) (numb (ps.length : Int) 0 (scanN L st lines 0))
open Classical in
noncomputable def addR (ps : List (List Int)) (bs : List S123) (parents : List Int) (lines : List ByteArray) : List (List Int) × List S123 × Int × Int :=
 if weaveOk ps bs = true then (if (parents.length : Int) ≤ 4 ∧ asc (ps.length : Int) none parents = true then (if linesOk 80 lines = true then (if ps.length = 40 then ([], [], 0, 4) else (if ((addT ps bs parents lines).length : Int) > 300 then ([], [], 0, 4) else (ps ++ [parents], addT ps bs parents lines, (ps.length : Int), 0))) else ([], [], 0, 3)) else ([], [], 0, 2)) else ([], [], 0, 1)
section
variable (ps : List (List Int)) (bs : List S123) (parents : List Int) (lines : List ByteArray) (hf : Fine ps bs) (hw : weaveOk ps bs = true) (hp4 : (parents.length : Int) ≤ 4) (hasc : asc (ps.length : Int) none parents = true) (hlo : linesOk 80 lines = true)
include hf hw hp4 hasc hlo
theorem add_facts : ∃ L st, L = placesL (pS ps parents) bs 0 ∧ st = pairs 0 (linesL bs L) lines ∧ st.length = lines.length ∧ lines.length ≤ 80 ∧ L.length ≤ bs.length ∧ bs.length ≤ 300 ∧ ps.length ≤ 40 ∧ L.Pairwise (· < ·) ∧
  (∀ i : Nat, i < L.length → ∃ m : Nat, rd L (i : Int) = (m : Int) ∧ m < bs.length) ∧ Up bs.length L st 0 ∧ linesOk 300 (linesL bs L) = true ∧ linesOk 300 lines = true := by
 have _ := hf
 have _ := hp4
 have _ := hasc
 obtain ⟨hg, h3⟩ := weaveOk_graph hw
 have hn := graphOk_len hg
 have hll := linesOk_len hlo
 refine ⟨_, _, rfl, rfl, pairs_length _ _ _, by omega, placesL_length _ _ _, h3, hn, placesL_rise _ _ _, fun i hi => ?_, ?_, ?_, ?_⟩
 ·obtain ⟨m, h1, _, h2⟩ := placesL_in (pS ps parents) bs i hi
  exact ⟨m, h1, h2⟩
 ·refine pairs_up (fun i hi => ?_) (fun i hi => ?_) _ 0 _ _ 0 (Nat.le_refl _) (by simp [linesL]) (Nat.zero_le _) (fun hi => ?_)
  ·obtain ⟨m, h1, _, h2⟩ := placesL_in (pS ps parents) bs i hi
   rw [h1]; omega
  ·exact rise_lt (placesL_rise _ _ _) (by omega) hi
  ·obtain ⟨m, h1, _, h2⟩ := placesL_in (pS ps parents) bs 0 hi
   rw [h1]; omega
 ·have hpl := placesL_length (pS ps parents) bs 0
  rw [linesOk, Bool.and_eq_true, decide_eq_true_eq]
  refine ⟨by simp only [linesL, List.length_map]; omega, List.all_eq_true.2 fun x hx => ?_⟩
  obtain ⟨y, hy, rfl⟩ := List.mem_map.1 hx
  obtain ⟨j, hj, rfl⟩ := List.getElem_of_mem hy
  obtain ⟨m, _, h1, h2⟩ := placesL_in (pS ps parents) bs j hj
  rw [h1, rdW_nat bs m h2]
  exact (weaveOk_lines hw _ (List.getElem_mem h2)).1
 ·rw [linesOk, Bool.and_eq_true, decide_eq_true_eq] at hlo ⊢
  exact ⟨by omega, hlo.2⟩
theorem impl_add_ev (h40 : ps.length ≠ 40) : Ev (fun k => impl_Weave_add.f k ps bs parents lines) (ps ++ [parents], addT ps bs parents lines, decide (((addT ps bs parents lines).length : Int) ≤ 300)) ∧ (addT ps bs parents lines).length ≤ bs.length + lines.length := by
 obtain ⟨L, st, rfl, rfl, hst, hl80, hLl, h3, hn, hrise, hplace, hup, hl1, hl2⟩ := add_facts ps bs parents lines hf hw hp4 hasc hlo
 obtain ⟨hg, _⟩ := weaveOk_graph hw
 have hd := graphOk_down hg
 obtain ⟨x, hx, hxl, hxw, hxc⟩ := impl_closures_ev ps hd (by omega) (rows4 hg)
 obtain ⟨s, hs, hs64, hsb⟩ := union_bits ps bs hg hf h3 x hxl hxw hxc parents (by omega) (fun p hp => by have := asc_range _ _ _ hasc p hp; omega)
 have hLe := impl_liveIn_ev ps bs s hs64 (by omega) (fun b hb => (hf.2.2.2 b hb).2)
 rw [hsb] at hLe
 generalize hLq : placesL (pS ps parents) bs 0 = L at *
 have hls := impl_linesAt_ev ps bs L (by omega) (fun j hj => by obtain ⟨m, h1, h2⟩ := hplace j hj; exact ⟨m, h1, by rw [← rd_nat L j hj, h1], h2⟩)
 have hll : (linesL bs L).length ≤ 300 := by simp only [linesL, List.length_map]; omega
 have hal := impl_align_ev (linesL bs L) lines (by omega) (by omega)
 generalize hsq : pairs 0 (linesL bs L) lines = st at *
 obtain ⟨M, hM, hM1, hM2⟩ := add_l1_ev ps parents L st lines (delsOf (gone L st L.length) (ps.length : Int) 0 bs) hst (by omega) (by rw [delsOf_length]; omega) (by omega) (by omega) lines.length 0 0 [] (by omega) (by rw [delsOf_length, List.drop_zero]; exact hup) (by simp) (by simp) (by rw [show mergeN 0 (delsOf (gone L st L.length) (ps.length : Int) 0 bs) (numb (ps.length : Int) 0 []) = delsOf (gone L st L.length) (ps.length : Int) 0 bs from mergeN_none _ _]; simp)
 simp only [List.nil_append, List.drop_zero] at hM hM1 hM2
 have hT : addT ps bs parents lines = M := by
  rw [hM]
  unfold addT
  simp only [hLq, hsq]
 rw [hT]
 refine ⟨?_, ?_⟩
 ·simp only [impl_Weave_add.f]
  have h0 := add_l0_ev ps parents L st lines bs (by omega) (by omega) (fun b hb => (hf.2.2.2 b hb).2) (by omega) hplace (fun i j hi hj e => rise_inj hrise hi hj e) (R := (ps ++ [parents], M, decide ((M.length : Int) ≤ 300))) (by
   have := hM2
   rw [show mergeN 0 (delsOf (gone L st L.length) (ps.length : Int) 0 bs) (numb (ps.length : Int) 0 []) = delsOf (gone L st L.length) (ps.length : Int) 0 bs from mergeN_none _ _] at this
   simpa using this) L.length 0 (by omega)
  rw [show gone L st 0 = fun _ => false from funext fun m => by simp [gone], delsOf_none] at h0
  exact Ev.neg (by omega) (Ev.bnd hx (Ev.bnd hs (Ev.bnd hLe (Ev.bnd hls (Ev.bnd hal h0)))))
 ·rw [hM1, delsOf_length]
  have := scanN_length L st lines 0
  omega
theorem spec_add_ev : Ev (fun k => spec_l06Add.f k ps bs parents lines) (if ps.length = 40 then ([], [], 0, 4) else (if ((addT ps bs parents lines).length : Int) > 300 then ([], [], 0, 4) else (ps ++ [parents], addT ps bs parents lines, (ps.length : Int), 0))) := by
 obtain ⟨L, st, hLd, hsd, hst, hl80, hLl, h3, hn, hrise, hplace, hup, hl1, hl2⟩ := add_facts ps bs parents lines hf hw hp4 hasc hlo
 obtain ⟨hg, _⟩ := weaveOk_graph hw
 have hd := graphOk_down hg
 obtain ⟨t, ht, htl, hte⟩ := spec_l05Set_ev ps parents hd (by omega) (by omega) (rows4 hg)
 have e := pS_same hte
 have hpar : Ev (fun k => spec_l06Parents.f k ps bs parents) true := by
  simp only [spec_l06Parents.f]
  exact Ev.pos hp4 (Ev.bnd (spec_l05Rise_ev parents (ps.length : Int) (by omega) (by omega) (by omega)) (Ev.some_ hasc))
 have hlines : Ev (fun k => spec_LinesOk.f k lines) true := Ev_eq (spec_LinesOk_ev lines (allOk_sized0 hl2)) hlo
 simp only [spec_l06Add.f]
 refine Ev.bnd hpar (Ev.pos rfl (Ev.bnd hlines (Ev.pos rfl ?_)))
 by_cases c40 : ps.length = 40
 ·rw [if_pos c40]
  exact Ev.pos (by omega) (Ev.now _)
 rw [if_neg c40]
 have hseen : Ev (fun k => spec_l06Seen.f k ps bs parents) L := by
  simp only [spec_l06Seen.f]
  rw [hLd, ← e]
  exact Ev.bnd ht (Ev.bnd (spec_l06Places_ev ps bs t (by omega) (fun b hb => (hf.2.2.2 b hb).2) (by omega)) (Ev.now _))
 have hll : (linesL bs L).length ≤ 300 := by simp only [linesL, List.length_map]; omega
 have hls := spec_l06Lines_ev ps bs L (by omega) (fun j hj => by obtain ⟨m, h1, h2⟩ := hplace j hj; exact ⟨m, h1, by rw [← rd_nat L j hj, h1], h2⟩)
 have hal : Ev (fun k => spec_Align.f k (linesL bs L) lines) st := Ev_eq (spec_Align_ev _ _ (allOk_sized0 hl1) (allOk_sized0 hl2)) (by rw [alignL, if_pos ⟨hl1, hl2⟩, hsd])
 refine Ev.neg (by omega) (Ev.bnd hseen (Ev.bnd hls (Ev.bnd hal ?_)))
 rw [up1 bs.length (by omega), Int.toNat_natCast, Int.toNat_natCast]
 refine Ev.pos (by omega) (Ev.pos (by omega) (Ev.pos (by omega) (Ev.pos (by omega) ?_)))
 have hsc := scanN_length L st lines 0
 refine sp_l0_ev ps parents L lines st bs (ps.length : Int) hst (by omega) (by omega) lines.length 0 0 [] _ _ (by omega) (by rw [List.drop_zero]; exact hup) (by simp) (by simp) (fun i hi => by rw [rdLL_nat _ i (by simp; omega)]; simp [atP]) (by simp) (fun y12 y13 g1 g2 g3 g4 => ?_)
 simp only [List.nil_append, List.drop_zero] at g2 g4
 have hgone : ∀ m, 0 ≤ m → m < 0 + bs.length → goneS y13 t bs m = gone L st L.length m := by
  intro m _ hm
  rw [Nat.zero_add] at hm
  have hb13 : gB (List.replicate bs.length false) m = false := by
   unfold gB
   rw [List.getD_eq_getElem?_getD, List.getElem?_replicate]
   split <;> rfl
  have hlive : liveB (gB t) bs[m].f1 bs[m].f3 = true ↔ ∃ i : Nat, i < L.length ∧ rd L (i : Int) = (m : Int) := by
   have := placesL_iff (pS ps parents) bs 0 m
   rw [Nat.zero_add, ← hLd] at this
   rw [e]
   constructor
   ·intro h
    obtain ⟨i, hi, he⟩ := List.getElem_of_mem (this.2 ⟨hm, h⟩)
    exact ⟨i, hi, by rw [rd_nat L i hi, he]⟩
   ·rintro ⟨i, hi, he⟩
    obtain ⟨_, h⟩ := this.1 (by rw [← he]; exact rd_mem L i hi)
    exact h
  have h13 := g4 m hm
  rw [hb13] at h13
  unfold goneS
  rw [List.getElem?_eq_getElem hm, Bool.eq_iff_iff, gone_iff, Bool.and_eq_true, Bool.not_eq_true']
  constructor
  ·rintro ⟨h1, h2⟩
   obtain ⟨i, hi, he⟩ := hlive.1 h2
   refine ⟨i, hi, he, fun hmem => ?_⟩
   have := h13.2 (.inr ⟨(i : Int), hmem, by omega, he⟩)
   rw [h1] at this
   exact absurd this (by simp)
  ·rintro ⟨i, hi, he, hmem⟩
   refine ⟨?_, hlive.2 ⟨i, hi, he⟩⟩
   rw [← Bool.not_eq_true]
   intro h
   rcases h13.1 h with h | ⟨z, hz, h0, hz2⟩
   ·exact absurd h (by simp)
   ·have hzl := up_mem st 0 hup z hz h0
    obtain ⟨z', rfl⟩ := Int.eq_ofNat_of_zero_le h0
    have := rise_inj hrise hi (by omega) (he.trans hz2.symm)
    subst this
    exact hmem hz
 have hT : mergeN 0 (delsOf (goneS y13 t bs) (ps.length : Int) 0 bs) (numb (ps.length : Int) 0 (scanN L st lines 0)) = addT ps bs parents lines := by
  rw [delsOf_congr (ps.length : Int) bs 0 hgone]
  unfold addT
  simp only [← hLd, ← hsd]
 have hTl := (impl_add_ev ps bs parents lines hf hw hp4 hasc hlo c40).2
 have hrow : ∀ r ∈ ps, r.length ≤ 1048576 := hf.2.1
 have h1 := sp_l1_ev ps parents bs (ps.length : Int) (by omega) hrow (by omega) y12 y13 t rfl ht (sp_start_ev ps (ps ++ [parents]) bs (ps.length : Int) (scanN L st lines 0) y12 y13 t (by omega) (fun b hb => (hf.2.2.2 b hb).2) (by omega) g1 g2 g3 (by omega) (scanN_up st lines 0 hup) _ (by omega) hT) ps.length 0 (by omega)
 simpa using h1
end
theorem laws_szStringS_ev (l : List ByteArray) (m : Int) (hm0 : 0 ≤ m) (hm : m ≤ 140737488351232) (hl : l.length ≤ 140737488351232) (hx : ∀ x ∈ l, x.size ≤ 140737488351232) : ∃ r, Ev (fun k => laws_szStringS.f k l m) r ∧ (0 ≤ r → (l.length : Int) + r ≤ m ∧ ∀ x ∈ l, ((x.size : Nat) : Int) ≤ m) := by
 have key : ∀ (n i : Nat) (c : Int), i + n = l.length → 0 ≤ c → c ≤ 140737488351232 → ∃ r, Ev (fun k => laws_szStringS.l0 k l c (i : Int)) r ∧ (0 ≤ r → r ≤ c ∧ ∀ x ∈ l.drop i, ((x.size : Nat) : Int) ≤ c) := by
  intro n
  induction n with
  | zero =>
   intro i c hi hc0 hc
   refine ⟨c, Ev.succ ?_, fun _ => ⟨Int.le_refl _, ?_⟩⟩
   ·simp only [laws_szStringS.l0]
    exact Ev.neg (by omega) (Ev.now _)
   ·rw [drop_end l i (by omega)]
    simp
  | succ n ih =>
   intro i c hi hc0 hc
   have hr : rdOf ByteArray.empty l (i : Int) = l[i]'(by omega) := by simp [rdOf, List.getD, List.getElem?_eq_getElem (show i < l.length by omega)]
   have hs := hx _ (List.getElem_mem (show i < l.length by omega))
   have hd : l.drop i = l[i]'(by omega) :: l.drop (i + 1) := List.drop_eq_getElem_cons (by omega)
   have hw : wrap64 (c - (((rdOf ByteArray.empty l (i : Int)).size : Nat) : Int)) = c - (((l[i]'(by omega)).size : Nat) : Int) := by rw [hr]; exact w64 (by omega) (by omega)
   by_cases h : c - (((l[i]'(by omega)).size : Nat) : Int) < 0
   ·refine ⟨-1, Ev.succ ?_, fun h => absurd h (by omega)⟩
    simp only [laws_szStringS.l0]
    exact Ev.pos (by omega) (Ev.pos (by omega) (Ev.pos (by rw [hw]; exact h) (Ev.now _)))
   ·obtain ⟨r, hev, hp⟩ := ih (i + 1) (c - (((l[i]'(by omega)).size : Nat) : Int)) (by omega) (by omega) (by omega)
    refine ⟨r, Ev.succ ?_, fun h0 => ?_⟩
    ·simp only [laws_szStringS.l0]
     refine Ev.pos (by omega) (Ev.pos (by omega) (Ev.neg (by rw [hw]; exact h) ?_))
     rw [up1 i (by omega), hw]
     exact hev
    ·obtain ⟨p1, p2⟩ := hp h0
     refine ⟨by omega, fun x hx => ?_⟩
     rw [hd] at hx
     rcases List.mem_cons.1 hx with rfl | hx
     ·omega
     ·have := p2 x hx
      omega
 simp only [laws_szStringS.f]
 by_cases h : wrap64 (m - (l.length : Int)) < 0
 ·exact ⟨-1, Ev.pos h (Ev.now _), fun h => absurd h (by omega)⟩
 ·have h1 : ¬ (m - (l.length : Int) < 0) := by rw [w64 (by omega) (by omega)] at h; exact h
  obtain ⟨r, hr, hp⟩ := key l.length 0 (m - (l.length : Int)) (by omega) (by omega) (by omega)
  refine ⟨r, Ev.neg h ?_, fun h0 => ?_⟩
  ·rw [w64 (by omega) (by omega)]
   exact hr
  ·obtain ⟨p1, p2⟩ := hp h0
   refine ⟨by omega, fun x hx => ?_⟩
   have := p2 x (by simpa using hx)
   omega
theorem laws_toStringS_l0 (l : List ByteArray) (hl : l.length ≤ 140737488351232) : ∀ (n i : Nat) (x : List ByteArray), i + n = l.length → x.length = l.length → (∀ j, j < i → x[j]? = l[j]?) → Ev (fun k => laws_toStringS.l0 k l x (i : Int)) l := by
 intro n
 induction n with
 | zero =>
  intro i x hi hx hj
  refine Ev.succ ?_
  simp only [laws_toStringS.l0]
  refine Ev.neg (by omega) (Ev.some_ ?_)
  apply List.ext_getElem?
  intro j
  by_cases h : j < i
  ·exact hj j h
  ·rw [List.getElem?_eq_none (by omega), List.getElem?_eq_none (by omega)]
 | succ n ih =>
  intro i x hi hx hj
  refine Ev.succ ?_
  simp only [laws_toStringS.l0]
  refine Ev.pos (by omega) (Ev.pos (by omega) (Ev.pos (by omega) ?_))
  have e : wrap64 ((i : Int) + 1) = ((i + 1 : Nat) : Int) := by rw [w64 (by omega) (by omega)]; omega
  have e2 : ((i : Int)).toNat = i := by omega
  rw [e, e2]
  refine ih (i + 1) _ (by omega) (by rw [List.length_set]; exact hx) ?_
  intro j hj'
  by_cases h : j = i
  ·subst h
   rw [List.getElem?_set_self (by omega)]
   simp [rdOf, List.getD, List.getElem?_eq_getElem (show j < l.length by omega)]
  ·rw [List.getElem?_set_ne (by omega)]
   exact hj j (by omega)
theorem laws_toStringS_ev (l : List ByteArray) (hl : l.length ≤ 17592186044416) : Ev (fun k => laws_toStringS.f k l) l := by
 simp only [laws_toStringS.f]
 refine Ev.pos (by omega) (Ev.pos (by omega) ?_)
 exact laws_toStringS_l0 l (by omega) l.length 0 _ (by omega) (by simp) (fun j h => absurd h (by omega))
theorem laws_eqStringS_refl (l : List ByteArray) (hl : l.length ≤ 140737488351232) : Ev (fun k => laws_eqStringS.f k l l) true := by
 simp only [laws_eqStringS.f]
 refine Ev.pos (by first | rfl | trivial) ?_
 have key : ∀ (n i : Nat), i + n = l.length → Ev (fun k => laws_eqStringS.l0 k l l (i : Int)) true := by
  intro n
  induction n with
  | zero =>
   intro i hi
   refine Ev.succ ?_
   simp only [laws_eqStringS.l0]
   exact Ev.neg (by omega) (Ev.now _)
  | succ n ih =>
   intro i hi
   refine Ev.succ ?_
   simp only [laws_eqStringS.l0]
   have e : wrap64 ((i : Int) + 1) = ((i + 1 : Nat) : Int) := by rw [w64 (by omega) (by omega)]; omega
   rw [e]
   exact Ev.pos (by omega) (Ev.pos (by omega) (Ev.pos (by omega) (Ev.pos (by first | rfl | trivial) (ih (i + 1) (by omega)))))
 exact key l.length 0 (by omega)
theorem laws_markIntS_ev (l : List Int) (m : Int) (hl : l.length ≤ 140737488351232) (hm0 : 0 ≤ m) (hm : m ≤ 140737488351232) : Ev (fun k => laws_markIntS.f k l m) (m + l.length, markL (fun x => x) m l.length) := by
 simp only [laws_markIntS.f]
 have key : ∀ (n i : Nat) (x : List Int) (c : Int), i + n = l.length → x.length = l.length → c = m + i → (∀ j, j < i → x[j]? = (markL (fun x => x) m l.length)[j]?) → Ev (fun k => laws_markIntS.l0 k x c (i : Int)) (m + l.length, markL (fun x => x) m l.length) := by
  intro n
  induction n with
  | zero =>
   intro i x c hi hx hc hj
   refine Ev.succ ?_
   simp only [laws_markIntS.l0]
   refine Ev.neg (by omega) (Ev.some_ ?_)
   have : x = markL (fun x => x) m l.length := by
    apply List.ext_getElem?
    intro j
    by_cases h : j < i
    ·exact hj j h
    ·rw [List.getElem?_eq_none (by omega), List.getElem?_eq_none (by rw [markL_length]; omega)]
   rw [this, hc, show i = l.length by omega]
  | succ n ih =>
   intro i x c hi hx hc hj
   refine Ev.succ ?_
   simp only [laws_markIntS.l0]
   refine Ev.pos (by omega) (Ev.pos (by omega) ?_)
   have e : wrap64 ((i : Int) + 1) = ((i + 1 : Nat) : Int) := by rw [w64 (by omega) (by omega)]; omega
   have e1 : wrap64 (c + 1) = c + 1 := w64 (by omega) (by omega)
   have e2 : ((i : Int)).toNat = i := by omega
   rw [e, e1, e2]
   refine ih (i + 1) _ _ (by omega) (by rw [List.length_set]; exact hx) (by omega) ?_
   intro j hj'
   by_cases h : j = i
   ·subst h
    rw [List.getElem?_set_self (by omega), markL_get _ _ _ _ (by omega), hc]
   ·rw [List.getElem?_set_ne (by omega)]
    exact hj j (by omega)
 exact key l.length 0 l m (by omega) rfl (by omega) (fun j h => absurd h (by omega))
theorem sumN_bound : ∀ (l : List (List Int)), (∀ x ∈ l, x.length ≤ 1048576) → Go.Proofs.YtmodgiingohphaaH.sumN (l.map List.length) ≤ l.length * 1048576
 | [], _ => by simp [Go.Proofs.YtmodgiingohphaaH.sumN]
 | x :: l, h => by
  have h1 := h x (by simp)
  have h2 := sumN_bound l (fun y hy => h y (List.mem_cons_of_mem _ hy))
  simp only [List.map_cons, Go.Proofs.YtmodgiingohphaaH.sumN, List.length_cons]
  omega
theorem sumN_bound3 : ∀ (l : List S123), (∀ x ∈ l, x.f3.length ≤ 1048576) → Go.Proofs.YtmodgiingohphaaH.sumN ((l.map fun x => x.f3.length).map (· + 3)) ≤ l.length * 1048579
 | [], _ => by simp [Go.Proofs.YtmodgiingohphaaH.sumN]
 | x :: l, h => by
  have h1 := h x (by simp)
  have h2 := sumN_bound3 l (fun y hy => h y (List.mem_cons_of_mem _ hy))
  simp only [List.map_cons, Go.Proofs.YtmodgiingohphaaH.sumN, List.length_cons]
  omega
theorem laws_markWeave_eq (p : List (List Int)) (b : List S123) (h : Fine p b) (m : Int) (hm0 : 0 ≤ m) (hm : m ≤ 1152921504606846976) : ∃ r, laws_markWeave.f p b m = some r ∧ m ≤ r ∧ r ≤ m + 2199026401280 := by
 have h0 := sumN_bound p h.2.1
 have h1 := sumN_bound3 b (fun x hx => (h.2.2.2 x hx).2)
 have h2 := h.1
 have h3 := h.2.2.1
 refine ⟨m + Go.Proofs.YtmodgiingohphaaH.sumN (p.map List.length) + Go.Proofs.YtmodgiingohphaaH.sumN ((b.map fun x => x.f3.length).map (· + 3)), ?_, by omega, by omega⟩
 unfold laws_markWeave.f
 rw [if_pos ⟨hm0, by omega⟩]
def mtGo : Nat → Int → ByteArray → ByteArray
 | 0, _, s => (⟨#[109]⟩ : ByteArray) ++ s
 | f + 1, n, s => if n > 0 then mtGo f (n / 10) (strOfNums [48 + n % 10] ++ s) else (⟨#[109]⟩ : ByteArray) ++ s
def mt (n : Int) : ByteArray := if n ≤ 0 then (⟨#[109, 48]⟩ : ByteArray) else mtGo 13 n (⟨#[]⟩ : ByteArray)
def FitsT : Nat → Int → Prop
 | 0, n => n ≤ 0
 | f + 1, n => FitsT f (n / 10)
theorem fitsT {n : Int} (h : n ≤ 1000000000000) : FitsT 13 n := by
 simp only [FitsT]
 omega
theorem laws_markText_l0 : ∀ (f : Nat) (n : Int) (s : ByteArray), FitsT f n → n ≤ 1000000000000 → s.size + f < 1000 → Ev (fun k => laws_markText.l0 k n s) (mtGo f n s) := by
 intro f
 induction f with
 | zero =>
  intro n s hf hn hs
  simp only [FitsT] at hf
  refine Ev.succ ?_
  simp only [laws_markText.l0]
  exact Ev.neg (by omega) (Ev.pos (by omega) (Ev.some_ rfl))
 | succ f ih =>
  intro n s hf hn hs
  simp only [FitsT] at hf
  refine Ev.succ ?_
  simp only [laws_markText.l0]
  by_cases h : n > 0
  ·rw [Int.tmod_eq_emod_of_nonneg (show 0 ≤ n by omega), Int.tdiv_eq_ediv_of_nonneg (show 0 ≤ n by omega)]
   rw [show wrap64 (48 + n % 10) = 48 + n % 10 from w64 (by omega) (by omega), show wrap64 (n / 10) = n / 10 from w64 (by omega) (by omega), show (48 + n % 10) % 256 = 48 + n % 10 from by omega]
   have hz : (strOfNums [48 + n % 10]).size = 1 := by rw [strOfNums_size]; rfl
   refine Ev.pos h (Ev.bnd0 rfl (Ev.pos (by omega) ?_))
   have := ih (n / 10) (strOfNums [48 + n % 10] ++ s) hf (by omega) (by rw [size_append]; omega)
   simp only [mtGo]
   rw [if_pos h]
   exact this
  ·simp only [mtGo]
   rw [if_neg h]
   exact Ev.neg h (Ev.pos (by omega) (Ev.some_ rfl))
theorem laws_markText_ev (n : Int) (hn : n ≤ 1000000000000) : Ev (fun k => laws_markText.f k n) (mt n) := by
 simp only [laws_markText.f]
 unfold mt
 by_cases h : n ≤ 0
 ·rw [if_pos h]
  exact Ev.pos h (Ev.now _)
 ·rw [if_neg h]
  exact Ev.neg h (laws_markText_l0 13 n _ (fitsT hn) hn (by decide))
theorem up_mono {α : Type} {g : Nat → Option α} (hm : ∀ k, LeO (g k) (g (k + 1))) {k : Nat} {r : α} (h : g k = some r) : Ev g r := by
 refine ⟨k, fun n hn => ?_⟩
 obtain ⟨j, rfl⟩ := Nat.exists_eq_add_of_le hn
 induction j with
 | zero => exact h
 | succ j ih => exact hm (k + j) r (ih (by omega))
theorem Ev_ex {α : Type} {g : Nat → Option α} {r q : α} (h : Ev g r) (h2 : Ev g q) : r = q := by
 obtain ⟨k1, e1⟩ := h
 obtain ⟨k2, e2⟩ := h2
 have a := e1 (k1 + k2) (by omega)
 have b := e2 (k1 + k2) (by omega)
 rw [a] at b
 exact Option.some.inj b
theorem txtOf_mt (x : Int) (h0 : 0 ≤ x) (h1 : x ≤ 1000000000000) : txtOf x = mt x :=
 Ev_ex (up_mono (laws_markText.mono x) (txt_some x h0 (by omega))) (laws_markText_ev x h1)
theorem kMarks_rd : ∀ (l : List Int) (a : Int) (i : Nat), i < l.length → rd (kMarks a l) (i : Int) = a + i
 | [], _, _, h => absurd h (by simp)
 | x :: l, a, 0, _ => by simp [kMarks, rd]
 | x :: l, a, i + 1, h => by
  have := kMarks_rd l (a + 1) i (by simpa using h)
  simp only [rd, kMarks] at this ⊢
  rw [Int.toNat_natCast] at this
  rw [Int.toNat_natCast, List.getD_cons_succ, this]
  omega
theorem laws_heldIntS_k (a : Int) (l : List Int) (h0 : 0 ≤ a) (h1 : a + l.length ≤ 1000000000000) : Ev (fun k => laws_heldIntS.f k (kMarks a l) a) (a + l.length) := by
 have key : ∀ (n i : Nat), i + n = l.length → Ev (fun k => laws_heldIntS.l0 k (kMarks a l) (a + i) (i : Int)) (a + l.length) := by
  intro n
  induction n with
  | zero =>
   intro i hi
   refine Ev.succ ?_
   simp only [laws_heldIntS.l0]
   rw [kMarks_length]
   exact Ev.neg (by omega) (Ev.some_ (by omega))
  | succ n ih =>
   intro i hi
   refine Ev.succ ?_
   simp only [laws_heldIntS.l0]
   rw [kMarks_length, kMarks_rd l a i (by omega), up1 i (by omega), w64 (show -9223372036854775808 ≤ a + (i : Int) + 1 by omega) (by omega)]
   refine Ev.pos (by omega) (Ev.pos (by omega) (Ev.pos rfl ?_))
   have := ih (i + 1) (by omega)
   rw [show a + (i : Int) + 1 = a + ((i + 1 : Nat) : Int) by omega]
   exact this
 simp only [laws_heldIntS.f]
 have := key l.length 0 (by omega)
 simpa using this
theorem marksLL_at : ∀ (l : List (List Int)) (a : Int) (i : Nat) (h : i < l.length), (marksLL a l).getD i [] = kMarks (a + lensL (l.take i)) (l[i])
 | [], _, _, h => absurd h (by simp)
 | x :: l, a, 0, _ => by simp [marksLL, lensL]
 | x :: l, a, i + 1, h => by
  have := marksLL_at l (a + x.length) i (by simpa using h)
  simp only [marksLL, List.getD_cons_succ, this, List.take_succ_cons, lensL, List.getElem_cons_succ]
  rw [show a + (x.length : Int) + (lensL (l.take i) : Int) = a + ((x.length + lensL (l.take i) : Nat) : Int) by omega]
theorem laws_heldIntSS_k (a : Int) (l : List (List Int)) (h0 : 0 ≤ a) (h1 : a + lensL l ≤ 1000000000000) (hl : l.length ≤ 1048576) : Ev (fun k => laws_heldIntSS.f k (marksLL a l) a) (a + lensL l) := by
 have key : ∀ (n i : Nat), i + n = l.length → Ev (fun k => laws_heldIntSS.l0 k (marksLL a l) (a + lensL (l.take i)) (i : Int)) (a + lensL l) := by
  intro n
  induction n with
  | zero =>
   intro i hi
   refine Ev.succ ?_
   simp only [laws_heldIntSS.l0]
   rw [marksLL_length, List.take_of_length_le (by omega)]
   exact Ev.neg (by omega) (Ev.now _)
  | succ n ih =>
   intro i hi
   have hs := lensL_take l i (by omega)
   have hle := lensL_le l (i + 1)
   have hg : l.getD i [] = l[i]'(by omega) := by simp [List.getD, List.getElem?_eq_getElem (show i < l.length by omega)]
   rw [hg] at hs
   refine Ev.succ ?_
   simp only [laws_heldIntSS.l0]
   rw [marksLL_length, up1 i (by omega)]
   have hr : rd_L1 (marksLL a l) (i : Int) = kMarks (a + lensL (l.take i)) (l[i]'(by omega)) := by
    rw [← marksLL_at l a i (by omega)]
    simp [rd_L1]
   rw [hr]
   refine Ev.pos (by omega) (Ev.pos (by omega) (Ev.bnd (laws_heldIntS_k _ _ (by omega) (by omega)) (Ev.neg (by omega) ?_)))
   have := ih (i + 1) (by omega)
   rw [show a + (lensL (l.take i) : Int) + ((l[i]'(by omega)).length : Int) = a + (lensL (l.take (i + 1)) : Int) by omega]
   exact this
 simp only [laws_heldIntSS.f]
 have := key l.length 0 (by omega)
 simpa [lensL] using this
theorem marksBB_at : ∀ (l : List S123) (a : Int) (i : Nat) (h : i < l.length), (marksBB a l)[i]? = some (markB (a + lenB (l.take i)) (l[i]))
 | [], _, _, h => absurd h (by simp)
 | x :: l, a, 0, _ => by simp [marksBB, lenB]
 | x :: l, a, i + 1, h => by
  have := marksBB_at l (a + (x.f3.length + 3 : Nat)) i (by simpa using h)
  simp only [marksBB, List.getElem?_cons_succ, this, List.take_succ_cons, lenB, List.getElem_cons_succ]
  rw [show a + ((x.f3.length + 3 : Nat) : Int) + (lenB (l.take i) : Int) = a + ((x.f3.length + 3 + lenB (l.take i) : Nat) : Int) by omega]
theorem laws_heldBodyS_k (a : Int) (l : List S123) (h0 : 0 ≤ a) (h1 : a + lenB l ≤ 1000000000000) (hl : l.length ≤ 1048576) : Ev (fun k => laws_heldBodyS.f k (marksBB a l) a) (a + lenB l) := by
 have key : ∀ (n i : Nat), i + n = l.length → Ev (fun k => laws_heldBodyS.l0 k (marksBB a l) (a + lenB (l.take i)) (i : Int)) (a + lenB l) := by
  intro n
  induction n with
  | zero =>
   intro i hi
   refine Ev.succ ?_
   simp only [laws_heldBodyS.l0]
   rw [marksBB_length, List.take_of_length_le (by omega)]
   exact Ev.neg (by omega) (Ev.now _)
  | succ n ih =>
   intro i hi
   have hs := lenB_take l i (l[i]'(by omega)) (by omega)
   have hle := lenB_le l (i + 1)
   have hg : l.getD i (l[i]'(by omega)) = l[i]'(by omega) := by simp [List.getD, List.getElem?_eq_getElem (show i < l.length by omega)]
   rw [hg] at hs
   refine Ev.succ ?_
   simp only [laws_heldBodyS.l0]
   rw [marksBB_length, up1 i (by omega)]
   have hr : rd_T123 (marksBB a l) (i : Int) = markB (a + lenB (l.take i)) (l[i]'(by omega)) := by
    simp [rd_T123, List.getD, marksBB_at l a i (by omega)]
   rw [hr]
   obtain ⟨x, hx⟩ : ∃ x : Int, x = a + lenB (l.take i) := ⟨_, rfl⟩
   rw [← hx]
   simp only [markB]
   rw [w64 (show -9223372036854775808 ≤ x + 1 by omega) (by omega), w64 (show -9223372036854775808 ≤ x + 1 + 1 by omega) (by omega), w64 (show -9223372036854775808 ≤ x + 1 + 1 + 1 by omega) (by omega)]
   refine Ev.pos (by omega) (Ev.pos (by omega) (Ev.bnd (laws_markText_ev x (by omega)) (Ev.pos (by rw [txtOf_mt x (by omega) (by omega)]) (Ev.pos rfl (Ev.pos rfl (Ev.bnd (laws_heldIntS_k _ _ (by omega) (by omega)) (Ev.neg (by omega) ?_)))))))
   have := ih (i + 1) (by omega)
   rw [show x + 1 + 1 + 1 + ((l[i]'(by omega)).f3.length : Int) = a + (lenB (l.take (i + 1)) : Int) by omega]
   exact this
 simp only [laws_heldBodyS.f]
 have := key l.length 0 (by omega)
 simpa [lenB] using this
theorem laws_heldWeave_k (p : List (List Int)) (b : List S123) (h1 : 1 + (lensL p : Int) + lenB b ≤ 1000000000000) (hp : p.length ≤ 1048576) (hb : b.length ≤ 1048576) : Ev (fun k => laws_heldWeave.f k (marksLL 1 p) (marksBB (1 + lensL p) b) 1) (1 + lensL p + lenB b) := by
 simp only [laws_heldWeave.f]
 exact Ev.bnd (laws_heldIntSS_k 1 p (by omega) (by omega) hp) (Ev.neg (by omega) (Ev.bnd (laws_heldBodyS_k _ b (by omega) (by omega) hb) (Ev.neg (by omega) (Ev.now _))))
theorem spec_AddVersion_ev (ps : List (List Int)) (bs : List S123) (parents : List Int) (lines : List ByteArray) (hf : Fine ps bs) (hpar : parents.length ≤ 1048576) (hls : Sized lines) : Ev (fun k => spec_AddVersion.f k ps bs parents lines) (addR ps bs parents lines) := by
 simp only [spec_AddVersion.f]
 unfold addR
 refine Ev.bnd (spec_WeaveOk_ev ps bs hf) ?_
 by_cases hw : weaveOk ps bs = true
 ·rw [if_pos hw]
  obtain ⟨hg, h3⟩ := weaveOk_graph hw
  have hn := graphOk_len hg
  refine Ev.pos hw ?_
  have key : ∀ R : List (List Int) × List S123 × Int × Int, Ev (fun k => spec_l06Add.f k ps bs parents lines) R → Ev (fun k => (spec_l06Add.f k ps bs parents lines).bind fun bt => some (bt.1, bt.2.1, bt.2.2.1, bt.2.2.2)) R := fun R h => Ev.bnd h (Ev.now _)
  refine key _ ?_
  by_cases ha : (parents.length : Int) ≤ 4 ∧ asc (ps.length : Int) none parents = true
  ·rw [if_pos ha]
   by_cases hl : linesOk 80 lines = true
   ·rw [if_pos hl]
    exact spec_add_ev ps bs parents lines hf hw ha.1 ha.2 hl
   ·rw [if_neg hl]
    simp only [spec_l06Add.f]
    have hpar2 : Ev (fun k => spec_l06Parents.f k ps bs parents) true := by
     simp only [spec_l06Parents.f]
     exact Ev.pos ha.1 (Ev.bnd (spec_l05Rise_ev parents (ps.length : Int) (by omega) (by omega) (by omega)) (Ev.some_ ha.2))
    exact Ev.bnd hpar2 (Ev.pos rfl (Ev.bnd (spec_LinesOk_ev lines hls) (Ev.neg hl (Ev.now _))))
  ·rw [if_neg ha]
   simp only [spec_l06Add.f]
   have hpar2 : Ev (fun k => spec_l06Parents.f k ps bs parents) false := by
    simp only [spec_l06Parents.f]
    by_cases h4 : (parents.length : Int) ≤ 4
    ·exact Ev.pos h4 (Ev.bnd (spec_l05Rise_ev parents (ps.length : Int) (by omega) (by omega) (by omega)) (Ev.some_ (by simpa [h4] using ha)))
    ·exact Ev.neg h4 (Ev.now _)
   exact Ev.bnd hpar2 (Ev.neg (by simp) (Ev.now _))
 ·rw [if_neg hw]
  exact Ev.neg hw (Ev.now _)
theorem impl_AddVersion_ev (ps : List (List Int)) (bs : List S123) (parents : List Int) (lines : List ByteArray) (hf : Fine ps bs) (hpar : parents.length ≤ 1048576) (hls : Sized lines) : Ev (fun k => impl_AddVersion.f k ps bs parents lines) (addR ps bs parents lines) := by
 simp only [impl_AddVersion.f]
 unfold addR
 refine Ev.bnd (impl_WeaveOk_ev ps bs hf) ?_
 by_cases hw : weaveOk ps bs = true
 ·rw [if_pos hw]
  obtain ⟨hg, h3⟩ := weaveOk_graph hw
  have hn := graphOk_len hg
  refine Ev.pos hw ?_
  have hcode : Ev (fun k => impl_addCode.f k ps bs parents lines) (if (parents.length : Int) ≤ 4 ∧ asc (ps.length : Int) none parents = true then (if linesOk 80 lines = true then 0 else 3) else 2) := by
   simp only [impl_addCode.f]
   by_cases h4 : (parents.length : Int) ≤ 4
   ·refine Ev.neg (by omega) (Ev.bnd (impl_ascends_ev parents (ps.length : Int) (by omega) (by omega) (by omega)) (Ev.succ ?_))
    simp only [impl_addCode.j0]
    by_cases ha : asc (ps.length : Int) none parents = true
    ·rw [if_pos ⟨h4, ha⟩]
     refine Ev.neg (by rw [ha]; simp) (Ev.bnd (impl_LinesOk_ev lines hls) ?_)
     by_cases hl : linesOk 80 lines = true
     ·exact Ev_eq (Ev.pos hl (Ev.now _)) (by rw [if_pos hl])
     ·exact Ev_eq (Ev.neg hl (Ev.now _)) (by rw [if_neg hl])
    ·rw [if_neg (fun h => ha h.2)]
     have ha' : asc (ps.length : Int) none parents = false := by simpa using ha
     exact Ev.pos (by rw [ha']; rfl) (Ev.now _)
   ·rw [if_neg (fun h => h4 h.1)]
    refine Ev.pos (by omega) (Ev.succ ?_)
    simp only [impl_addCode.j0]
    exact Ev.pos (by first | rfl | trivial) (Ev.now _)
  by_cases ha : (parents.length : Int) ≤ 4 ∧ asc (ps.length : Int) none parents = true
  ·rw [if_pos ha] at hcode ⊢
   by_cases hl : linesOk 80 lines = true
   ·rw [if_pos hl] at hcode ⊢
    refine Ev.bnd hcode (Ev.pos rfl (Ev.bnd (copyWeave_ev ps bs hf) ?_))
    by_cases h40 : ps.length = 40
    ·rw [if_pos h40]
     have : Ev (fun k => impl_Weave_add.f k ps bs parents lines) (ps, bs, false) := by
      simp only [impl_Weave_add.f]
      exact Ev.pos (by omega) (Ev.now _)
     exact Ev.bnd this (Ev.neg (by simp) (Ev.now _))
    ·rw [if_neg h40]
     obtain ⟨h1, h2⟩ := impl_add_ev ps bs parents lines hf hw ha.1 ha.2 hl h40
     refine Ev.bnd h1 ?_
     by_cases h300 : ((addT ps bs parents lines).length : Int) > 300
     ·rw [if_pos h300]
      exact Ev.neg (by simp; omega) (Ev.now _)
     ·rw [if_neg h300]
      exact Ev.pos (by simp; omega) (Ev.now _)
   ·rw [if_neg hl] at hcode ⊢
    exact Ev.bnd hcode (Ev.neg (by omega) (Ev.now _))
  ·rw [if_neg ha] at hcode ⊢
   exact Ev.bnd hcode (Ev.neg (by omega) (Ev.now _))
 ·rw [if_neg hw]
  exact Ev.neg hw (Ev.now _)
theorem mergeN_mem {α : Type} : ∀ (bs : List α) (i : Nat) (ns : List (Nat × α)) (x : α), x ∈ mergeN i bs ns → x ∈ bs ∨ ∃ y ∈ ns, y.2 = x
 | [], i, ns, x, h => by
  simp only [mergeN, atP, List.mem_map, List.mem_filter] at h
  obtain ⟨y, ⟨h1, _⟩, h2⟩ := h
  exact .inr ⟨y, h1, h2⟩
 | b :: bs, i, ns, x, h => by
  simp only [mergeN, List.mem_append, List.mem_cons] at h
  rcases h with h | rfl | h
  ·simp only [atP, List.mem_map, List.mem_filter] at h
   obtain ⟨y, ⟨h1, _⟩, h2⟩ := h
   exact .inr ⟨y, h1, h2⟩
  ·exact .inl (by simp)
  ·rcases mergeN_mem bs (i + 1) ns x h with h | h
   ·exact .inl (List.mem_cons_of_mem _ h)
   ·exact .inr h
theorem delsOf_mem (D : Nat → Bool) (v : Int) : ∀ (l : List S123) (i : Nat) (b : S123), b ∈ delsOf D v i l → ∃ c ∈ l, b.f0 = c.f0 ∧ b.f3.length ≤ c.f3.length + 1
 | [], _, b, h => by simp [delsOf] at h
 | c :: l, i, b, h => by
  simp only [delsOf, List.mem_cons] at h
  rcases h with rfl | h
  ·refine ⟨c, by simp, ?_⟩
   split <;> simp
  ·obtain ⟨d, h1, h2⟩ := delsOf_mem D v l (i + 1) b h
   exact ⟨d, List.mem_cons_of_mem _ h1, h2⟩
def lowO : Option Int → Int
 | none => 0
 | some p => p + 1
theorem asc_len (n : Int) : ∀ (l : List Int) (o : Option Int), asc n o l = true → (l.length : Int) ≤ n - lowO o ∨ l = []
 | [], _, _ => .inr rfl
 | x :: l, o, h => by
  left
  have hx : 0 ≤ x ∧ x ≤ n - 1 ∧ lowO o ≤ x ∧ asc n (some x) l = true := by
   cases o with
   | none =>
    simp only [asc, Bool.and_eq_true, decide_eq_true_eq] at h
    exact ⟨h.1.1, h.1.2, h.1.1, h.2⟩
   | some p =>
    simp only [asc, Bool.and_eq_true, decide_eq_true_eq] at h
    exact ⟨h.1.1.1, h.1.1.2, by have := h.1.2; show p + 1 ≤ x; omega, h.2⟩
  have ih := asc_len n l (some x) hx.2.2.2
  simp only [lowO] at ih
  simp only [List.length_cons]
  rcases ih with ih | rfl
  ·omega
  ·simp; omega
theorem lensL_bound (c : Nat) : ∀ (l : List (List Int)), (∀ x ∈ l, x.length ≤ c) → lensL l ≤ l.length * c
 | [], _ => by simp [lensL]
 | x :: l, h => by
  have h1 := h x (by simp)
  have h2 := lensL_bound c l (fun y hy => h y (List.mem_cons_of_mem _ hy))
  simp only [lensL, List.length_cons, Nat.add_mul, Nat.one_mul]
  omega
theorem lenB_bound (c : Nat) : ∀ (l : List S123), (∀ x ∈ l, x.f3.length ≤ c) → lenB l ≤ l.length * (c + 3)
 | [], _ => by simp [lenB]
 | x :: l, h => by
  have h1 := h x (by simp)
  have h2 := lenB_bound c l (fun y hy => h y (List.mem_cons_of_mem _ hy))
  simp only [lenB, List.length_cons, Nat.add_mul, Nat.one_mul]
  omega
theorem addR_small (ps : List (List Int)) (bs : List S123) (parents : List Int) (lines : List ByteArray) (hf : Fine ps bs) (hls : ∀ x ∈ lines, x.size ≤ 1048576) : Fine (addR ps bs parents lines).1 (addR ps bs parents lines).2.1 ∧ 1 + (lensL (addR ps bs parents lines).1 : Int) + lenB (addR ps bs parents lines).2.1 ≤ 1000000000000 := by
 have nil : ∀ c : Int × Int, Fine (([], [], c) : List (List Int) × List S123 × Int × Int).1 (([], [], c) : List (List Int) × List S123 × Int × Int).2.1 ∧ 1 + (lensL (([], [], c) : List (List Int) × List S123 × Int × Int).1 : Int) + lenB (([], [], c) : List (List Int) × List S123 × Int × Int).2.1 ≤ 1000000000000 := fun c => ⟨⟨by simp, by simp, by simp, by simp⟩, by simp [lensL, lenB]⟩
 unfold addR
 by_cases hw : weaveOk ps bs = true
 case neg => rw [if_neg hw]; exact nil _
 rw [if_pos hw]
 by_cases ha : (parents.length : Int) ≤ 4 ∧ asc (ps.length : Int) none parents = true
 case neg => rw [if_neg ha]; exact nil _
 rw [if_pos ha]
 by_cases hl : linesOk 80 lines = true
 case neg => rw [if_neg hl]; exact nil _
 rw [if_pos hl]
 by_cases h40 : ps.length = 40
 case pos => rw [if_pos h40]; exact nil _
 rw [if_neg h40]
 by_cases h300 : ((addT ps bs parents lines).length : Int) > 300
 case pos => rw [if_pos h300]; exact nil _
 rw [if_neg h300]
 obtain ⟨hg, h3⟩ := weaveOk_graph hw
 have hn := graphOk_len hg
 have hd : ∀ b ∈ bs, b.f3.length ≤ 40 := fun b hb => by
  rcases asc_len _ _ none (weaveOk_lines hw b hb).2 with h | h
  ·simp only [lowO] at h; omega
  ·rw [h]; simp
 have hrow : ∀ x ∈ ps ++ [parents], x.length ≤ 1000000 := fun x hx => by
  rcases List.mem_append.1 hx with h | h
  ·exact rows4 hg x h
  ·rw [List.mem_singleton.1 h]; omega
 have hT : ∀ b ∈ addT ps bs parents lines, b.f0.size ≤ 1048576 ∧ b.f3.length ≤ 41 := fun b hb => by
  unfold addT at hb
  rcases mergeN_mem _ _ _ _ hb with h | ⟨y, hy, rfl⟩
  ·obtain ⟨c, hc, h0, h1⟩ := delsOf_mem _ _ _ _ _ h
   have := hd c hc
   rw [h0]
   exact ⟨(hf.2.2.2 c hc).1, by omega⟩
  ·obtain ⟨s, hs, h0, h1⟩ := numb_mem _ _ _ _ hy
   rw [h0, h1]
   exact ⟨hls _ (scanN_mem _ _ _ _ _ hs), by simp⟩
 have b1 := lensL_bound 1000000 _ hrow
 have b2 := lenB_bound 41 _ (fun b hb => (hT b hb).2)
 have hpl : (ps ++ [parents]).length = ps.length + 1 := by simp
 refine ⟨⟨?_, ?_, ?_, ?_⟩, ?_⟩
 ·show (ps ++ [parents]).length ≤ _
  omega
 ·intro x hx
  have := hrow x hx
  omega
 ·show (addT ps bs parents lines).length ≤ _
  omega
 ·intro b hb
  have := hT b hb
  exact ⟨this.1, by omega⟩
 ·show 1 + (lensL (ps ++ [parents]) : Int) + (lenB (addT ps bs parents lines) : Int) ≤ _
  omega
theorem laws_szWeave_ev2 (p : List (List Int)) (b : List S120) (hp : p.length ≤ 140737488351232) (hpx : ∀ x ∈ p, x.length ≤ 140737488351232) (hb : b.length ≤ 140737488351232) (hbx : ∀ x ∈ b, x.f0.size ≤ 140737488351232 ∧ x.f3.length ≤ 140737488351232) :
  ∃ r, Ev (fun k => laws_szWeave.f k p b 1048576) r ∧ (0 ≤ r → r ≤ 1048576 ∧ Fine p (b.map ofL)) := by
 simp only [laws_szWeave.f]
 obtain ⟨r, hr, hrp⟩ := laws_szIntSS_ev p 1048576 (by omega) (by omega) hp hpx
 by_cases h : r < 0
 ·exact ⟨-1, Ev.bnd hr (Ev.pos h (Ev.now _)), fun h => by omega⟩
 ·obtain ⟨p1, p2⟩ := hrp (by omega)
  obtain ⟨q, hq, hqp⟩ := laws_szBodyS_ev b r (by omega) (by omega) hb hbx
  by_cases h2 : q < 0
  ·exact ⟨-1, Ev.bnd hr (Ev.neg h (Ev.bnd hq (Ev.pos h2 (Ev.now _)))), fun h => by omega⟩
  ·obtain ⟨q1, q2⟩ := hqp (by omega)
   refine ⟨q, Ev.bnd hr (Ev.neg h (Ev.bnd hq (Ev.neg h2 (Ev.now _)))), fun _ => ⟨by omega, by omega, fun x hx => by have := p2 x hx; omega, by rw [List.length_map]; omega, fun x hx => ?_⟩⟩
   obtain ⟨y, hy, rfl⟩ := List.mem_map.1 hx
   have := q2 y hy
   exact ⟨by simp only [ofL]; omega, by simp only [ofL]; omega⟩
theorem laws_markStringS_ex (l : List ByteArray) (m : Int) (hl : l.length ≤ 1048576) (hm0 : 0 ≤ m) (hm : m ≤ 2305843009213693952) : ∃ y, Ev (fun k => laws_markStringS.f k l m) (m + l.length, y) := by
 simp only [laws_markStringS.f]
 have key : ∀ (n i : Nat) (x : List ByteArray), i + n = l.length → x.length = l.length → ∃ y, Ev (fun k => laws_markStringS.l0 k x (m + i) (i : Int)) (m + l.length, y) := by
  intro n
  induction n with
  | zero =>
   intro i x hi hx
   refine ⟨x, Ev.succ ?_⟩
   simp only [laws_markStringS.l0]
   exact Ev.neg (by omega) (Ev.some_ (by rw [show i = l.length by omega]))
  | succ n ih =>
   intro i x hi hx
   obtain ⟨y, hy⟩ := ih (i + 1) (x.set i (txtOf (m + i))) (by omega) (by rw [List.length_set]; exact hx)
   refine ⟨y, Ev.succ ?_⟩
   simp only [laws_markStringS.l0]
   refine Ev.pos (by omega) (Ev.bnd (a := txtOf (m + i)) (up_mono (laws_markText.mono _) (txt_some _ (by omega) (by omega))) (Ev.pos (by omega) ?_))
   rw [up1 i (by omega), w64 (n := m + (i : Int) + 1) (by omega) (by omega), Int.toNat_natCast, show m + (i : Int) + 1 = m + ((i + 1 : Nat) : Int) by omega]
   exact hy
 have := key l.length 0 l (by omega) rfl
 simpa using this
theorem av_true (p : List (List Int)) (b : List S120) (parents : List Int) (lines : List ByteArray) (hp : p.length ≤ 140737488351232) (hpx : ∀ x ∈ p, x.length ≤ 140737488351232) (hb : b.length ≤ 140737488351232) (hbx : ∀ x ∈ b, x.f0.size ≤ 140737488351232 ∧ x.f3.length ≤ 140737488351232) (hl : lines.length ≤ 140737488351232) (hlx : ∀ x ∈ lines, x.size ≤ 140737488351232) :
  Ev (fun k => laws_FnExactAddVersion.f k p b parents lines) true := by
 simp only [laws_FnExactAddVersion.f]
 by_cases h0 : (parents.length : Int) > 1048576
 ·exact Ev.pos h0 (Ev.now _)
 obtain ⟨r, hr, hrp⟩ := laws_szWeave_ev2 p b hp hpx hb hbx
 refine Ev.neg h0 (Ev.bnd hr ?_)
 by_cases h : r < 0
 ·exact Ev.pos h (Ev.now _)
 obtain ⟨hr1, hf⟩ := hrp (by omega)
 obtain ⟨r2, hr2, hrp2⟩ := laws_szStringS_ev lines r (by omega) (by omega) hl hlx
 refine Ev.neg h (Ev.bnd hr2 ?_)
 by_cases h2 : r2 < 0
 ·exact Ev.pos h2 (Ev.now _)
 obtain ⟨q1, q2⟩ := hrp2 (by omega)
 have hls : Sized lines := ⟨hl, hlx⟩
 have hS := spec_AddVersion_ev p (b.map ofL) parents lines hf (by omega) hls
 have hI := impl_AddVersion_ev p (b.map ofL) parents lines hf (by omega) hls
 obtain ⟨hg, hbd⟩ := addR_small p (b.map ofL) parents lines hf (fun x hx => by have := q2 x hx; omega)
 generalize addR p (b.map ofL) parents lines = R at hS hI hg hbd
 obtain ⟨k0, hk0, hk01, hk02⟩ := laws_markWeave_eq p (b.map ofL) hf 1 (by omega) (by omega)
 have hk1 := laws_markIntS_ev parents k0 (by omega) (by omega) (by omega)
 obtain ⟨y, hy⟩ := laws_markStringS_ex lines (k0 + parents.length) (by omega) (by omega) (by omega)
 refine Ev.neg h2 (Ev.bnd (laws_toWeave_ev p b hf) (Ev.bnd (laws_toIntS_ev parents (by omega)) (Ev.bnd (laws_toStringS_ev lines (by omega)) (Ev.bnd hS (Ev.bnd hI (Ev.bnd (laws_eqWeave_refl _ _ hg) (Ev.bnd (laws_eqWeave_refl _ _ hf) (Ev.bnd (laws_eqIntS_refl parents (by omega)) (Ev.bnd (laws_eqStringS_refl lines (by omega)) (Ev.bnd0 hk0 (Ev.bnd hk1 (Ev.bnd hy (Ev.pos ⟨rfl, rfl, rfl, rfl, rfl, by show 0 ≤ k0 + (parents.length : Int) + lines.length; omega, by omega⟩ (Ev.bnd (laws_heldWeave_k R.1 R.2.1 hbd hg.1 hg.2.2.1) (Ev.pos rfl (Ev.now _))))))))))))))))
theorem FnExactAddVersion : laws_FnExactAddVersion.Pure := by
 intro p b parents lines hp hb hpar hl
 refine Ev.rounds (r := true) ?_
 exact av_true p b parents lines (by omega) (fun x hx => by have := (hp.2 x hx).1; omega) (by omega) (fun x hx => by have := hb.2 x hx; exact ⟨this.1, by have := this.2.2.2.1; omega⟩) (by omega) hl.2

end Go.Proofs.Ytmodgiingohphaa.Pure
