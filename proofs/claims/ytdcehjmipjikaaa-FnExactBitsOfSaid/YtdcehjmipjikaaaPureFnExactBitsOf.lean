/- The program's BitsOf returns what the reference's returns, for every list that the row reads; neither the list nor the answer is shared with what came in or is told later. -/
import Derived.Test.YtdcehjmipjikaaaPFnExactBitsOfx3
import Derived.Test.YtdcehjmipjikaaaGen
namespace Go.Proofs.Ytdcehjmipjikaaa.Pure
open Go.RowKit Go.Proofs.Ytdcehjmipjikaaa.PFnExactBitsOf Go.Proofs.YtdcehjmipjikaaaW.PrintWords Go.Proofs.YtdcehjmipjikaaaW.PrintLast Go.Proofs.YtdcehjmipjikaaaG

theorem laws_toIntS_l0 (l : List Int) (hl : l.length ≤ 140737488351232) : ∀ (n i : Nat) (x : List Int), i + n = l.length → x.length = l.length → (∀ j, j < i → x[j]? = l[j]?) → Ev (fun k => laws_toIntS.l0 k l x (i : Int)) l := by
  intro n
  induction n with
  | zero =>
    intro i x hi hx hj
    refine Ev.succ ?_
    simp only [laws_toIntS.l0]
    refine Ev.neg (by omega) (Ev.some_ ?_)
    apply List.ext_getElem?
    intro j
    by_cases h : j < i
    · exact hj j h
    · rw [List.getElem?_eq_none (by omega), List.getElem?_eq_none (by omega)]
  | succ n ih =>
    intro i x hi hx hj
    refine Ev.succ ?_
    simp only [laws_toIntS.l0]
    refine Ev.pos (by omega) (Ev.pos (by omega) (Ev.pos (by omega) ?_))
    have e : wrap64 ((i : Int) + 1) = ((i + 1 : Nat) : Int) := by rw [w64 (by omega) (by omega)]; omega
    have e2 : ((i : Int)).toNat = i := by omega
    rw [e, e2]
    refine ih (i + 1) _ (by omega) (by rw [List.length_set]; exact hx) ?_
    intro j hj'
    by_cases h : j = i
    · subst h
      rw [List.getElem?_set_self (by omega)]
      simp [rd, List.getD, List.getElem?_eq_getElem (show j < l.length by omega)]
    · rw [List.getElem?_set_ne (by omega)]
      exact hj j (by omega)
theorem laws_toIntS_ev (l : List Int) (hl : l.length ≤ 35184372088832) : Ev (fun k => laws_toIntS.f k l) l := by
  simp only [laws_toIntS.f]
  refine Ev.pos (by omega) (Ev.pos (by omega) ?_)
  exact laws_toIntS_l0 l (by omega) l.length 0 _ (by omega) (by simp) (fun j h => absurd h (by omega))
theorem laws_eqIntS_refl (l : List Int) (hl : l.length ≤ 140737488351232) : Ev (fun k => laws_eqIntS.f k l l) true := by
  simp only [laws_eqIntS.f]
  refine Ev.pos (by first | rfl | trivial) ?_
  have key : ∀ (n i : Nat), i + n = l.length → Ev (fun k => laws_eqIntS.l0 k l l (i : Int)) true := by
    intro n
    induction n with
    | zero =>
      intro i hi
      refine Ev.succ ?_
      simp only [laws_eqIntS.l0]
      exact Ev.neg (by omega) (Ev.now _)
    | succ n ih =>
      intro i hi
      refine Ev.succ ?_
      simp only [laws_eqIntS.l0]
      have e : wrap64 ((i : Int) + 1) = ((i + 1 : Nat) : Int) := by rw [w64 (by omega) (by omega)]; omega
      rw [e]
      exact Ev.pos (by omega) (Ev.pos (by omega) (Ev.pos (by omega) (Ev.pos (by first | rfl | trivial) (ih (i + 1) (by omega)))))
  exact key l.length 0 (by omega)
theorem laws_eqUint32S_refl (l : List Int) (hl : l.length ≤ 140737488351232) : Ev (fun k => laws_eqUint32S.f k l l) true := by
  simp only [laws_eqUint32S.f]
  refine Ev.pos (by first | rfl | trivial) ?_
  have key : ∀ (n i : Nat), i + n = l.length → Ev (fun k => laws_eqUint32S.l0 k l l (i : Int)) true := by
    intro n
    induction n with
    | zero =>
      intro i hi
      refine Ev.succ ?_
      simp only [laws_eqUint32S.l0]
      exact Ev.neg (by omega) (Ev.now _)
    | succ n ih =>
      intro i hi
      refine Ev.succ ?_
      simp only [laws_eqUint32S.l0]
      have e : wrap64 ((i : Int) + 1) = ((i + 1 : Nat) : Int) := by rw [w64 (by omega) (by omega)]; omega
      rw [e]
      exact Ev.pos (by omega) (Ev.pos (by omega) (Ev.pos (by omega) (Ev.pos (by first | rfl | trivial) (ih (i + 1) (by omega)))))
  exact key l.length 0 (by omega)
theorem laws_markIntS_ev (l : List Int) (m : Int) (hl : l.length ≤ 140737488351232) (hm0 : 0 ≤ m) (hm : m ≤ 140737488351232) : Ev (fun k => laws_markIntS.f k l m) (m + l.length, markL (fun x => x) m l.length) := by
  simp only [laws_markIntS.f]
  have key : ∀ (n i : Nat) (x : List Int) (c : Int), i + n = l.length → x.length = l.length → c = m + i → (∀ j, j < i → x[j]? = (markL (fun x => x) m l.length)[j]?) → Ev (fun k => laws_markIntS.l0 k x c (i : Int)) (m + l.length, markL (fun x => x) m l.length) := by
    intro n
    induction n with
    | zero =>
      intro i x c hi hx hc hj
      refine Ev.succ ?_
      simp only [laws_markIntS.l0]
      refine Ev.neg (by omega) (Ev.some_ ?_)
      have : x = markL (fun x => x) m l.length := by
        apply List.ext_getElem?
        intro j
        by_cases h : j < i
        · exact hj j h
        · rw [List.getElem?_eq_none (by omega), List.getElem?_eq_none (by rw [markL_length]; omega)]
      rw [this, hc, show i = l.length by omega]
    | succ n ih =>
      intro i x c hi hx hc hj
      refine Ev.succ ?_
      simp only [laws_markIntS.l0]
      refine Ev.pos (by omega) (Ev.pos (by omega) ?_)
      have e : wrap64 ((i : Int) + 1) = ((i + 1 : Nat) : Int) := by rw [w64 (by omega) (by omega)]; omega
      have e1 : wrap64 (c + 1) = c + 1 := w64 (by omega) (by omega)
      have e2 : ((i : Int)).toNat = i := by omega
      rw [e, e1, e2]
      refine ih (i + 1) _ _ (by omega) (by rw [List.length_set]; exact hx) (by omega) ?_
      intro j hj'
      by_cases h : j = i
      · subst h
        rw [List.getElem?_set_self (by omega), markL_get _ _ _ _ (by omega), hc]
      · rw [List.getElem?_set_ne (by omega)]
        exact hj j (by omega)
  exact key l.length 0 l m (by omega) rfl (by omega) (fun j h => absurd h (by omega))
theorem laws_markUint32S_ev (l : List Int) (m : Int) (hl : l.length ≤ 140737488351232) (hm0 : 0 ≤ m) (hm : m ≤ 140737488351232) : Ev (fun k => laws_markUint32S.f k l m) (m + l.length, markL (fun x => x % 4294967296) m l.length) := by
  simp only [laws_markUint32S.f]
  have key : ∀ (n i : Nat) (x : List Int) (c : Int), i + n = l.length → x.length = l.length → c = m + i → (∀ j, j < i → x[j]? = (markL (fun x => x % 4294967296) m l.length)[j]?) → Ev (fun k => laws_markUint32S.l0 k x c (i : Int)) (m + l.length, markL (fun x => x % 4294967296) m l.length) := by
    intro n
    induction n with
    | zero =>
      intro i x c hi hx hc hj
      refine Ev.succ ?_
      simp only [laws_markUint32S.l0]
      refine Ev.neg (by omega) (Ev.some_ ?_)
      have : x = markL (fun x => x % 4294967296) m l.length := by
        apply List.ext_getElem?
        intro j
        by_cases h : j < i
        · exact hj j h
        · rw [List.getElem?_eq_none (by omega), List.getElem?_eq_none (by rw [markL_length]; omega)]
      rw [this, hc, show i = l.length by omega]
    | succ n ih =>
      intro i x c hi hx hc hj
      refine Ev.succ ?_
      simp only [laws_markUint32S.l0]
      refine Ev.pos (by omega) (Ev.pos (by omega) ?_)
      have e : wrap64 ((i : Int) + 1) = ((i + 1 : Nat) : Int) := by rw [w64 (by omega) (by omega)]; omega
      have e1 : wrap64 (c + 1) = c + 1 := w64 (by omega) (by omega)
      have e2 : ((i : Int)).toNat = i := by omega
      rw [e, e1, e2]
      refine ih (i + 1) _ _ (by omega) (by rw [List.length_set]; exact hx) (by omega) ?_
      intro j hj'
      by_cases h : j = i
      · subst h
        rw [List.getElem?_set_self (by omega), markL_get _ _ _ _ (by omega), hc]
      · rw [List.getElem?_set_ne (by omega)]
        exact hj j (by omega)
  exact key l.length 0 l m (by omega) rfl (by omega) (fun j h => absurd h (by omega))
theorem laws_heldUint32S_ev (m : Int) (n0 : Nat) (hl : n0 ≤ 140737488351232) (hm0 : 0 ≤ m) (hm : m ≤ 140737488351232) : Ev (fun k => laws_heldUint32S.f k (markL (fun x => x % 4294967296) m n0) m) (m + n0) := by
  simp only [laws_heldUint32S.f]
  have key : ∀ (n i : Nat) (c : Int), i + n = n0 → c = m + i → Ev (fun k => laws_heldUint32S.l0 k (markL (fun x => x % 4294967296) m n0) c (i : Int)) (m + n0) := by
    intro n
    induction n with
    | zero =>
      intro i c hi hc
      refine Ev.succ ?_
      simp only [laws_heldUint32S.l0]
      exact Ev.neg (by rw [markL_length]; omega) (Ev.some_ (by omega))
    | succ n ih =>
      intro i c hi hc
      refine Ev.succ ?_
      simp only [laws_heldUint32S.l0]
      have e : wrap64 ((i : Int) + 1) = ((i + 1 : Nat) : Int) := by rw [w64 (by omega) (by omega)]; omega
      have e1 : wrap64 (c + 1) = c + 1 := w64 (by omega) (by omega)
      rw [e, e1]
      refine Ev.pos (by rw [markL_length]; omega) (Ev.pos (by omega) (Ev.pos ?_ (ih (i + 1) _ (by omega) (by omega))))
      have := markL_get (fun x => x % 4294967296) m n0 i (by omega)
      have e3 : ((i : Int)).toNat = i := by omega
      simp only [rd, List.getD, e3, this, Option.getD_some, hc]
  exact key n0 0 m (by omega) (by omega)
theorem spec_l01In_eq (a b c : Int) : spec_l01In.f a b c = some (decide (b ≤ a ∧ a ≤ c)) := by
  unfold spec_l01In.f
  by_cases h : a ≥ b
  · rw [if_pos h]; simp [h]
  · rw [if_neg h]; simp; omega
theorem impl_inRange_eq (a b c : Int) : impl_inRange.f a b c = some (decide (b ≤ a ∧ a ≤ c)) := by
  unfold impl_inRange.f
  by_cases h : a ≥ b
  · rw [if_pos h]; simp [h]
  · rw [if_neg h]; simp; omega
def inBits (l : List Int) : Prop := ∀ v ∈ l, 0 ≤ v ∧ v ≤ 63
instance (l : List Int) : Decidable (inBits l) := by unfold inBits; infer_instance
theorem orAll_lt : ∀ (l : List Int) (s : Nat), inBits l → s < 2 ^ 64 → orAll s l < 2 ^ 64
  | [], _, _, h => h
  | v :: l, s, hl, h => by
    have hv := hl v (by simp)
    exact orAll_lt l _ (fun x hx => hl x (by simp [hx])) (or_lt h (two_pow_lt (by omega)))
theorem bit_lo (s v : Nat) (h : v < 32) : (s ||| 2 ^ v) % 2 ^ 32 = (s % 2 ^ 32) ||| 2 ^ v := by
  apply Nat.eq_of_testBit_eq
  intro i
  simp only [Nat.testBit_mod_two_pow, Nat.testBit_or, Nat.testBit_two_pow]
  by_cases hi : i < 32 <;> simp [hi]
  intro hv; omega
theorem bit_lo' (s v : Nat) (h : 32 ≤ v) : (s ||| 2 ^ v) % 2 ^ 32 = s % 2 ^ 32 := by
  apply Nat.eq_of_testBit_eq
  intro i
  simp only [Nat.testBit_mod_two_pow, Nat.testBit_or, Nat.testBit_two_pow]
  by_cases hi : i < 32 <;> simp [hi]
  omega
theorem bit_hi (s v : Nat) (h : 32 ≤ v) : (s ||| 2 ^ v) / 2 ^ 32 = (s / 2 ^ 32) ||| 2 ^ (v - 32) := by
  apply Nat.eq_of_testBit_eq
  intro i
  simp only [Nat.testBit_div_two_pow, Nat.testBit_or, Nat.testBit_two_pow]
  have : (v = i + 32) ↔ (v - 32 = i) := by omega
  simp [this]
theorem bit_hi' (s v : Nat) (h : v < 32) : (s ||| 2 ^ v) / 2 ^ 32 = s / 2 ^ 32 := by
  apply Nat.eq_of_testBit_eq
  intro i
  simp only [Nat.testBit_div_two_pow, Nat.testBit_or, Nat.testBit_two_pow]
  have : ¬ (v = i + 32) := by omega
  simp [this]
def twoW (s : Nat) : List Int := [((s % 2 ^ 32 : Nat) : Int), ((s / 2 ^ 32 : Nat) : Int)]
def bitsOf (l : List Int) : List Int × Bool := if inBits l then (twoW (orAll 0 l), true) else ([], false)
theorem twoW_set (s v : Nat) (hs : s < 2 ^ 64) (hv : v ≤ 63) : (twoW s).set ((v : Int) / 32).toNat (Go.bits .or .u32 (rd (twoW s) ((v : Int) / 32)) ((2 ^ (v % 32) : Nat) : Int)) = twoW (s ||| 2 ^ v) := by
  have hs1 : s % 2 ^ 32 < 2 ^ 32 := by omega
  have hs2 : s / 2 ^ 32 < 2 ^ 32 := by omega
  have hp : 2 ^ (v % 32) < 2 ^ 32 := two_pow_lt (by omega)
  by_cases h32 : v < 32
  · rw [show (v : Int) / 32 = 0 from by omega]
    rw [show v % 32 = v from by omega] at hp ⊢
    simp only [twoW, rd, Int.toNat_zero, List.getD_cons_zero, List.set_cons_zero]
    rw [or32 _ _ hs1 hp, bit_lo s v h32, bit_hi' s v h32]
  · rw [show (v : Int) / 32 = 1 from by omega]
    rw [show v % 32 = v - 32 from by omega] at hp ⊢
    simp only [twoW, rd, Int.toNat_one, List.getD_cons_succ, List.getD_cons_zero, List.set_cons_succ, List.set_cons_zero]
    rw [or32 _ _ hs2 hp, bit_lo' s v (by omega), bit_hi s v (by omega)]
theorem rd_drop (l : List Int) (i : Nat) (h : i < l.length) : l.drop i = rd l (i : Int) :: l.drop (i + 1) := drop_rd l i h
theorem spec_BitsOf_l0 (l : List Int) (hl : l.length ≤ 140737488351232) : ∀ (n i s : Nat), i + n = l.length → s < 2 ^ 64 → Ev (fun k => spec_BitsOf.l0 k l (twoW s) (i : Int)) (if inBits (l.drop i) then (twoW (orAll s (l.drop i)), true) else ([], false)) := by
  intro n
  induction n with
  | zero =>
    intro i s hi hs
    refine Ev.succ ?_
    simp only [spec_BitsOf.l0]
    have e : l.drop i = [] := List.drop_eq_nil_iff.2 (by omega)
    exact Ev.neg (by omega) (Ev.some_ (by rw [e]; simp [inBits, orAll]))
  | succ n ih =>
    intro i s hi hs
    refine Ev.succ ?_
    simp only [spec_BitsOf.l0]
    have hd := rd_drop l i (by omega)
    refine Ev.pos (by omega) (Ev.pos (by omega) (Ev.bnd0 (spec_l01In_eq _ _ _) ?_))
    by_cases hv : 0 ≤ rd l (i : Int) ∧ rd l (i : Int) ≤ 63
    · refine Ev.pos (by simpa using hv) ?_
      obtain ⟨v, hv'⟩ := Int.eq_ofNat_of_zero_le hv.1
      rw [hv'] at hv hd ⊢
      clear hv'
      have hv2 : v ≤ 63 := by omega
      clear hv
      rw [show wrap64 ((i : Int) + 1) = ((i + 1 : Nat) : Int) from by rw [w64 (by omega) (by omega)]; omega]
      rw [show Int.tdiv (v : Int) 32 = (v : Int) / 32 from Int.tdiv_eq_ediv_of_nonneg (by omega)]
      rw [show Int.tmod (v : Int) 32 = ((v % 32 : Nat) : Int) from by rw [Int.tmod_eq_emod_of_nonneg (by omega)]; omega]
      rw [show wrap64 ((v : Int) / 32) = (v : Int) / 32 from w64 (by omega) (by omega), shl32_one _ (by omega)]
      refine Ev.pos (by omega) (Ev.pos (by simp [twoW]; omega) (Ev.pos (by omega) ?_))
      rw [twoW_set s v hs hv2]
      have hlt : s ||| 2 ^ v < 2 ^ 64 := or_lt hs (two_pow_lt (by omega))
      refine Ev_eq (ih (i + 1) _ (by omega) hlt) ?_
      rw [hd]
      have : inBits ((v : Int) :: l.drop (i + 1)) ↔ inBits (l.drop (i + 1)) := by
        simp only [inBits, List.mem_cons]
        exact ⟨fun h x hx => h x (.inr hx), fun h x hx => by rcases hx with rfl | hx; omega; exact h x hx⟩
      by_cases hb : inBits (l.drop (i + 1))
      · rw [if_pos hb, if_pos (this.2 hb)]; rfl
      · rw [if_neg hb, if_neg (fun h => hb (this.1 h))]
    · refine Ev.neg (by simpa using hv) (Ev.some_ ?_)
      rw [hd, if_neg]
      intro h
      exact hv (h _ (by simp))
theorem spec_BitsOf_ev (l : List Int) (hl : l.length ≤ 140737488351232) : Ev (fun k => spec_BitsOf.f k l) (bitsOf l) := by
  simp only [spec_BitsOf.f]
  exact spec_BitsOf_l0 l hl l.length 0 0 (by omega) (by decide)
/-! impl.setOf: the numbers of a list below 64, as bits -/
def setStep (s : Nat) (v : Int) : Nat := if 0 ≤ v ∧ v ≤ 63 then s ||| 2 ^ v.toNat else s
def setN (l : List Int) : Nat := l.foldl setStep 0
theorem setStep_lt {s : Nat} (v : Int) (h : s < 2 ^ 64) : setStep s v < 2 ^ 64 := by
  unfold setStep
  split
  · exact or_lt h (two_pow_lt (by omega))
  · exact h
theorem setFold_lt : ∀ (l : List Int) (s : Nat), s < 2 ^ 64 → l.foldl setStep s < 2 ^ 64
  | [], _, h => h
  | v :: l, _, h => setFold_lt l _ (setStep_lt v h)
theorem setN_lt (l : List Int) : setN l < 2 ^ 64 := setFold_lt l 0 (by decide)
theorem impl_setOf_l0 (l : List Int) (hl : l.length ≤ 140737488351232) : ∀ (n i s : Nat), i + n = l.length → s < 2 ^ 64 → Ev (fun k => impl_setOf.l0 k (s : Int) l (l.length : Int) (i : Int)) (((l.drop i).foldl setStep s : Nat) : Int) := by
  intro n
  induction n with
  | zero =>
    intro i s hi hs
    refine Ev.succ ?_
    simp only [impl_setOf.l0]
    have e : l.drop i = [] := List.drop_eq_nil_iff.2 (by omega)
    exact Ev.neg (by omega) (Ev.some_ (by rw [e]; rfl))
  | succ n ih =>
    intro i s hi hs
    refine Ev.succ ?_
    simp only [impl_setOf.l0]
    have hd := drop_rd l i (by omega)
    refine Ev.pos (by omega) (Ev.pos (by omega) (Ev.pos (by omega) (Ev.bnd0 (impl_inRange_eq _ _ _) ?_)))
    rw [show wrap64 ((i : Int) + 1) = ((i + 1 : Nat) : Int) from by rw [w64 (by omega) (by omega)]; omega, hd, List.foldl_cons]
    by_cases hv : 0 ≤ rd l (i : Int) ∧ rd l (i : Int) ≤ 63
    · refine Ev.pos (by simpa using hv) ?_
      obtain ⟨v, hv'⟩ := Int.eq_ofNat_of_zero_le hv.1
      rw [hv'] at hv ⊢
      rw [wrapu64 _ (by omega) (by omega), shl64_one v (by omega), or64 _ _ hs (two_pow_lt (by omega))]
      refine Ev.pos (by omega) ?_
      have hst : setStep s (v : Int) = s ||| 2 ^ v := by rw [setStep, if_pos hv]; rfl
      rw [hst]
      exact ih (i + 1) _ (by omega) (or_lt hs (two_pow_lt (by omega)))
    · refine Ev.neg (by simpa using hv) ?_
      have hst : setStep s (rd l (i : Int)) = s := by rw [setStep, if_neg hv]
      rw [hst]
      exact ih (i + 1) _ (by omega) hs
theorem impl_setOf_ev (l : List Int) (hl : l.length ≤ 140737488351232) : Ev (fun k => impl_setOf.f k l) (setN l : Int) := by
  simp only [impl_setOf.f]
  exact impl_setOf_l0 l hl l.length 0 0 (by omega) (by decide)
theorem impl_BitsOf_l0 (l : List Int) (hl : l.length ≤ 140737488351232) : ∀ (n i : Nat), i + n = l.length → inBits (l.take i) → Ev (fun k => impl_BitsOf.l0 k l l (l.length : Int) (i : Int)) (bitsOf l) := by
  intro n
  induction n with
  | zero =>
    intro i hi hb
    refine Ev.succ ?_
    simp only [impl_BitsOf.l0]
    rw [List.take_of_length_le (by omega)] at hb
    refine Ev.neg (by omega) (Ev.bnd (impl_setOf_ev l hl) (Ev.some_ ?_))
    have hlt := orAll_lt l 0 hb (by decide)
    have hset : setN l = orAll 0 l := by
      have : ∀ (l : List Int) (s : Nat), inBits l → l.foldl setStep s = orAll s l := by
        intro l
        induction l with
        | nil => intro s _; rfl
        | cons v l ih =>
          intro s hl
          have hv := hl v (by simp)
          rw [List.foldl_cons, setStep, if_pos hv]
          exact ih _ (fun x hx => hl x (by simp [hx]))
      exact this l 0 hb
    rw [bitsOf, if_pos hb, hset, twoW]
    congr 1
    congr 1
    congr 1
    omega
  | succ n ih =>
    intro i hi hb
    refine Ev.succ ?_
    simp only [impl_BitsOf.l0]
    refine Ev.pos (by omega) (Ev.pos (by omega) (Ev.pos (by omega) (Ev.bnd0 (impl_inRange_eq _ _ _) ?_)))
    rw [show wrap64 ((i : Int) + 1) = ((i + 1 : Nat) : Int) from by rw [w64 (by omega) (by omega)]; omega]
    by_cases hv : 0 ≤ rd l (i : Int) ∧ rd l (i : Int) ≤ 63
    · refine Ev.pos (by simpa using hv) (ih (i + 1) (by omega) ?_)
      rw [List.take_succ_eq_append_getElem (by omega)]
      intro v hv'
      rcases List.mem_append.1 hv' with h | h
      · exact hb v h
      · simp at h
        rw [h, ← rd_nat l i (by omega)]
        exact hv
    · refine Ev.neg (by simpa using hv) (Ev.some_ ?_)
      rw [bitsOf, if_neg]
      intro h
      exact hv (by rw [rd_nat l i (by omega)]; exact h _ (List.getElem_mem _))
theorem impl_BitsOf_ev (l : List Int) (hl : l.length ≤ 140737488351232) : Ev (fun k => impl_BitsOf.f k l) (bitsOf l) := by
  simp only [impl_BitsOf.f]
  exact impl_BitsOf_l0 l hl l.length 0 (by omega) (by simp [inBits])
theorem FnExactBitsOf : laws_FnExactBitsOf.Pure := by
  intro l _
  refine Ev.rounds (r := true) ?_
  simp only [laws_FnExactBitsOf.f]
  by_cases h : (l.length : Int) > 1048576
  · exact Ev.pos h (Ev.now _)
  have hn : (bitsOf l).1.length ≤ 2 := by unfold bitsOf; split <;> simp [twoW]
  refine Ev.neg h (Ev.bnd (laws_toIntS_ev l (by omega)) (Ev.bnd (spec_BitsOf_ev l (by omega)) (Ev.bnd (laws_toIntS_ev l (by omega)) (Ev.bnd (impl_BitsOf_ev l (by omega)) (Ev.bnd (laws_eqUint32S_refl _ (by omega)) (Ev.pos (by first | rfl | trivial) ?_))))))
  rw [bne_self_eq_false]
  refine Ev.succ ?_
  simp only [laws_FnExactBitsOf.j0]
  refine Ev.neg (by simp) (Ev.bnd (laws_toIntS_ev l (by omega)) (Ev.bnd (laws_eqIntS_refl l (by omega)) (Ev.pos (by first | rfl | trivial) (Ev.bnd (laws_markIntS_ev l 1 (by omega) (by omega) (by omega)) (Ev.neg (by simp only; omega) (Ev.bnd (laws_eqUint32S_refl _ (by omega)) (Ev.pos (by first | rfl | trivial) ?_)))))))
  rw [bne_self_eq_false]
  refine Ev.succ ?_
  simp only [laws_FnExactBitsOf.j1]
  refine Ev.neg (by simp) (Ev.bnd (laws_markUint32S_ev _ 1 (by omega) (by omega) (by omega)) (Ev.bnd (laws_heldUint32S_ev 1 _ (by omega) (by omega) (by omega)) (Ev.neg (by omega) (Ev.pos (by first | rfl | trivial) (Ev.bnd (laws_toIntS_ev l (by omega)) (Ev.bnd (impl_BitsOf_ev l (by omega)) (Ev.bnd (laws_eqUint32S_refl _ (by omega)) (Ev.pos (by first | rfl | trivial) ?_))))))))
  rw [bne_self_eq_false]
  refine Ev.succ ?_
  simp only [laws_FnExactBitsOf.j2]
  exact Ev.neg (by simp) (Ev.bnd (laws_heldUint32S_ev 1 _ (by omega) (by omega) (by omega)) (Ev.neg (by omega) (Ev.pos (by first | rfl | trivial) (Ev.now _))))

end Go.Proofs.Ytdcehjmipjikaaa.Pure
