/- The program's ReadDecimal returns what the reference's returns, for every text. -/
import Derived.Test.YtfaebcoembcfoaaDoorPFnExactReadDecimalx1
import Derived.Test.YtfaebcoembcfoaaDoorGen
namespace Go.Proofs.YtfaebcoembcfoaaDoor.Pure
open Go.RowKit Go.Proofs.YtfaebcoembcfoaaDoor.PFnExactReadDecimal Go.Proofs.YtfaebcoembcfoaaDoorW.PrintWords Go.Proofs.YtfaebcoembcfoaaDoorW.PrintLast Go.Proofs.YtfaebcoembcfoaaDoorG

def dd (u : Nat) : List UInt8 := if u = 0 then [] else Lib.decDigits u
theorem dd_step (u : Nat) (h : u ≠ 0) : dd u = dd (u / 10) ++ [UInt8.ofNat (48 + u % 10)] := by
  unfold dd
  rw [if_neg h]
  by_cases h2 : u < 10
  · rw [Lib.decDigits, dif_pos h2, if_pos (by omega), Nat.mod_eq_of_lt h2]
    rfl
  · rw [Lib.decDigits, dif_neg h2, if_neg (by omega)]
def strL (l : List UInt8) : ByteArray := ⟨l.toArray⟩
theorem strL_append (l : List UInt8) (s : ByteArray) : strL (l ++ s.data.toList) = strL l ++ s := by
  apply data_inj
  rw [ByteArray.toList_data_append]
  simp [strL]
theorem strOne (d : Nat) (h : d < 10) : strOfNums [((wrap64 (48 + (d : Int))) % 256)] = strL [UInt8.ofNat (48 + d)] := by
  rw [w64 (by omega) (by omega)]
  apply data_inj
  rw [strOfNums_data]
  simp only [List.map_cons, List.map_nil, strL]
  rw [show ((48 + (d : Int)) % 256) = ((48 + d : Nat) : Int) by omega, Int.toNat_natCast]
theorem tm_neg (u : Nat) : Int.tmod (-(u : Int)) 10 = -((u % 10 : Nat) : Int) := by
  rw [Int.neg_tmod]
  rfl
theorem td_neg (u : Nat) : Int.tdiv (-(u : Int)) 10 = -((u / 10 : Nat) : Int) := by
  rw [Int.neg_tdiv]
  rfl
theorem spec_Decimal_l0 (b : Bool) : ∀ (f u : Nat) (n : Int) (s : ByteArray), u < f → u ≤ 9223372036854775808 → (n = (u : Int) ∨ n = -(u : Int)) → (-9223372036854775808 ≤ n ∧ n ≤ 9223372036854775807) → s.size + f < 1000000000000000000000 → s.size + (dd u).length ≤ 1000000 →
    Ev (fun k => spec_Decimal.l0 k n b s) (if b = true then strL (45 :: (dd u ++ s.data.toList)) else strL (dd u ++ s.data.toList)) := by
  intro f
  induction f with
  | zero => intro u n s h; omega
  | succ f ih =>
    intro u n s hu hum hn hb hs hl
    refine Ev.succ ?_
    simp only [spec_Decimal.l0]
    by_cases h0 : u = 0
    · subst h0
      have hn0 : n = 0 := by omega
      refine Ev.pos hn0 ?_
      simp only [dd, if_pos, List.nil_append]
      have es : strL s.data.toList = s := by apply data_inj; simp [strL]
      by_cases hB : b = true
      · refine Ev_eq ?_ (if_pos hB).symm
        refine Ev.pos hB (Ev.pos (by simp only [dd, if_pos, List.length_nil] at hl; omega) (Ev.some_ ?_))
        rw [show (45 :: s.data.toList) = [45] ++ s.data.toList from rfl, strL_append]
        rfl
      · refine Ev_eq ?_ (if_neg hB).symm
        rw [es]
        exact Ev.neg hB (Ev.now _)
    · have hd := dd_step u h0
      have hne : ¬ n = 0 := by omega
      refine Ev.neg hne ?_
      have hL : (dd u).length = (dd (u / 10)).length + 1 := by rw [hd]; simp
      have key : ∀ q : Int, (q = ((u / 10 : Nat) : Int) ∨ q = -((u / 10 : Nat) : Int)) → (-9223372036854775808 ≤ q ∧ q ≤ 9223372036854775807) → Ev (fun k => spec_Decimal.l0 k q b (strL [UInt8.ofNat (48 + u % 10)] ++ s)) (if b = true then strL (45 :: (dd u ++ s.data.toList)) else strL (dd u ++ s.data.toList)) := by
        intro q hq hqb
        have hsz : (strL [UInt8.ofNat (48 + u % 10)] ++ s).size = 1 + s.size := by rw [size_append]; rfl
        have e := ih (u / 10) q (strL [UInt8.ofNat (48 + u % 10)] ++ s) (by omega) (by omega) hq hqb (by rw [hsz]; omega) (by rw [hsz]; omega)
        have e2 : dd (u / 10) ++ (strL [UInt8.ofNat (48 + u % 10)] ++ s).data.toList = dd u ++ s.data.toList := by
          rw [hd, ByteArray.toList_data_append, List.append_assoc]
          rfl
        rw [e2] at e
        exact e
      rcases hn with rfl | rfl
      · have em : Int.tmod (u : Int) 10 = ((u % 10 : Nat) : Int) := rfl
        have ed : Int.tdiv (u : Int) 10 = ((u / 10 : Nat) : Int) := rfl
        rw [em, ed, w64 (n := ((u / 10 : Nat) : Int)) (by omega) (by omega)]
        refine Ev.neg (by omega) (Ev.bnd0 (a := (wrap64 (48 + ((u % 10 : Nat) : Int))) % 256) (by simp only [spec_l01Figure.f]; rw [if_pos (by omega)]) (Ev.bnd0 rfl ?_))
        rw [strOne (u % 10) (by omega)]
        exact Ev.pos (by show 1 + s.size ≤ _; omega) (key _ (.inl rfl) (by omega))
      · rw [tm_neg, td_neg, w64 (n := -((u / 10 : Nat) : Int)) (by omega) (by omega)]
        by_cases hz : u % 10 = 0
        · rw [hz]
          refine Ev.neg (by simp) (Ev.bnd0 (a := (wrap64 (48 + ((0 : Nat) : Int))) % 256) (by simp only [spec_l01Figure.f]; rw [if_pos (by simp)]; rfl) (Ev.bnd0 rfl ?_))
          rw [strOne 0 (by omega)]
          have := key (-((u / 10 : Nat) : Int)) (.inr rfl) (by omega)
          rw [hz] at this
          exact Ev.pos (by show 1 + s.size ≤ _; omega) this
        · rw [Int.neg_neg, w64 (n := ((u % 10 : Nat) : Int)) (by omega) (by omega)]
          refine Ev.pos (by omega) (Ev.bnd0 (a := (wrap64 (48 + ((u % 10 : Nat) : Int))) % 256) (by simp only [spec_l01Figure.f]; rw [if_pos (by omega)]) (Ev.bnd0 rfl ?_))
          rw [strOne (u % 10) (by omega)]
          exact Ev.pos (by show 1 + s.size ≤ _; omega) (key _ (.inr rfl) (by omega))
theorem decDigits_len : ∀ (k u : Nat), u < 10 ^ (k + 1) → (Lib.decDigits u).length ≤ k + 1
  | 0, u, h => by
    rw [Lib.decDigits, dif_pos (by simpa using h)]
    simp
  | k + 1, u, h => by
    by_cases h2 : u < 10
    · rw [Lib.decDigits, dif_pos h2]
      simp
    · have := decDigits_len k (u / 10) (by rw [Nat.pow_succ] at h; omega)
      rw [Lib.decDigits, dif_neg h2, List.length_append]
      simp only [List.length_cons, List.length_nil]
      omega
theorem dd_length (u : Nat) (h : u ≤ 9223372036854775808) : (dd u).length ≤ 100 := by
  unfold dd
  split
  · simp
  · have h1 := decDigits_len 19 u (by omega)
    omega
theorem spec_Decimal_ev (n : Int) (h0 : -9223372036854775808 ≤ n) (h1 : n ≤ 9223372036854775807) : Ev (fun k => spec_Decimal.f k n) (strL (Lib.itoa n)) := by
  simp only [spec_Decimal.f]
  by_cases h : n = 0
  · subst h
    refine Ev.pos rfl (Ev.some_ ?_)
    rw [show Lib.itoa 0 = Lib.decDigits 0 from Lib.itoa_nonneg 0, Lib.decDigits, dif_pos (by decide)]
    rfl
  · refine Ev.neg h ?_
    have hd := dd_length n.natAbs (by omega)
    refine Ev_eq (spec_Decimal_l0 (decide (n < 0)) (n.natAbs + 1) n.natAbs n ⟨#[]⟩ (by omega) (by omega) (by omega) ⟨h0, h1⟩ (by show 0 + _ < _; omega) (by show 0 + _ ≤ _; omega)) ?_
    have e0 : (⟨#[]⟩ : ByteArray).data.toList = [] := rfl
    rw [e0, List.append_nil]
    by_cases hn : n < 0
    · rw [if_pos (decide_eq_true hn)]
      unfold Lib.itoa
      rw [if_pos hn]
      unfold dd
      rw [if_neg (by omega)]
    · rw [if_neg (by simpa using hn)]
      unfold Lib.itoa
      rw [if_neg hn]
      unfold dd
      rw [if_neg (by omega), show n.toNat = n.natAbs by omega]
def rdDec : List Int → Int → Option Int
  | [], n => some n
  | b :: l, n => if b < 48 then none else if b > 57 then none else rdDec l (10 * n + b - 48)
def finDec (s : ByteArray) : Option Int → Int × Bool
  | none => (0, false)
  | some n => if n > 1000000000 then (0, false) else if (strL (Lib.itoa n)).toList = s.toList then (n, true) else (0, false)
theorem pow_up (i : Nat) (h : i ≤ 9) : (10 : Int) ^ (i + 1) = 10 * 10 ^ i ∧ (10 : Int) ^ i ≤ 1000000000 := by
  refine ⟨by rw [Int.pow_succ, Int.mul_comm], ?_⟩
  have := Nat.pow_le_pow_right (show 0 < 10 by decide) h
  have e : ((10 ^ i : Nat) : Int) = (10 : Int) ^ i := by simp
  rw [← e]
  omega
theorem spec_ReadDecimal_l0 (s : ByteArray) (hs : s.size ≤ 10) : ∀ (m i : Nat) (n : Int), i + m = s.size → 0 ≤ n → n < 10 ^ i → Ev (fun k => spec_ReadDecimal.l0 k s n (i : Int)) (finDec s (rdDec ((bytesOf s).drop i) n)) := by
  intro m
  induction m with
  | zero =>
    intro i n hi h0 hn
    have hi2 : i = s.size := by omega
    refine Ev.succ ?_
    simp only [spec_ReadDecimal.l0]
    rw [show (bytesOf s).drop i = [] by rw [hi2]; exact drop_all s]
    refine Ev.neg (by omega) ?_
    simp only [rdDec, finDec]
    by_cases hb : n > 1000000000
    · refine Ev_eq ?_ (if_pos hb).symm
      exact Ev.pos hb (Ev.now _)
    · refine Ev_eq ?_ (if_neg hb).symm
      refine Ev.neg hb (Ev.bnd (spec_Decimal_ev n (by omega) (by omega)) ?_)
      by_cases he : (strL (Lib.itoa n)).toList = s.toList
      · refine Ev_eq ?_ (if_pos he).symm
        exact Ev.pos he (Ev.now _)
      · refine Ev_eq ?_ (if_neg he).symm
        exact Ev.neg he (Ev.now _)
  | succ m ih =>
    intro i n hi h0 hn
    obtain ⟨p1, p2⟩ := pow_up i (by omega)
    refine Ev.succ ?_
    simp only [spec_ReadDecimal.l0]
    rw [drop_bt s i (by omega), up1 i (by omega)]
    simp only [rdDec]
    refine Ev.pos (by omega) (Ev.pos (by omega) ?_)
    by_cases ha : bt s (i : Int) < 48
    · rw [if_pos ha]
      exact Ev.pos ha (Ev.now _)
    rw [if_neg ha]
    refine Ev.neg ha ?_
    by_cases hb : bt s (i : Int) > 57
    · rw [if_pos hb]
      exact Ev.pos hb (Ev.now _)
    rw [if_neg hb]
    refine Ev.neg hb ?_
    rw [w64 (n := 10 * n) (by omega) (by omega), w64 (n := bt s (i : Int)) (by omega) (by omega), w64 (n := 10 * n + bt s (i : Int)) (by omega) (by omega), w64 (by omega) (by omega)]
    exact ih (i + 1) _ (by omega) (by omega) (by rw [p1]; omega)
theorem impl_ReadDecimal_l0 (s : ByteArray) (hs : s.size ≤ 10) : ∀ (m i : Nat) (n : Int), i + m = s.size → 0 ≤ n → n < 10 ^ i → Ev (fun k => impl_ReadDecimal.l0 k s n (i : Int)) (finDec s (rdDec ((bytesOf s).drop i) n)) := by
  intro m
  induction m with
  | zero =>
    intro i n hi h0 hn
    have hi2 : i = s.size := by omega
    refine Ev.succ ?_
    simp only [impl_ReadDecimal.l0]
    rw [show (bytesOf s).drop i = [] by rw [hi2]; exact drop_all s]
    refine Ev.neg (by omega) ?_
    simp only [rdDec, finDec]
    by_cases hb : n > 1000000000
    · refine Ev_eq ?_ (if_pos hb).symm
      exact Ev.pos hb (Ev.now _)
    · refine Ev_eq ?_ (if_neg hb).symm
      refine Ev.neg hb (Ev.bnd0 (a := strL (Lib.itoa n)) (by unfold impl_Decimal.f; rw [if_pos (by omega)]; rfl) ?_)
      by_cases he : (strL (Lib.itoa n)).toList = s.toList
      · refine Ev_eq ?_ (if_pos he).symm
        exact Ev.pos he (Ev.now _)
      · refine Ev_eq ?_ (if_neg he).symm
        exact Ev.neg he (Ev.now _)
  | succ m ih =>
    intro i n hi h0 hn
    obtain ⟨p1, p2⟩ := pow_up i (by omega)
    refine Ev.succ ?_
    simp only [impl_ReadDecimal.l0]
    rw [drop_bt s i (by omega), up1 i (by omega)]
    simp only [rdDec]
    refine Ev.pos (by omega) (Ev.pos (by omega) ?_)
    by_cases ha : bt s (i : Int) < 48
    · rw [if_pos ha]
      exact Ev.pos ha (Ev.now _)
    rw [if_neg ha]
    refine Ev.neg ha ?_
    by_cases hb : bt s (i : Int) > 57
    · rw [if_pos hb]
      exact Ev.pos hb (Ev.now _)
    rw [if_neg hb]
    refine Ev.neg hb ?_
    rw [w64 (n := n * 10) (by omega) (by omega), w64 (by omega) (by omega), show n * 10 + (bt s (i : Int) - 48) % 256 = 10 * n + bt s (i : Int) - 48 by omega]
    exact ih (i + 1) _ (by omega) (by omega) (by rw [p1]; omega)
def readDecR (s : ByteArray) : Int × Bool := if s.size = 0 then (0, false) else if 10 < s.size then (0, false) else finDec s (rdDec (bytesOf s) 0)
theorem spec_ReadDecimal_ev (s : ByteArray) : Ev (fun k => spec_ReadDecimal.f k s) (readDecR s) := by
  simp only [spec_ReadDecimal.f, readDecR]
  by_cases h : 10 < s.size
  · rw [if_neg (by omega), if_pos h]
    exact Ev.pos (by omega) (Ev.now _)
  · have e := spec_ReadDecimal_l0 s (by omega) s.size 0 0 (by omega) (by omega) (by decide)
    refine Ev.neg (by omega) (Ev_eq e ?_)
    by_cases h0 : s.size = 0
    · rw [if_pos h0]
      have hb : bytesOf s = [] := List.eq_nil_of_length_eq_zero (by rw [bytesOf_length]; exact h0)
      rw [hb]
      simp only [List.drop_nil, rdDec, finDec]
      rw [if_neg (by decide), if_neg]
      intro he
      have h1 : (strL (Lib.itoa 0)).size = s.size := by rw [(toList_iff _ _).1 he]
      rw [h0, show Lib.itoa 0 = Lib.decDigits 0 from Lib.itoa_nonneg 0, Lib.decDigits, dif_pos (by decide)] at h1
      exact absurd h1 (by decide)
    · rw [if_neg h0, if_neg h]
      rfl
theorem impl_ReadDecimal_ev (s : ByteArray) : Ev (fun k => impl_ReadDecimal.f k s) (readDecR s) := by
  simp only [impl_ReadDecimal.f, readDecR]
  by_cases h0 : s.size = 0
  · rw [if_pos h0]
    refine Ev.pos (by omega) (Ev.succ ?_)
    simp only [impl_ReadDecimal.j0]
    exact Ev.pos (by first | rfl | trivial) (Ev.now _)
  rw [if_neg h0]
  refine Ev.neg (by omega) (Ev.succ ?_)
  simp only [impl_ReadDecimal.j0]
  by_cases h : 10 < s.size
  · rw [if_pos h]
    exact Ev.pos (by simpa using (by omega : (10 : Int) < s.size)) (Ev.now _)
  · rw [if_neg h]
    refine Ev.neg (by simpa using (by omega : (s.size : Int) ≤ 10)) (Ev_eq (impl_ReadDecimal_l0 s (by omega) s.size 0 0 (by omega) (by omega) (by decide)) rfl)
theorem FnExactReadDecimal : laws_FnExactReadDecimal.Pure := by
  intro s hs
  refine Ev.rounds (r := true) ?_
  simp only [laws_FnExactReadDecimal.f]
  by_cases hb : (s.size : Int) > 1048576
  · exact Ev.pos hb (Ev.now _)
  exact Ev.neg hb (Ev.bnd (spec_ReadDecimal_ev s) (Ev.bnd (impl_ReadDecimal_ev s) (Ev.pos (by first | rfl | trivial) (Ev.neg (by simp) (Ev.now _)))))

end Go.Proofs.YtfaebcoembcfoaaDoor.Pure
