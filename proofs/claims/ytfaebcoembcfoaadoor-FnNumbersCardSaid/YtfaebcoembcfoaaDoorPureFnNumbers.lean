/- A drawn number comes back from VarText and from Decimal, with the place behind it; a longer form of it is none. -/
import Derived.Test.YtfaebcoembcfoaaDoorPFnNumbersx2
import Derived.Test.YtfaebcoembcfoaaDoorGen
namespace Go.Proofs.YtfaebcoembcfoaaDoor.Pure
open Go.RowKit Go.Proofs.YtfaebcoembcfoaaDoor.PFnNumbers Go.Proofs.YtfaebcoembcfoaaDoorW.PrintWords Go.Proofs.YtfaebcoembcfoaaDoorW.PrintLast Go.Proofs.YtfaebcoembcfoaaDoorG

theorem laws_big_eq (l : List Int) : laws_big.f l = some (decide ((l.length : Int) > 1048576)) := rfl
def dd (u : Nat) : List UInt8 := if u = 0 then [] else Lib.decDigits u
theorem dd_step (u : Nat) (h : u ≠ 0) : dd u = dd (u / 10) ++ [UInt8.ofNat (48 + u % 10)] := by
  unfold dd
  rw [if_neg h]
  by_cases h2 : u < 10
  · rw [Lib.decDigits, dif_pos h2, if_pos (by omega), Nat.mod_eq_of_lt h2]
    rfl
  · rw [Lib.decDigits, dif_neg h2, if_neg (by omega)]
def strL (l : List UInt8) : ByteArray := ⟨l.toArray⟩
theorem strL_append (l : List UInt8) (s : ByteArray) : strL (l ++ s.data.toList) = strL l ++ s := by
  apply data_inj
  rw [ByteArray.toList_data_append]
  simp [strL]
theorem decDigits_len : ∀ (k u : Nat), u < 10 ^ (k + 1) → (Lib.decDigits u).length ≤ k + 1
  | 0, u, h => by
    rw [Lib.decDigits, dif_pos (by simpa using h)]
    simp
  | k + 1, u, h => by
    by_cases h2 : u < 10
    · rw [Lib.decDigits, dif_pos h2]
      simp
    · have := decDigits_len k (u / 10) (by rw [Nat.pow_succ] at h; omega)
      rw [Lib.decDigits, dif_neg h2, List.length_append]
      simp only [List.length_cons, List.length_nil]
      omega
def rdDec : List Int → Int → Option Int
  | [], n => some n
  | b :: l, n => if b < 48 then none else if b > 57 then none else rdDec l (10 * n + b - 48)
def finDec (s : ByteArray) : Option Int → Int × Bool
  | none => (0, false)
  | some n => if n > 1000000000 then (0, false) else if (strL (Lib.itoa n)).toList = s.toList then (n, true) else (0, false)
theorem pow_up (i : Nat) (h : i ≤ 9) : (10 : Int) ^ (i + 1) = 10 * 10 ^ i ∧ (10 : Int) ^ i ≤ 1000000000 := by
  refine ⟨by rw [Int.pow_succ, Int.mul_comm], ?_⟩
  have := Nat.pow_le_pow_right (show 0 < 10 by decide) h
  have e : ((10 ^ i : Nat) : Int) = (10 : Int) ^ i := by simp
  rw [← e]
  omega
theorem impl_ReadDecimal_l0 (s : ByteArray) (hs : s.size ≤ 10) : ∀ (m i : Nat) (n : Int), i + m = s.size → 0 ≤ n → n < 10 ^ i → Ev (fun k => impl_ReadDecimal.l0 k s n (i : Int)) (finDec s (rdDec ((bytesOf s).drop i) n)) := by
  intro m
  induction m with
  | zero =>
    intro i n hi h0 hn
    have hi2 : i = s.size := by omega
    refine Ev.succ ?_
    simp only [impl_ReadDecimal.l0]
    rw [show (bytesOf s).drop i = [] by rw [hi2]; exact drop_all s]
    refine Ev.neg (by omega) ?_
    simp only [rdDec, finDec]
    by_cases hb : n > 1000000000
    · refine Ev_eq ?_ (if_pos hb).symm
      exact Ev.pos hb (Ev.now _)
    · refine Ev_eq ?_ (if_neg hb).symm
      refine Ev.neg hb (Ev.bnd0 (a := strL (Lib.itoa n)) (by unfold impl_Decimal.f; rw [if_pos (by omega)]; rfl) ?_)
      by_cases he : (strL (Lib.itoa n)).toList = s.toList
      · refine Ev_eq ?_ (if_pos he).symm
        exact Ev.pos he (Ev.now _)
      · refine Ev_eq ?_ (if_neg he).symm
        exact Ev.neg he (Ev.now _)
  | succ m ih =>
    intro i n hi h0 hn
    obtain ⟨p1, p2⟩ := pow_up i (by omega)
    refine Ev.succ ?_
    simp only [impl_ReadDecimal.l0]
    rw [drop_bt s i (by omega), up1 i (by omega)]
    simp only [rdDec]
    refine Ev.pos (by omega) (Ev.pos (by omega) ?_)
    by_cases ha : bt s (i : Int) < 48
    · rw [if_pos ha]
      exact Ev.pos ha (Ev.now _)
    rw [if_neg ha]
    refine Ev.neg ha ?_
    by_cases hb : bt s (i : Int) > 57
    · rw [if_pos hb]
      exact Ev.pos hb (Ev.now _)
    rw [if_neg hb]
    refine Ev.neg hb ?_
    rw [w64 (n := n * 10) (by omega) (by omega), w64 (by omega) (by omega), show n * 10 + (bt s (i : Int) - 48) % 256 = 10 * n + bt s (i : Int) - 48 by omega]
    exact ih (i + 1) _ (by omega) (by omega) (by rw [p1]; omega)
def readDecR (s : ByteArray) : Int × Bool := if s.size = 0 then (0, false) else if 10 < s.size then (0, false) else finDec s (rdDec (bytesOf s) 0)
theorem impl_ReadDecimal_ev (s : ByteArray) : Ev (fun k => impl_ReadDecimal.f k s) (readDecR s) := by
  simp only [impl_ReadDecimal.f, readDecR]
  by_cases h0 : s.size = 0
  · rw [if_pos h0]
    refine Ev.pos (by omega) (Ev.succ ?_)
    simp only [impl_ReadDecimal.j0]
    exact Ev.pos (by first | rfl | trivial) (Ev.now _)
  rw [if_neg h0]
  refine Ev.neg (by omega) (Ev.succ ?_)
  simp only [impl_ReadDecimal.j0]
  by_cases h : 10 < s.size
  · rw [if_pos h]
    exact Ev.pos (by simpa using (by omega : (10 : Int) < s.size)) (Ev.now _)
  · rw [if_neg h]
    refine Ev.neg (by simpa using (by omega : (s.size : Int) ≤ 10)) (Ev_eq (impl_ReadDecimal_l0 s (by omega) s.size 0 0 (by omega) (by omega) (by decide)) rfl)
/-! ReadVar: numbers read back -/
def valL : List Int → Int
  | [] => 0
  | d :: l => d % 128 + 128 * valL l
def pw : List Int → Int
  | [] => 1
  | _ :: l => 128 * pw l
theorem valL_snoc (b : Int) : ∀ l, valL (l ++ [b]) = valL l + b % 128 * pw l
  | [] => by simp [valL, pw]
  | d :: l => by
    simp only [List.cons_append, valL, pw, valL_snoc b l, Int.mul_add]
    rw [Int.mul_left_comm]
    omega
theorem pw_snoc (b : Int) : ∀ l, pw (l ++ [b]) = pw l * 128
  | [] => by simp [pw]
  | d :: l => by simp only [List.cons_append, pw, pw_snoc b l]; omega
theorem valL_nonneg : ∀ l, 0 ≤ valL l
  | [] => Int.le_refl _
  | d :: l => by have := valL_nonneg l; simp only [valL]; omega
/-- A number's bytes are the ones it was read from, unless a last byte is for nothing. -/
theorem canon (b : Int) (hb0 : 0 ≤ b) (hb : b < 128) : ∀ (l : List Int) (f : Nat), (∀ d ∈ l, 128 ≤ d ∧ d ≤ 255) → l.length ≤ f → (varF f (valL (l ++ [b])) = l ++ [b] ↔ ¬ (b = 0 ∧ l ≠ []))
  | [], 0, _, _ => by simp [varF, valL]; omega
  | [], f + 1, _, _ => by
    have : ¬ (b % 128 + 128 * 0 > 127) := by omega
    simp [varF, valL]
    rw [if_neg (by omega)]
    simp; omega
  | d :: l, 0, _, h => by simp at h
  | d :: l, f + 1, hl, h => by
    obtain ⟨h0, h1⟩ := hl d (by simp)
    have ih := canon b hb0 hb l f (fun x hx => hl x (by simp [hx])) (by simp at h; omega)
    have hp := valL_nonneg (l ++ [b])
    have hv : valL (d :: l ++ [b]) = d % 128 + 128 * valL (l ++ [b]) := rfl
    by_cases hm : valL (l ++ [b]) = 0
    · have hb' : b = 0 := by
        have key : ∀ l : List Int, valL (l ++ [b]) = 0 → b = 0 := by
          intro l
          induction l with
          | nil => intro h; simp [valL] at h; omega
          | cons x l ih => intro h; simp only [List.cons_append, valL] at h; have := valL_nonneg (l ++ [b]); exact ih (by omega)
        exact key l hm
      rw [hv, hm]
      have : ¬ (d % 128 + 128 * 0 > 127) := by omega
      simp only [varF]
      rw [if_neg this]
      constructor
      · intro h
        have := congrArg List.length h
        simp at this
      · intro h
        exact absurd ⟨hb', by simp⟩ h
    · rw [hv]
      have hgt : d % 128 + 128 * valL (l ++ [b]) > 127 := by omega
      simp only [varF]
      rw [if_pos hgt]
      have e1 : (d % 128 + 128 * valL (l ++ [b])) % 128 + 128 = d := by omega
      have e2 : (d % 128 + 128 * valL (l ++ [b])) / 128 = valL (l ++ [b]) := by omega
      rw [e1, e2]
      have : (d :: varF f (valL (l ++ [b])) = d :: l ++ [b]) ↔ (varF f (valL (l ++ [b])) = l ++ [b]) := by simp
      rw [this, ih]
      cases l with
      | nil => 
        simp [valL] at hm
        simp
        omega
      | cons x l => simp
def cap : Nat → Int
  | 0 => 34359738368
  | f + 1 => cap f / 128
theorem cap_le : ∀ f, cap f ≤ 34359738368
  | 0 => Int.le_refl _
  | f + 1 => by have := cap_le f; simp only [cap]; omega
/-- The number that is read from place i on; f: how many bytes may still come. -/
def readGo (s : ByteArray) : Nat → Int → Int → Int → Int × Int × Bool
  | 0, _, _, _ => (0, 0, false)
  | f + 1, i, n, u =>
    if i < (s.size : Int) then
      if bt s i ≥ 128 then readGo s f (i + 1) (n + bt s i % 128 * u) (u * 128)
      else if bt s i = 0 ∧ u > 1 ∨ n + bt s i % 128 * u > 1000000000 then (0, 0, false)
      else (n + bt s i % 128 * u, i + 1, true)
    else (0, 0, false)
def readVar (s : ByteArray) (a : Int) : Int × Int × Bool := if 0 ≤ a ∧ a ≤ (s.size : Int) then readGo s 5 a 0 1 else (0, 0, false)
theorem take_snoc (l : List Int) (a j : Nat) (h : a + j < l.length) : (l.drop a).take (j + 1) = (l.drop a).take j ++ [rd l ((a + j : Nat) : Int)] := by
  rw [List.take_succ_eq_append_getElem (by simp; omega)]
  have e : (((a + j : Nat) : Int)).toNat = a + j := by omega
  simp only [rd, e, List.getD, List.getElem?_eq_getElem h, List.getElem_drop, Option.getD_some]
theorem step_all (b u c n : Int) (hu : 0 ≤ u) (hu1 : u ≤ c) (hc : c ≤ 268435456) (hn : 0 ≤ n) (hn1 : n < u) :
    ∃ n' : Int, n + b % 128 * u = n' ∧ wrap64 (b % 128 * u) = b % 128 * u ∧ wrap64 (n + b % 128 * u) = n' ∧ wrap64 (u * 128) = u * 128 ∧ 0 ≤ n' ∧ n' < u * 128 ∧ n' ≤ 68719476736 := by
  have h0 : 0 ≤ b % 128 * u := Int.mul_nonneg (by omega) hu
  have h1 : b % 128 * u ≤ 127 * u := Int.mul_le_mul_of_nonneg_right (by omega) hu
  generalize b % 128 * u = p at *
  exact ⟨_, rfl, w64 (by omega) (by omega), w64 (by omega) (by omega), w64 (by omega) (by omega), by omega, by omega, by omega⟩
theorem pw_pos : ∀ l, 1 ≤ pw l
  | [] => Int.le_refl _
  | _ :: l => by have := pw_pos l; simp only [pw]; omega
theorem pw_one : ∀ l, pw l > 1 ↔ l ≠ []
  | [] => by simp [pw]
  | _ :: l => by have := pw_pos l; simp [pw]; omega
/-- The text that a number was read from is its own form, unless its last byte is for nothing. -/
theorem text_canon (s : ByteArray) (a j : Nat) (v u : Int) (h : a + j < s.size) (hd : ∀ d ∈ ((bytesOf s).drop a).take j, 128 ≤ d ∧ d ≤ 255) (hj : j ≤ 9) (h1 : bt s ((a + j : Nat) : Int) < 128)
    (hv : v = valL (((bytesOf s).drop a).take (j + 1))) (hu : u = pw (((bytesOf s).drop a).take j)) :
    (varB v).toList = (s.extract (a : Int).toNat ((a + (j + 1) : Nat) : Int).toNat).toList ↔ ¬ (bt s ((a + j : Nat) : Int) = 0 ∧ u > 1) := by
  have hb := bt_range s ((a + j : Nat) : Int)
  have hts := take_snoc (bytesOf s) a j (by rw [bytesOf_length]; exact h)
  rw [rd_bytesOf] at hts
  have hcan := canon (bt s ((a + j : Nat) : Int)) hb.1 h1 _ 9 hd (by rw [List.length_take]; omega)
  rw [← hts, ← hv] at hcan
  have hby : bytesOf (s.extract (a : Int).toNat ((a + (j + 1) : Nat) : Int).toNat) = ((bytesOf s).drop a).take (j + 1) := by
    rw [bytesOf_extract]
    have e1 : ((a : Int)).toNat = a := by omega
    have e2 : ((a + (j + 1) : Nat) : Int).toNat - a = j + 1 := by omega
    rw [e1, e2]
  have hc2 : varL v = ((bytesOf s).drop a).take (j + 1) ↔ ¬ (bt s ((a + j : Nat) : Int) = 0 ∧ u > 1) := by
    rw [hu, pw_one]
    exact hcan
  rw [toList_iff, ← hc2, ← varB_bytes, ← hby]
  exact ⟨fun h => by rw [h], fun h => bytesOf_inj h⟩
theorem varF_fits : ∀ (f d : Nat) (n : Int), Fits f n → varF (f + d) n = varF f n
  | 0, 0, _, _ => rfl
  | 0, d + 1, n, h => by
    simp only [Fits] at h
    rw [show 0 + (d + 1) = d + 1 from by omega]
    simp only [varF]
    rw [if_neg (by omega)]
  | f + 1, d, n, h => by
    simp only [Fits] at h
    rw [show f + 1 + d = (f + d) + 1 from by omega]
    simp only [varF]
    rw [varF_fits f d _ h]
theorem drop_head (t : ByteArray) (a : Nat) (x : Int) (l : List Int) (h : (bytesOf t).drop a = x :: l) : a < t.size ∧ bt t (a : Int) = x ∧ (bytesOf t).drop (a + 1) = l := by
  have hlt : a < t.size := by
    by_cases c : a < t.size
    · exact c
    · rw [List.drop_eq_nil_iff.2 (by rw [bytesOf_length]; omega)] at h
      cases h
  rw [drop_bt t a hlt] at h
  injection h with h1 h2
  exact ⟨hlt, h1, h2⟩
theorem mul_parts (n m u : Int) : m + n % 128 * u + n / 128 * (u * 128) = m + n * u := by
  have h : n % 128 + 128 * (n / 128) = n := by omega
  have h2 : n / 128 * (u * 128) = 128 * (n / 128) * u := by rw [Int.mul_comm u 128, ← Int.mul_assoc, Int.mul_comm (n / 128) 128]
  rw [Int.add_assoc, h2, ← Int.add_mul, h]
/-- A number's bytes are read as the number. -/
theorem readGo_var (t : ByteArray) (rest : List Int) : ∀ (f g : Nat) (n : Int) (a : Nat) (m u : Int), 0 ≤ n → Fits f n → f < g → (bytesOf t).drop a = varF f n ++ rest → 1 ≤ u → m + n * u ≤ 1000000000 → (0 < n ∨ u = 1) →
    readGo t g (a : Int) m u = (m + n * u, (a : Int) + ((varF f n).length : Int), true)
  | f, 0, _, _, _, _, _, _, h, _, _, _, _ => by omega
  | 0, g + 1, n, a, m, u, h0, hf, _, hd, hu, hm, hp => by
    simp only [Fits] at hf
    simp only [varF, List.cons_append, List.nil_append] at hd
    obtain ⟨hlt, hb, _⟩ := drop_head t a _ _ hd
    have e : bt t (a : Int) = n := by rw [hb]; omega
    simp only [readGo, varF, List.length_singleton]
    rw [if_pos (by omega), e, if_neg (by omega), show n % 128 = n from by omega, if_neg (by
      rintro (⟨h1, h2⟩ | h1)
      · rcases hp with hp | hp <;> omega
      · omega)]
    rfl
  | f + 1, g + 1, n, a, m, u, h0, hf, hg, hd, hu, hm, hp => by
    simp only [Fits] at hf
    simp only [varF] at hd ⊢
    by_cases c : n > 127
    · rw [if_pos c] at hd ⊢
      rw [List.cons_append] at hd
      obtain ⟨hlt, hb, hd2⟩ := drop_head t a _ _ hd
      have hq := mul_parts n m u
      simp only [readGo]
      rw [if_pos (by omega), hb, if_pos (by omega), show (n % 128 + 128) % 128 = n % 128 from by omega]
      have := readGo_var t rest f g (n / 128) (a + 1) (m + n % 128 * u) (u * 128) (by omega) hf (by omega) hd2 (by omega) (by rw [hq]; exact hm) (.inl (by omega))
      rw [show ((a : Int) + 1) = ((a + 1 : Nat) : Int) from by omega, this, hq, List.length_cons]
      simp only [Prod.mk.injEq, and_true, true_and]
      omega
    · rw [if_neg c] at hd ⊢
      rw [List.cons_append, List.nil_append] at hd
      obtain ⟨hlt, hb, _⟩ := drop_head t a _ _ hd
      have e : bt t (a : Int) = n := by rw [hb]; omega
      simp only [readGo, List.length_singleton]
      rw [if_pos (by omega), e, if_neg (by omega), show n % 128 = n from by omega, if_neg (by
        rintro (⟨h1, h2⟩ | h1)
        · rcases hp with hp | hp <;> omega
        · omega)]
      rfl
/-- .. a number up to a thousand millions. -/
theorem readVar_var (t : ByteArray) (a : Nat) (n : Int) (rest : List Int) (h0 : 0 ≤ n) (h1 : n ≤ 1000000000) (hd : (bytesOf t).drop a = varL n ++ rest) : readVar t (a : Int) = (n, (a : Int) + ((varL n).length : Int), true) := by
  have hF : Fits 4 n := by simp only [Fits]; omega
  have e : varL n = varF 4 n := varF_fits 4 5 n hF
  rw [e] at hd ⊢
  have hlt : a ≤ t.size := by
    by_cases c : a ≤ t.size
    · exact c
    · rw [List.drop_eq_nil_iff.2 (by rw [bytesOf_length]; omega)] at hd
      have := congrArg List.length hd
      have hv : 1 ≤ (varF 4 n).length := by
        simp only [varF]
        split <;> (simp only [List.length_cons, List.length_nil]; omega)
      rw [List.length_append, List.length_nil] at this
      omega
  unfold readVar
  rw [if_pos ⟨by omega, by omega⟩]
  have := readGo_var t rest 4 5 n a 0 1 h0 hF (by omega) hd (by omega) (by omega) (.inr rfl)
  rw [this]
  simp
theorem impl_ReadVar_l0 (s : ByteArray) (hs : s.size ≤ 140737488351232) (a : Int) (ha0 : 0 ≤ a) (ha1 : a ≤ s.size) : ∀ (f : Nat) (j n u : Int), j + f = 5 → 0 ≤ j → (u > 1 ↔ j > 0) → 0 ≤ n → n < u → u ≤ cap f →
    Ev (fun k => impl_ReadVar.l0 k s a n u j) (readGo s f (a + j) n u) := by
  intro f
  induction f with
  | zero =>
    intro j n u hj hj0 hju hn hnu hc
    refine Ev.succ ?_
    simp only [impl_ReadVar.l0]
    refine Ev.neg (by omega) (Ev.succ ?_)
    simp only [impl_ReadVar.j2]
    exact Ev.neg (by simp) (Ev.some_ rfl)
  | succ f ih =>
    intro j n u hj hj0 hju hn hnu hc
    refine Ev.succ ?_
    simp only [impl_ReadVar.l0]
    refine Ev.pos (by omega) (Ev.succ ?_)
    simp only [impl_ReadVar.j2]
    rw [show wrap64 (a + j) = a + j from w64 (by omega) (by omega)]
    by_cases h : a + j < (s.size : Int)
    · refine Ev.pos (by simpa using h) (Ev.pos (by omega) (Ev.pos h ?_))
      have hb := bt_range s (a + j)
      rw [show wrap64 (bt s (a + j)) = bt s (a + j) from w64 (by omega) (by omega), show Int.tmod (bt s (a + j)) 128 = bt s (a + j) % 128 from Int.tmod_eq_emod_of_nonneg hb.1, show wrap64 (j + 1) = j + 1 from w64 (by omega) (by omega), show wrap64 (a + j + 1) = a + j + 1 from w64 (by omega) (by omega)]
      have hcl := cap_le f
      simp only [cap] at hc
      obtain ⟨n', hn', e3, e4, e6, q0, q1, q2⟩ := step_all (bt s (a + j)) u (cap f / 128) n (by omega) hc (by omega) hn hnu
      rw [e3, e4, e6]
      clear e3 e4 e6
      have hgo : readGo s (f + 1) (a + j) n u = if bt s (a + j) ≥ 128 then readGo s f ((a + j) + 1) n' (u * 128)
          else if bt s (a + j) = 0 ∧ u > 1 ∨ n' > 1000000000 then (0, 0, false)
          else (n', (a + j) + 1, true) := by simp only [readGo]; rw [if_pos h, hn']
      clear hn'
      by_cases h1 : bt s (a + j) ≥ 128
      · refine Ev.pos h1 ?_
        rw [hgo, if_pos h1]
        have := ih (j + 1) n' (u * 128) (by omega) (by omega) (by omega) (by omega) (by omega) (by omega)
        have e8 : a + j + 1 = a + (j + 1) := by omega
        rw [e8]
        exact this
      · refine Ev.neg h1 ?_
        by_cases h0 : bt s (a + j) = 0
        · refine Ev.pos h0 ?_
          by_cases hj1 : j > 0
          · exact Ev.pos hj1 (Ev.some_ (by rw [hgo, if_neg h1, if_pos (Or.inl ⟨h0, hju.2 hj1⟩)]))
          refine Ev.neg hj1 ?_
          by_cases h2 : n' > 1000000000
          · exact Ev.pos h2 (Ev.some_ (by rw [hgo, if_neg h1, if_pos (Or.inr h2)]))
          · exact Ev.neg h2 (Ev.some_ (by rw [hgo, if_neg h1, if_neg (by intro h; rcases h with h | h; exact hj1 (hju.1 h.2); exact h2 h)]))
        · refine Ev.neg h0 ?_
          by_cases h2 : n' > 1000000000
          · exact Ev.pos h2 (Ev.some_ (by rw [hgo, if_neg h1, if_pos (Or.inr h2)]))
          · exact Ev.neg h2 (Ev.some_ (by rw [hgo, if_neg h1, if_neg (by intro h; rcases h with h | h; exact h0 h.1; exact h2 h)]))
    · exact Ev.neg (by simpa using h) (Ev.some_ (by simp only [readGo]; rw [if_neg h]))
theorem impl_ReadVar_ev (s : ByteArray) (hs : s.size ≤ 140737488351232) (a : Int) : Ev (fun k => impl_ReadVar.f k s a) (readVar s a) := by
  simp only [impl_ReadVar.f]
  by_cases h : a < 0
  · refine Ev.pos h (Ev.succ ?_)
    simp only [impl_ReadVar.j0]
    exact Ev.pos trivial (Ev.some_ (by rw [readVar, if_neg (by omega)]))
  refine Ev.neg h (Ev.succ ?_)
  simp only [impl_ReadVar.j0]
  by_cases h1 : a > (s.size : Int)
  · exact Ev.pos (by simpa using h1) (Ev.some_ (by rw [readVar, if_neg (by omega)]))
  · refine Ev.neg (by simpa using h1) ?_
    rw [readVar, if_pos (by omega)]
    have := impl_ReadVar_l0 s hs a (by omega) (by omega) 5 0 0 1 rfl (by omega) (by omega) (by omega) (by omega) (by simp [cap])
    rw [Int.add_zero] at this
    exact this
/-! impl.varText -/
theorem impl_varText_l0 : ∀ (f : Nat) (n : Int) (x : List Int), Fits f n → n ≤ 9223372036854775807 → x.length + f < 1000 → Ev (fun k => impl_varText.l0 k n x) (strOfNums (x ++ varF f n)) := by
  intro f
  induction f with
  | zero =>
    intro n x hf hn hx
    simp only [Fits] at hf
    refine Ev.succ ?_
    simp only [impl_varText.l0]
    exact Ev.neg (by omega) (Ev.pos (by omega) (Ev.some_ (by simp [varF])))
  | succ f ih =>
    intro n x hf hn hx
    simp only [Fits] at hf
    refine Ev.succ ?_
    simp only [impl_varText.l0]
    by_cases h : n > 127
    · refine Ev.pos h (Ev.pos (by omega) ?_)
      have e1 : wrap64 (Int.tdiv n 128) = n / 128 := by rw [Int.tdiv_eq_ediv_of_nonneg (by omega)]; exact w64 (by omega) (by omega)
      have e2 : (wrap64 (128 + (Int.tmod n 128))) % 256 = n % 128 + 128 := by rw [Int.tmod_eq_emod_of_nonneg (by omega), w64 (by omega) (by omega)]; omega
      rw [e1, e2]
      refine Ev_eq (ih (n / 128) _ hf (by omega) (by simp; omega)) ?_
      simp [varF, h]
    · exact Ev.neg h (Ev.pos (by omega) (Ev.some_ (by simp [varF, h])))
theorem impl_varText_ev (n : Int) (hn : n ≤ 9223372036854775807) : Ev (fun k => impl_varText.f k n) (varB n) := by
  simp only [impl_varText.f]
  exact Ev_eq (impl_varText_l0 9 n [] (fits9 hn) hn (by simp)) (by simp [varB, varL])
def varText (n : Int) : ByteArray × Bool := if 0 ≤ n ∧ n ≤ 1000000000 then (varB n, true) else ((⟨#[]⟩ : ByteArray), false)
theorem impl_VarText_ev (n : Int) : Ev (fun k => impl_VarText.f k n) (varText n) := by
  simp only [impl_VarText.f]
  by_cases h0 : n < 0
  · exact Ev.pos h0 (Ev.some_ (by rw [varText, if_neg (by omega)]))
  refine Ev.neg h0 ?_
  by_cases h1 : n > 1000000000
  · exact Ev.pos h1 (Ev.some_ (by rw [varText, if_neg (by omega)]))
  · exact Ev.neg h1 (Ev.bnd (impl_varText_ev n (by omega)) (Ev.some_ (by rw [varText, if_pos (by omega)])))
/-! what is drawn: the cursor never fails -/
theorem and255 (x : Int) : 0 ≤ Go.bits .and .i64 x 255 ∧ Go.bits .and .i64 x 255 ≤ 255 := by
  have h : (BitVec.ofInt IntKind.i64.bits x).toNat &&& (BitVec.ofInt IntKind.i64.bits 255).toNat ≤ 255 := by
    have e : (BitVec.ofInt IntKind.i64.bits 255).toNat = 255 := by rfl
    rw [e]
    exact Nat.and_le_right
  simp only [Go.bits, BitVec.toNat_and]
  rw [IntKind.wrap_i64]
  omega
theorem spec_l01Byte_eq (s : List Int) (i h : Int) (hi : 0 ≤ i) (hs : s.length ≤ 140737488351232) : ∃ v i' h', spec_l01Byte.f s i h = some (v, i', h') ∧ 0 ≤ v ∧ v ≤ 255 ∧ 0 ≤ i' := by
  unfold spec_l01Byte.f
  by_cases c : i < (s.length : Int)
  · rw [if_pos c, if_pos hi, show wrap64 (i + 1) = i + 1 from w64 (by omega) (by omega)]
    exact ⟨_, _, _, rfl, (and255 _).1, (and255 _).2, by omega⟩
  · rw [if_neg c]
    exact ⟨_, _, _, rfl, (and255 _).1, (and255 _).2, hi⟩
theorem spec_l01Below_eq (s : List Int) (i h n : Int) (hi : 0 ≤ i) (hs : s.length ≤ 140737488351232) (h0 : 1 ≤ n) (h1 : n ≤ 256) : ∃ v i' h', spec_l01Below.f s i h n = some (v, i', h') ∧ 0 ≤ v ∧ v < n ∧ 0 ≤ i' := by
  obtain ⟨v, i', h', e, v0, v1, hi'⟩ := spec_l01Byte_eq s i h hi hs
  unfold spec_l01Below.f
  rw [if_neg (by omega), if_pos h1, e, Option.bind_some, if_neg (by omega)]
  refine ⟨_, _, _, rfl, ?_, ?_, hi'⟩
  · rw [Int.tmod_eq_emod_of_nonneg v0]
    exact Int.emod_nonneg _ (by omega)
  · rw [Int.tmod_eq_emod_of_nonneg v0]
    exact Int.emod_lt_of_pos _ (by omega)
theorem spec_l01New_ev (s : List Int) : ∃ h, Ev (fun k => spec_l01New.f k s) (s, 0, h) := by
  simp only [spec_l01New.f]
  have key : ∀ (n i : Nat) (h : Int), i + n = s.length → ∃ h', Ev (fun k => spec_l01New.l0 k s h (i : Int)) (s, 0, h') := by
    intro n
    induction n with
    | zero =>
      intro i h hi
      refine ⟨h, Ev.succ ?_⟩
      simp only [spec_l01New.l0]
      exact Ev.neg (by omega) (Ev.now _)
    | succ n ih =>
      intro i h hi
      by_cases c : (i : Int) < 4000
      · obtain ⟨h', hh⟩ := ih (i + 1) (Go.bits .and .i64 (wrap64 ((wrap64 ((wrap64 (h * 131)) + (wrap64 (rd s (i : Int))))) + 7)) 1073741823) (by omega)
        refine ⟨h', Ev.succ ?_⟩
        simp only [spec_l01New.l0]
        rw [up1 i (by omega)]
        exact Ev.pos (by omega) (Ev.pos c (Ev.pos (by omega) hh))
      · refine ⟨h, Ev.succ ?_⟩
        simp only [spec_l01New.l0]
        exact Ev.pos (by omega) (Ev.neg c (Ev.now _))
  exact key s.length 0 _ (by omega)
theorem rdDec_snoc (b : Int) : ∀ (l : List Int) (n : Int), rdDec (l ++ [b]) n = (rdDec l n).bind fun m => rdDec [b] m
  | [], n => rfl
  | a :: l, n => by
    simp only [List.cons_append, rdDec]
    split
    · rfl
    · split
      · rfl
      · exact rdDec_snoc b l _
def numsU (l : List UInt8) : List Int := l.map fun b => (b.toNat : Int)
theorem rdDec_dd : ∀ (f u : Nat), u < f → rdDec (numsU (dd u)) 0 = some (u : Int)
  | 0, _, h => by omega
  | f + 1, u, h => by
    by_cases h0 : u = 0
    · subst h0
      rfl
    · have ih := rdDec_dd f (u / 10) (by omega)
      have e : numsU (dd (u / 10) ++ [UInt8.ofNat (48 + u % 10)]) = numsU (dd (u / 10)) ++ [((48 + u % 10 : Nat) : Int)] := by
        unfold numsU
        rw [List.map_append, List.map_cons, List.map_nil, UInt8.toNat_ofNat']
        congr 3
        omega
      rw [dd_step u h0, e, rdDec_snoc, ih, Option.bind_some]
      simp only [rdDec]
      rw [if_neg (by omega), if_neg (by omega)]
      congr 1
      omega
theorem rdDec_itoa (u : Nat) : rdDec (numsU (Lib.decDigits u)) 0 = some (u : Int) := by
  by_cases h0 : u = 0
  · subst h0
    decide +kernel
  · have := rdDec_dd (u + 1) u (by omega)
    unfold dd at this
    rw [if_neg h0] at this
    exact this
theorem decDigits_pos (u : Nat) : 1 ≤ (Lib.decDigits u).length := by
  rw [Lib.decDigits]
  split
  · simp
  · simp
theorem readDec_itoa (n : Int) (h0 : 0 ≤ n) (h1 : n ≤ 1000000000) : readDecR ⟨(Lib.itoa n).toArray⟩ = (n, true) := by
  obtain ⟨u, rfl⟩ := Int.eq_ofNat_of_zero_le h0
  have hl := decDigits_len 9 u (by omega)
  have hp := decDigits_pos u
  have hi : Lib.itoa (u : Int) = Lib.decDigits u := Lib.itoa_nonneg u
  have hz : (⟨(Lib.decDigits u).toArray⟩ : ByteArray).size = (Lib.decDigits u).length := by
    rw [← data_length]
  have hb : bytesOf ⟨(Lib.decDigits u).toArray⟩ = numsU (Lib.decDigits u) := by simp [bytesOf, numsU]
  unfold readDecR
  rw [hi, if_neg (by omega), if_neg (by omega), hb, rdDec_itoa]
  simp only [finDec]
  rw [if_neg (by omega), if_pos (by rw [hi]; rfl)]
theorem varF_parts : ∀ (f : Nat) (n : Int), 0 ≤ n → Fits f n → ∃ pre x, varF f n = pre ++ [x] ∧ (∀ d ∈ pre, 128 ≤ d ∧ d ≤ 255) ∧ 0 ≤ x ∧ x < 128
  | 0, n, h0, hf => by
    simp only [Fits] at hf
    exact ⟨[], n % 256, rfl, by simp, by omega, by omega⟩
  | f + 1, n, h0, hf => by
    simp only [Fits] at hf
    simp only [varF]
    by_cases c : n > 127
    · obtain ⟨pre, x, e, hp, h1, h2⟩ := varF_parts f (n / 128) (by omega) hf
      rw [if_pos c, e]
      refine ⟨(n % 128 + 128) :: pre, x, rfl, fun d hd => ?_, h1, h2⟩
      rcases List.mem_cons.1 hd with rfl | hd
      · omega
      · exact hp d hd
    · rw [if_neg c]
      exact ⟨[], n % 256, rfl, by simp, by omega, by omega⟩
theorem readGo_long (t : ByteArray) : ∀ (hi : List Int) (g a : Nat) (m u : Int), (∀ d ∈ hi, 128 ≤ d ∧ d ≤ 255) → (bytesOf t).drop a = hi ++ [0] → 1 ≤ u → (hi ≠ [] ∨ u > 1) → (readGo t g (a : Int) m u).2.2 = false
  | _, 0, _, _, _, _, _, _, _ => rfl
  | [], g + 1, a, m, u, _, hd, hu, hc => by
    rw [List.nil_append] at hd
    obtain ⟨hlt, hb, _⟩ := drop_head t a _ _ hd
    simp only [readGo]
    rw [if_pos (by omega), hb, if_neg (by omega), if_pos (.inl ⟨rfl, by rcases hc with hc | hc; exact absurd rfl hc; exact hc⟩)]
  | b :: hi, g + 1, a, m, u, hh, hd, hu, hc => by
    rw [List.cons_append] at hd
    obtain ⟨hlt, hb, hd2⟩ := drop_head t a _ _ hd
    have hb2 := hh b (by simp)
    simp only [readGo]
    rw [if_pos (by omega), hb, if_pos (by omega), show ((a : Int) + 1) = ((a + 1 : Nat) : Int) by omega]
    exact readGo_long t hi g (a + 1) _ _ (fun d hd => hh d (by simp [hd])) hd2 (by omega) (.inr (by omega))
theorem bytes_drop1 (t : ByteArray) (x y : UInt8) : (bytesOf (((⟨#[x]⟩ : ByteArray) ++ t) ++ (⟨#[y]⟩ : ByteArray))).drop 1 = bytesOf t ++ [(y.toNat : Int)] := by
  rw [bytesOf_append, bytesOf_append]
  rfl
theorem readVar_mid (n : Int) (h0 : 0 ≤ n) (h1 : n ≤ 1000000000) : readVar (((⟨#[120]⟩ : ByteArray) ++ varB n) ++ (⟨#[121]⟩ : ByteArray)) 1 = (n, ((varB n).size : Int) + 1, true) := by
  have hf : Fits 4 n := by simp only [Fits]; omega
  have hv : varL n = varF 4 n := varF_fits 4 5 n hf
  have hd : (bytesOf (((⟨#[120]⟩ : ByteArray) ++ varB n) ++ (⟨#[121]⟩ : ByteArray))).drop 1 = varF 4 n ++ [121] := by
    rw [bytes_drop1, varB_bytes, hv]
    rfl
  have hz : (((⟨#[120]⟩ : ByteArray) ++ varB n) ++ (⟨#[121]⟩ : ByteArray)).size = (varB n).size + 2 := by
    rw [size_append, size_append, show (⟨#[120]⟩ : ByteArray).size = 1 from rfl, show (⟨#[121]⟩ : ByteArray).size = 1 from rfl]
    omega
  have hl : (varB n).size = (varF 4 n).length := by rw [← bytesOf_length, varB_bytes, hv]
  unfold readVar
  rw [if_pos (by omega)]
  have := readGo_var _ [121] 4 5 n 1 0 1 h0 hf (by omega) hd (by omega) (by omega) (.inr rfl)
  have this2 : readGo (((⟨#[120]⟩ : ByteArray) ++ varB n) ++ (⟨#[121]⟩ : ByteArray)) 5 1 0 1 = (0 + n * 1, ((1 : Nat) : Int) + ((varF 4 n).length : Int), true) := this
  rw [this2, hl]
  simp only [Prod.mk.injEq, and_true]
  omega
theorem readVar_longer (n : Int) (h0 : 0 ≤ n) (h1 : n ≤ 1000000000) : (readVar (laws_FnNumbers.longT (varB n)) 0).2.2 = false := by
  have hf : Fits 4 n := by simp only [Fits]; omega
  have hv : varL n = varF 4 n := varF_fits 4 5 n hf
  obtain ⟨pre, x, e, hp, hx0, hx1⟩ := varF_parts 4 n h0 hf
  have hn : laws_FnNumbers.nums (varB n) = pre ++ [x] := by
    show bytesOf (varB n) = _
    rw [varB_bytes, hv, e]
  have hz : (varB n).size = pre.length + 1 := by
    rw [← bytesOf_length, varB_bytes, hv, e]
    simp
  have hl : laws_FnNumbers.longL (varB n) = pre ++ [x + 128] := by
    unfold laws_FnNumbers.longL
    rw [hn, hz, Nat.add_sub_cancel, List.set_append_right _ _ (Nat.le_refl _), Nat.sub_self]
    have hr : rd (pre ++ [x]) (pre.length : Int) = x := by rw [rd_nat _ _ (by simp)]; simp
    rw [hr]
    simp only [List.set_cons_zero]
    congr 2
    omega
  have hb : bytesOf (laws_FnNumbers.longT (varB n)) = (pre ++ [x + 128]) ++ [0] := by
    unfold laws_FnNumbers.longT
    rw [hl]
    apply bytesOf_strOf
    intro d hd
    rcases List.mem_append.1 hd with hd | hd
    · rcases List.mem_append.1 hd with hd | hd
      · have := hp d hd; exact ⟨by omega, by omega⟩
      · rw [List.mem_singleton.1 hd]; exact ⟨by omega, by omega⟩
    · rw [List.mem_singleton.1 hd]; exact ⟨by omega, by omega⟩
  unfold readVar
  rw [if_pos (by omega)]
  have hh : ∀ d ∈ pre ++ [x + 128], 128 ≤ d ∧ d ≤ 255 := fun d hd => by
    rcases List.mem_append.1 hd with hd | hd
    · exact hp d hd
    · rw [List.mem_singleton.1 hd]; omega
  exact readGo_long _ (pre ++ [x + 128]) 5 0 0 1 hh (by rw [List.drop_zero]; exact hb) (by omega) (.inl (by simp))
theorem spec_l01Below_bigN (s : List Int) (i h n : Int) (hi : 0 ≤ i) (hs : s.length ≤ 140737488351232) (hn : 256 < n) : ∃ v i' h', spec_l01Below.f s i h n = some (v, i', h') ∧ 0 ≤ v ∧ v < n ∧ 0 ≤ i' := by
  obtain ⟨a, i1, h1', e1, a0, a1, p1⟩ := spec_l01Byte_eq s i h hi hs
  obtain ⟨b, i2, h2', e2, b0, b1, p2⟩ := spec_l01Byte_eq s i1 h1' p1 hs
  obtain ⟨c, i3, h3', e3, c0, c1, p3⟩ := spec_l01Byte_eq s i2 h2' p2 hs
  obtain ⟨d, i4, h4', e4, d0, d1, p4⟩ := spec_l01Byte_eq s i3 h3' p3 hs
  unfold spec_l01Below.f
  rw [if_neg (by omega), if_neg (by omega), e1, Option.bind_some, e2, Option.bind_some, e3, Option.bind_some, e4, Option.bind_some, if_neg (by omega)]
  have w1 : wrap64 (a * 16777216) = a * 16777216 := w64 (by omega) (by omega)
  have w2 : wrap64 (b * 65536) = b * 65536 := w64 (by omega) (by omega)
  have w3 : wrap64 (c * 256) = c * 256 := w64 (by omega) (by omega)
  simp only [w1, w2, w3]
  rw [show wrap64 (a * 16777216 + b * 65536) = a * 16777216 + b * 65536 from w64 (by omega) (by omega), show wrap64 (a * 16777216 + b * 65536 + c * 256) = a * 16777216 + b * 65536 + c * 256 from w64 (by omega) (by omega), show wrap64 (a * 16777216 + b * 65536 + c * 256 + d) = a * 16777216 + b * 65536 + c * 256 + d from w64 (by omega) (by omega)]
  refine ⟨_, _, _, rfl, ?_, ?_, p4⟩
  · rw [Int.tmod_eq_emod_of_nonneg (by omega)]
    exact Int.emod_nonneg _ (by omega)
  · rw [Int.tmod_eq_emod_of_nonneg (by omega)]
    exact Int.emod_lt_of_pos _ (by omega)
theorem spec_l01Number_eq (s : List Int) (i h : Int) (hi : 0 ≤ i) (hs : s.length ≤ 140737488351232) : ∃ v i' h', spec_l01Number.f s i h = some (v, i', h') := by
  obtain ⟨v, i1, h1, e1, v0, v1, p1⟩ := spec_l01Below_eq s i h 4 hi hs (by omega) (by omega)
  unfold spec_l01Number.f
  rw [e1, Option.bind_some]
  simp only
  by_cases c0 : v = 0
  · rw [if_pos c0]
    obtain ⟨u, i2, h2, e2, u0, u1, p2⟩ := spec_l01Below_eq s i1 h1 10 p1 hs (by omega) (by omega)
    unfold spec_l01PickInt.f
    rw [show (([(-1), 0, 127, 128, 16383, 16384, 1000000000, 1000000001, 9223372036854775807, (-9223372036854775808)] : List Int).length : Int) = 10 from rfl, e2, Option.bind_some]
    simp only
    rw [if_pos u0, if_pos u1]
    exact ⟨_, _, _, rfl⟩
  rw [if_neg c0]
  by_cases c1 : v = 1
  · rw [if_pos c1]
    obtain ⟨u, i2, h2, e2, _⟩ := spec_l01Below_bigN s i1 h1 1000000000 p1 hs (by omega)
    rw [e2]
    exact ⟨_, _, _, rfl⟩
  · rw [if_neg c1]
    obtain ⟨u, i2, h2, e2, _⟩ := spec_l01Below_bigN s i1 h1 400 p1 hs (by omega)
    rw [e2]
    exact ⟨_, _, _, rfl⟩
theorem spec_DrawVarText_ev (s : List Int) (hs : s.length ≤ 140737488351232) : ∃ n, Ev (fun k => spec_DrawVarText.f k s) n := by
  obtain ⟨h, hh⟩ := spec_l01New_ev s
  obtain ⟨n, i', h', e⟩ := spec_l01Number_eq s 0 h (by omega) hs
  refine ⟨n, ?_⟩
  simp only [spec_DrawVarText.f]
  exact Ev.bnd hh (Ev.bnd0 e (Ev.now _))
theorem FnNumbers : laws_FnNumbers.Pure := by
  intro l hl
  refine Ev.rounds (r := true) ?_
  simp only [laws_FnNumbers.f]
  refine Ev.bnd0 (laws_big_eq l) ?_
  by_cases hb : (decide ((l.length : Int) > 1048576)) = true
  · exact Ev.pos hb (Ev.now _)
  refine Ev.neg hb ?_
  obtain ⟨n0, hn⟩ := spec_DrawVarText_ev l (by omega)
  refine Ev.bnd hn ?_
  have hc : 0 ≤ laws_FnNumbers.cl n0 ∧ laws_FnNumbers.cl n0 ≤ 1000000000 := by
    unfold laws_FnNumbers.cl
    split <;> omega
  generalize laws_FnNumbers.cl n0 = n at hc ⊢
  obtain ⟨h0, h1⟩ := hc
  have hv : Ev (fun k => impl_VarText.f k n) (varB n, true) := by
    have := impl_VarText_ev n
    unfold varText at this
    rw [if_pos ⟨h0, h1⟩] at this
    exact this
  have hz := varB_size n
  have hm := readVar_mid n h0 h1
  have hg := readVar_longer n h0 h1
  have hp : 1 ≤ (varB n).size := by
    obtain ⟨pre, x, e, _⟩ := varF_parts 9 n h0 (fits9 (by omega))
    rw [← bytesOf_length, varB_bytes]
    unfold varL
    rw [e]
    simp
  have hls : (laws_FnNumbers.longT (varB n)).size ≤ 100 := by
    unfold laws_FnNumbers.longT laws_FnNumbers.longL
    rw [strOfNums_size, List.length_append, List.length_set, laws_FnNumbers.nums_length]
    simp
    omega
  have hd : impl_Decimal.f n = some ⟨(Lib.itoa n).toArray⟩ := by
    unfold impl_Decimal.f
    rw [if_pos (by omega)]
  refine Ev.bnd hv (Ev.bnd (Ev_eq (impl_ReadVar_ev _ (by rw [size_append, size_append]; show 1 + (varB n).size + 1 ≤ _; omega) 1) hm) (Ev.bnd0 hd (Ev.bnd (Ev_eq (impl_ReadDecimal_ev _) (readDec_itoa n h0 h1)) (Ev.bnd (impl_ReadVar_ev _ (by simp only; omega) 0) (Ev.pos ?_ (Ev.now _))))))
  exact ⟨rfl, hp, by simp only; omega, rfl, rfl, rfl, rfl, rfl, hg⟩

end Go.Proofs.YtfaebcoembcfoaaDoor.Pure
