/- A drawn text of which one byte is turned is not Unsealed; SumMore goes on where SumOf stopped. -/
import Derived.Test.YtfaebcoembcfoaaPFnTurnedx2
import Derived.Test.YtfaebcoembcfoaaGen
namespace Go.Proofs.Ytfaebcoembcfoaa.Pure
open Go.RowKit Go.Proofs.Ytfaebcoembcfoaa.PFnTurned Go.Proofs.YtfaebcoembcfoaaW.PrintWords Go.Proofs.YtfaebcoembcfoaaW.PrintLast Go.Proofs.YtfaebcoembcfoaaG

theorem laws_big_eq (l : List Int) : laws_big.f l = some (decide ((l.length : Int) > 1048576)) := rfl
/-! what is drawn: the cursor never fails -/
theorem and255 (x : Int) : 0 ≤ Go.bits .and .i64 x 255 ∧ Go.bits .and .i64 x 255 ≤ 255 := by
  have h : (BitVec.ofInt IntKind.i64.bits x).toNat &&& (BitVec.ofInt IntKind.i64.bits 255).toNat ≤ 255 := by
    have e : (BitVec.ofInt IntKind.i64.bits 255).toNat = 255 := by rfl
    rw [e]
    exact Nat.and_le_right
  simp only [Go.bits, BitVec.toNat_and]
  rw [IntKind.wrap_i64]
  omega
theorem spec_l01Byte_eq (s : List Int) (i h : Int) (hi : 0 ≤ i) (hs : s.length ≤ 140737488351232) : ∃ v i' h', spec_l01Byte.f s i h = some (v, i', h') ∧ 0 ≤ v ∧ v ≤ 255 ∧ 0 ≤ i' := by
  unfold spec_l01Byte.f
  by_cases c : i < (s.length : Int)
  · rw [if_pos c, if_pos hi, show wrap64 (i + 1) = i + 1 from w64 (by omega) (by omega)]
    exact ⟨_, _, _, rfl, (and255 _).1, (and255 _).2, by omega⟩
  · rw [if_neg c]
    exact ⟨_, _, _, rfl, (and255 _).1, (and255 _).2, hi⟩
theorem spec_l01Below_eq (s : List Int) (i h n : Int) (hi : 0 ≤ i) (hs : s.length ≤ 140737488351232) (h0 : 1 ≤ n) (h1 : n ≤ 256) : ∃ v i' h', spec_l01Below.f s i h n = some (v, i', h') ∧ 0 ≤ v ∧ v < n ∧ 0 ≤ i' := by
  obtain ⟨v, i', h', e, v0, v1, hi'⟩ := spec_l01Byte_eq s i h hi hs
  unfold spec_l01Below.f
  rw [if_neg (by omega), if_pos h1, e, Option.bind_some, if_neg (by omega)]
  refine ⟨_, _, _, rfl, ?_, ?_, hi'⟩
  · rw [Int.tmod_eq_emod_of_nonneg v0]
    exact Int.emod_nonneg _ (by omega)
  · rw [Int.tmod_eq_emod_of_nonneg v0]
    exact Int.emod_lt_of_pos _ (by omega)
theorem spec_l01New_ev (s : List Int) : ∃ h, Ev (fun k => spec_l01New.f k s) (s, 0, h) := by
  simp only [spec_l01New.f]
  have key : ∀ (n i : Nat) (h : Int), i + n = s.length → ∃ h', Ev (fun k => spec_l01New.l0 k s h (i : Int)) (s, 0, h') := by
    intro n
    induction n with
    | zero =>
      intro i h hi
      refine ⟨h, Ev.succ ?_⟩
      simp only [spec_l01New.l0]
      exact Ev.neg (by omega) (Ev.now _)
    | succ n ih =>
      intro i h hi
      by_cases c : (i : Int) < 4000
      · obtain ⟨h', hh⟩ := ih (i + 1) (Go.bits .and .i64 (wrap64 ((wrap64 ((wrap64 (h * 131)) + (wrap64 (rd s (i : Int))))) + 7)) 1073741823) (by omega)
        refine ⟨h', Ev.succ ?_⟩
        simp only [spec_l01New.l0]
        rw [up1 i (by omega)]
        exact Ev.pos (by omega) (Ev.pos c (Ev.pos (by omega) hh))
      · refine ⟨h, Ev.succ ?_⟩
        simp only [spec_l01New.l0]
        exact Ev.pos (by omega) (Ev.neg c (Ev.now _))
  exact key s.length 0 _ (by omega)
theorem spec_l01Text_ev (s : List Int) (i h n : Int) (hi : 0 ≤ i) (hs : s.length ≤ 140737488351232) : ∃ t i' h', Ev (fun k => spec_l01Text.f k s i h n) (t, i', h') ∧ t.size ≤ 5000 := by
  have key : ∀ (m : Int), m ≤ 5000 → ∀ (q j : Nat) (acc : List Int) (i h : Int), m ≤ j + q → j ≤ 5000 → 0 ≤ i → acc.length = j → ∃ t i' h', Ev (fun k => spec_l01Text.l0 k m acc (j : Int) s i h) (t, i', h') ∧ t.size ≤ 5000 := by
    intro m hm q
    induction q with
    | zero =>
      intro j acc i h hj h5 hi hl
      refine ⟨strOfNums acc, i, h, Ev.succ ?_, by rw [strOfNums_size]; omega⟩
      simp only [spec_l01Text.l0]
      exact Ev.neg (by omega) (Ev.now _)
    | succ q ih =>
      intro j acc i h hj h5 hi hl
      by_cases c : (j : Int) < m
      · obtain ⟨v, i', h', e, v0, v1, hi'⟩ := spec_l01Byte_eq s i h hi hs
        obtain ⟨t, i2, h2, ht, hz⟩ := ih (j + 1) (acc ++ [v % 256]) i' h' (by omega) (by omega) hi' (by simp; omega)
        refine ⟨t, i2, h2, Ev.succ ?_, hz⟩
        simp only [spec_l01Text.l0]
        rw [up1 j (by omega)]
        exact Ev.pos c (Ev.bnd0 e (Ev.pos (by omega) ht))
      · refine ⟨strOfNums acc, i, h, Ev.succ ?_, by rw [strOfNums_size]; omega⟩
        simp only [spec_l01Text.l0]
        exact Ev.neg c (Ev.now _)
  by_cases c : n > 5000
  · obtain ⟨t, i', h', ht, hz⟩ := key 5000 (by omega) 5000 0 [] i h (by omega) (by omega) hi rfl
    refine ⟨t, i', h', ?_, hz⟩
    simp only [spec_l01Text.f]
    refine Ev.pos c (Ev.succ ?_)
    simp only [spec_l01Text.j0]
    exact ht
  · obtain ⟨t, i', h', ht, hz⟩ := key n (by omega) 5000 0 [] i h (by omega) (by omega) hi rfl
    refine ⟨t, i', h', ?_, hz⟩
    simp only [spec_l01Text.f]
    refine Ev.neg c (Ev.succ ?_)
    simp only [spec_l01Text.j0]
    exact ht
theorem spec_DrawSumOf_ev (s : List Int) (hs : s.length ≤ 140737488351232) : ∃ t, Ev (fun k => spec_DrawSumOf.f k s) t ∧ t.size ≤ 5000 := by
  obtain ⟨h, hh⟩ := spec_l01New_ev s
  obtain ⟨v, i1, h1, e1, v0, v1, p1⟩ := spec_l01Below_eq s 0 h 40 (by omega) hs (by omega) (by omega)
  obtain ⟨t, i2, h2, ht, hz⟩ := spec_l01Text_ev s i1 h1 v p1 hs
  refine ⟨t, ?_, hz⟩
  simp only [spec_DrawSumOf.f]
  exact Ev.bnd hh (Ev.bnd0 e1 (Ev.bnd ht (Ev.now _)))
theorem spec_l01Below_big (s : List Int) (i h n : Int) (hi : 0 ≤ i) (hs : s.length ≤ 140737488351232) (h0 : 256 < n) (h1 : n ≤ 1000000) : ∃ v i' h', spec_l01Below.f s i h n = some (v, i', h') ∧ 0 ≤ v ∧ v < n ∧ 0 ≤ i' := by
  obtain ⟨a, i1, h1', e1, a0, a1, p1⟩ := spec_l01Byte_eq s i h hi hs
  obtain ⟨b, i2, h2, e2, b0, b1, p2⟩ := spec_l01Byte_eq s i1 h1' p1 hs
  obtain ⟨c, i3, h3, e3, c0, c1, p3⟩ := spec_l01Byte_eq s i2 h2 p2 hs
  obtain ⟨d, i4, h4, e4, d0, d1, p4⟩ := spec_l01Byte_eq s i3 h3 p3 hs
  unfold spec_l01Below.f
  rw [if_neg (by omega), if_neg (by omega), e1, Option.bind_some, e2, Option.bind_some, e3, Option.bind_some, e4, Option.bind_some, if_neg (by omega)]
  simp only
  rw [show wrap64 (a * 16777216) = a * 16777216 from w64 (by omega) (by omega), show wrap64 (b * 65536) = b * 65536 from w64 (by omega) (by omega), show wrap64 (c * 256) = c * 256 from w64 (by omega) (by omega)]
  rw [show wrap64 (a * 16777216 + b * 65536) = a * 16777216 + b * 65536 from w64 (by omega) (by omega)]
  rw [show wrap64 (a * 16777216 + b * 65536 + c * 256) = a * 16777216 + b * 65536 + c * 256 from w64 (by omega) (by omega)]
  rw [show wrap64 (a * 16777216 + b * 65536 + c * 256 + d) = a * 16777216 + b * 65536 + c * 256 + d from w64 (by omega) (by omega)]
  refine ⟨_, _, _, rfl, ?_, ?_, p4⟩
  · rw [Int.tmod_eq_emod_of_nonneg (by omega)]
    exact Int.emod_nonneg _ (by omega)
  · rw [Int.tmod_eq_emod_of_nonneg (by omega)]
    exact Int.emod_lt_of_pos _ (by omega)
theorem spec_DrawPlaces_ev (s : List Int) (hs : s.length ≤ 140737488351232) : ∃ p, Ev (fun k => spec_DrawPlaces.f k s) p ∧ p.length = 12 ∧ ∀ j : Nat, j < 12 → 0 ≤ rd p (j : Int) ∧ rd p (j : Int) ≤ 10000 := by
  obtain ⟨h, hh⟩ := spec_l01New_ev s
  obtain ⟨v, i1, h1, e1, v0, v1, p1⟩ := spec_l01Byte_eq s 0 h (by omega) hs
  have key : ∀ (n j : Nat) (acc : List Int) (i h : Int), j + n = 12 → acc.length = j → 0 ≤ i → (∀ x ∈ acc, 0 ≤ x ∧ x ≤ 10000) → ∃ p, Ev (fun k => spec_DrawPlaces.l0 k acc (j : Int) s i h) p ∧ p.length = 12 ∧ ∀ x ∈ p, 0 ≤ x ∧ x ≤ 10000 := by
    intro n
    induction n with
    | zero =>
      intro j acc i h hj hl hi ha
      refine ⟨acc, Ev.succ ?_, by omega, ha⟩
      simp only [spec_DrawPlaces.l0]
      exact Ev.neg (by omega) (Ev.now _)
    | succ n ih =>
      intro j acc i h hj hl hi ha
      obtain ⟨v, i', h', e, v0, v1, hi'⟩ := spec_l01Below_big s i h 10000 hi hs (by omega) (by omega)
      obtain ⟨p, hp, hpl, hpx⟩ := ih (j + 1) (acc ++ [v]) i' h' (by omega) (by simp; omega) hi' (fun x hx => by
        rcases List.mem_append.1 hx with hx | hx
        · exact ha x hx
        · obtain rfl := List.mem_singleton.1 hx
          exact ⟨v0, by omega⟩)
      refine ⟨p, Ev.succ ?_, hpl, hpx⟩
      simp only [spec_DrawPlaces.l0]
      rw [up1 j (by omega)]
      exact Ev.pos (by omega) (Ev.bnd0 e (Ev.pos (by omega) hp))
  obtain ⟨p, hp, hpl, hpx⟩ := key 12 0 [] i1 h1 (by omega) rfl p1 (by simp)
  refine ⟨p, ?_, hpl, fun j hj => ?_⟩
  · simp only [spec_DrawPlaces.f]
    exact Ev.bnd hh (Ev.bnd0 e1 hp)
  · rw [rd_nat p j (by omega)]
    exact hpx _ (List.getElem_mem _)
/-! spec.SumMore -/
theorem impl_SumMore_l1 (s : ByteArray) (i r : Int) : ∀ (n : Nat) (x c : Int), c = 8 - (n : Int) → n ≤ 8 → In32 x → Ev (fun k => impl_SumMore.l0 k (cbits n x) s (wrap64 (i + 1))) r → Ev (fun k => impl_SumMore.l1 k x s i c) r := by
  intro n
  induction n with
  | zero =>
    intro x c hc _ _ h
    refine Ev.succ ?_
    simp only [impl_SumMore.l1]
    exact Ev.neg (by omega) h
  | succ n ih =>
    intro x c hc hn hx h
    obtain ⟨h0, h1⟩ := hx
    refine Ev.succ ?_
    simp only [impl_SumMore.l1]
    refine Ev.pos (by omega) ?_
    have e0 : (Go.bits .and .u32 x 1) = x % 2 := by exact and32_1 x h0 h1
    have e1 : wrap64 (c + 1) = c + 1 := w64 (by omega) (by omega)
    skip
    rw [e0, e1]
    have hb := cbit_in ⟨h0, h1⟩
    by_cases ho : x % 2 = 1
    · refine Ev.pos ho (ih _ _ (by omega) (by omega) (xor32_in _ _) ?_)
      have : cbit x = Go.bits .xor .u32 (x / 2) 3558460437 := by simp [cbit, ho]
      rw [← this]; exact h
    · refine Ev.neg ho (ih _ _ (by omega) (by omega) ?_ ?_)
      · unfold In32; omega
      · have : cbit x = x / 2 := by simp [cbit, ho]
        rw [← this]; exact h
theorem impl_SumMore_l0 (s : ByteArray) (hs : s.size ≤ 140737488351232) : ∀ (n : Nat) (x : Int) (i : Nat), i + n = s.size → In32 x → Ev (fun k => impl_SumMore.l0 k x s (i : Int)) (crcL x ((bytesOf s).drop i)) := by
  intro n
  induction n with
  | zero =>
    intro x i hi _
    refine Ev.succ ?_
    simp only [impl_SumMore.l0]
    have e : i = s.size := by omega
    subst e
    exact Ev.neg (by omega) (Ev.some_ (by rw [drop_all]; rfl))
  | succ n ih =>
    intro x i hi _
    refine Ev.succ ?_
    simp only [impl_SumMore.l0]
    have hb := bt_range s (i : Int)
    have e : (bt s (i : Int)) % 4294967296 = bt s (i : Int) := by omega
    refine Ev.pos (by omega) (Ev.pos (by omega) ?_)
    rw [e]
    refine impl_SumMore_l1 s i _ 8 _ 0 (by omega) (by omega) (xor32_in _ _) ?_
    rw [w64 (by omega) (by omega)]
    have := ih (cbyte x (bt s (i : Int))) (i + 1) (by omega) (cbyte_in _ _)
    rw [drop_bt s i (by omega)]
    exact this
theorem impl_SumMore_ev (x : Int) (s : ByteArray) (hx : In32 x) (hs : s.size ≤ 140737488351232) : Ev (fun k => impl_SumMore.f k x s) (crc x s) := by
  simp only [impl_SumMore.f]
  exact impl_SumMore_l0 s hs s.size x 0 (by omega) hx
theorem impl_SumOf_ev (s : ByteArray) (hs : s.size ≤ 140737488351232) : Ev (fun k => impl_SumOf.f k s) (crc 4294967295 s) := by
  simp only [impl_SumOf.f]
  exact Ev.bnd (impl_SumMore_ev 4294967295 s (by unfold In32; omega) hs) (Ev.now _)
def fourB (x : Int) : ByteArray := strOfNums [(x / 16777216) % 256, (x / 65536) % 256, (x / 256) % 256, x % 256]
theorem fourB_size (x : Int) : (fourB x).size = 4 := by rw [fourB, strOfNums_size]; rfl
def sumB (s : ByteArray) : ByteArray := fourB (crc 4294967295 s)
theorem impl_sumText_ev (s : ByteArray) (hs : s.size ≤ 140737488351232) : Ev (fun k => impl_sumText.f k s) (sumB s) := by
  simp only [impl_sumText.f]
  exact Ev.bnd (impl_SumOf_ev s hs) (Ev.now _)
def sealed (s : ByteArray) : ByteArray × Bool := if (s.size : Int) > 60000 then ((⟨#[]⟩ : ByteArray), false) else (s ++ sumB s, true)
theorem impl_Sealed_ev (s : ByteArray) : Ev (fun k => impl_Sealed.f k s) (sealed s) := by
  simp only [impl_Sealed.f]
  by_cases h : (s.size : Int) > 60000
  · exact Ev.pos h (Ev.some_ (by rw [sealed, if_pos h]))
  · have := fourB_size (crc 4294967295 s)
    exact Ev.neg h (Ev.bnd (impl_sumText_ev s (by omega)) (Ev.pos (by unfold sumB; omega) (Ev.some_ (by rw [sealed, if_neg h]))))
def unsealed (s : ByteArray) : ByteArray × Bool :=
  if s.size < 4 then ((⟨#[]⟩ : ByteArray), false) else if s.size - 4 > 60000 then ((⟨#[]⟩ : ByteArray), false)
  else if s.extract (s.size - 4) s.size = sumB (s.extract 0 (s.size - 4)) then (s.extract 0 (s.size - 4), true) else ((⟨#[]⟩ : ByteArray), false)
theorem size_extract (s : ByteArray) (i j : Nat) : (s.extract i j).size = min j s.size - i := ByteArray.size_extract
theorem impl_Unsealed_ev (s : ByteArray) (hs : s.size ≤ 140737488351232) : Ev (fun k => impl_Unsealed.f k s) (unsealed s) := by
  simp only [impl_Unsealed.f]
  rw [w64 (by omega) (by omega)]
  by_cases h4 : s.size < 4
  · exact Ev.pos (by omega) (Ev.some_ (by rw [unsealed, if_pos h4]))
  have e : ((s.size : Int) - 4).toNat = s.size - 4 := by omega
  rw [e]
  by_cases h5 : s.size - 4 > 60000
  · exact Ev.neg (by omega) (Ev.pos (by omega) (Ev.some_ (by rw [unsealed, if_neg h4, if_pos h5])))
  refine Ev.neg (by omega) (Ev.neg (by omega) (Ev.pos (by omega) (Ev.pos (by omega) (Ev.bnd (impl_sumText_ev _ (by rw [size_extract]; omega)) ?_))))
  by_cases h6 : s.extract (s.size - 4) s.size = sumB (s.extract 0 (s.size - 4))
  · exact Ev.pos ((toList_iff _ _).2 h6.symm) (Ev.some_ (by rw [unsealed, if_neg h4, if_neg h5, if_pos h6]))
  · exact Ev.neg (fun h => h6 ((toList_iff _ _).1 h).symm) (Ev.some_ (by rw [unsealed, if_neg h4, if_neg h5, if_neg h6]))
theorem extract_left (s t : ByteArray) : (s ++ t).extract 0 s.size = s := by
  apply bytesOf_inj
  rw [bytesOf_extract, bytesOf_append, List.drop_zero, Nat.sub_zero, List.take_left' (bytesOf_length s)]
theorem extract_right (s t : ByteArray) : (s ++ t).extract s.size (s.size + t.size) = t := by
  apply bytesOf_inj
  rw [bytesOf_extract, bytesOf_append, List.drop_left' (bytesOf_length s), Nat.add_sub_cancel_left, List.take_of_length_le (by rw [bytesOf_length]; exact Nat.le_refl _)]
theorem sumB_size (s : ByteArray) : (sumB s).size = 4 := by
  unfold sumB fourB
  rw [strOfNums_size]
  rfl
/-- Unsealed undoes Sealed. -/
theorem unsealed_of_sealed (s : ByteArray) (h : s.size ≤ 60000) : sealed s = (s ++ sumB s, true) ∧ (s ++ sumB s).size = s.size + 4 ∧ unsealed (s ++ sumB s) = (s, true) := by
  have hz : (s ++ sumB s).size = s.size + 4 := by rw [size_append, sumB_size]
  refine ⟨by unfold sealed; rw [if_neg (by omega)], hz, ?_⟩
  unfold unsealed
  rw [hz, if_neg (by omega), if_neg (by omega), Nat.add_sub_cancel, extract_left, show s.size + 4 = s.size + (sumB s).size from by rw [sumB_size], extract_right, if_pos rfl]
/-! the sum tells any one byte that is turned -/
theorem xorN (a b : Nat) (ha : a < 2 ^ 32) (hb : b < 2 ^ 32) : Go.bits .xor .u32 (a : Int) (b : Int) = ((a ^^^ b : Nat) : Int) := by
  unfold Go.bits
  rw [IntKind.wrap_u32]
  have h := Nat.xor_lt_two_pow ha hb
  have e : IntKind.u32.bits = 32 := rfl
  simp only [e, BitVec.toNat_xor, BitVec.toNat_ofInt]
  rw [show ((a : Int) % ((2 ^ 32 : Nat) : Int)).toNat = a from by omega, show ((b : Int) % ((2 ^ 32 : Nat) : Int)).toNat = b from by omega]
  omega
theorem xor8 (a b : Nat) (ha : a < 2 ^ 8) (hb : b < 2 ^ 8) : Go.bits .xor .u8 (a : Int) (b : Int) = ((a ^^^ b : Nat) : Int) := by
  unfold Go.bits
  rw [IntKind.wrap_u8]
  have h := Nat.xor_lt_two_pow ha hb
  have e : IntKind.u8.bits = 8 := rfl
  simp only [e, BitVec.toNat_xor, BitVec.toNat_ofInt]
  rw [show ((a : Int) % ((2 ^ 8 : Nat) : Int)).toNat = a from by omega, show ((b : Int) % ((2 ^ 8 : Nat) : Int)).toNat = b from by omega]
  omega
theorem xor_cancel {a b c : Nat} (h : a ^^^ c = b ^^^ c) : a = b := by
  have := congrArg (· ^^^ c) h
  simpa [Nat.xor_assoc] using this
theorem cbit_top {a b : Nat} (ha : a < 2 ^ 31) (hb : b < 2 ^ 31) (h : a ^^^ 3558460437 = b) : False := by
  have e := congrArg (fun n => Nat.testBit n 31) h
  simp only [Nat.testBit_xor, Nat.testBit_lt_two_pow ha, Nat.testBit_lt_two_pow hb] at e
  exact absurd e (by decide)
theorem cbit_inj {x y : Int} (hx : In32 x) (hy : In32 y) (h : cbit x = cbit y) : x = y := by
  obtain ⟨a, rfl⟩ := Int.eq_ofNat_of_zero_le hx.1
  obtain ⟨b, rfl⟩ := Int.eq_ofNat_of_zero_le hy.1
  have ha : a < 4294967296 := by have := hx.2; omega
  have hb : b < 4294967296 := by have := hy.2; omega
  have e1 : ((a : Int) / 2) = ((a / 2 : Nat) : Int) := by omega
  have e2 : ((b : Int) / 2) = ((b / 2 : Nat) : Int) := by omega
  have p : (3558460437 : Int) = ((3558460437 : Nat) : Int) := rfl
  unfold cbit at h
  rw [e1, e2, p, xorN _ _ (by omega) (by decide), xorN _ _ (by omega) (by decide)] at h
  by_cases c : (a : Int) % 2 = 1
  · rw [if_pos c] at h
    by_cases d : (b : Int) % 2 = 1
    · rw [if_pos d] at h
      have := xor_cancel (Int.ofNat.inj h)
      omega
    · rw [if_neg d] at h
      exact (cbit_top (by omega) (by omega) (Int.ofNat.inj h)).elim
  · rw [if_neg c] at h
    by_cases d : (b : Int) % 2 = 1
    · rw [if_pos d] at h
      exact (cbit_top (by omega) (by omega) (Int.ofNat.inj h).symm).elim
    · rw [if_neg d] at h
      omega
theorem cbits_inj (n : Nat) : ∀ {x y : Int}, In32 x → In32 y → cbits n x = cbits n y → x = y := by
  induction n with
  | zero => intro x y _ _ h; exact h
  | succ n ih => intro x y hx hy h; exact cbit_inj hx hy (ih (cbit_in hx) (cbit_in hy) h)
theorem cbyte_inj {x y b c : Int} (h : cbyte x b = cbyte y c) : Go.bits .xor .u32 x b = Go.bits .xor .u32 y c :=
  cbits_inj 8 (xor32_in _ _) (xor32_in _ _) h
theorem cbyte_x {x y b : Int} (hx : In32 x) (hy : In32 y) (hb : IsByte b) (h : cbyte x b = cbyte y b) : x = y := by
  have e := cbyte_inj h
  obtain ⟨a, rfl⟩ := Int.eq_ofNat_of_zero_le hx.1
  obtain ⟨c, rfl⟩ := Int.eq_ofNat_of_zero_le hy.1
  obtain ⟨d, rfl⟩ := Int.eq_ofNat_of_zero_le hb.1
  have h1 := hx.2
  have h2 := hy.2
  have h3 := hb.2
  rw [xorN _ _ (by omega) (by omega), xorN _ _ (by omega) (by omega)] at e
  have := xor_cancel (Int.ofNat.inj e)
  omega
theorem cbyte_b {x b c : Int} (hx : In32 x) (hb : IsByte b) (hc : IsByte c) (h : cbyte x b = cbyte x c) : b = c := by
  have e := cbyte_inj h
  obtain ⟨a, rfl⟩ := Int.eq_ofNat_of_zero_le hx.1
  obtain ⟨d, rfl⟩ := Int.eq_ofNat_of_zero_le hb.1
  obtain ⟨g, rfl⟩ := Int.eq_ofNat_of_zero_le hc.1
  have h1 := hx.2
  have h2 := hb.2
  have h3 := hc.2
  rw [xorN _ _ (by omega) (by omega), xorN _ _ (by omega) (by omega)] at e
  have e2 := Int.ofNat.inj e
  rw [Nat.xor_comm a d, Nat.xor_comm a g] at e2
  have := xor_cancel e2
  omega
theorem crcL_fold : ∀ (l : List Int) (x : Int), crcL x l = l.foldl cbyte x
  | [], _ => rfl
  | b :: l, x => crcL_fold l (cbyte x b)
theorem crcL_cons (x b : Int) (l : List Int) : crcL x (b :: l) = crcL (cbyte x b) l := by
  rw [crcL_fold, crcL_fold]
  rfl
theorem crcL_inj (l : List Int) : ∀ {x y : Int}, (∀ b ∈ l, IsByte b) → In32 x → In32 y → crcL x l = crcL y l → x = y := by
  induction l with
  | nil => intro x y _ _ _ h; exact h
  | cons b l ih =>
    intro x y hl hx hy h
    rw [crcL_cons, crcL_cons] at h
    have e : cbyte x b = cbyte y b := ih (fun c hc => hl c (List.mem_cons_of_mem _ hc)) (cbyte_in x b) (cbyte_in y b) h
    exact cbyte_x hx hy (hl b (by simp)) e
theorem crcL_set : ∀ (l : List Int) (i : Nat) (hi : i < l.length) {x v : Int}, (∀ b ∈ l, IsByte b) → IsByte v → In32 x → crcL x (l.set i v) = crcL x l → v = l[i]
  | b :: l, 0, _, x, v, hl, hv, hx, h => by
    rw [List.set_cons_zero, crcL_cons, crcL_cons] at h
    have e : cbyte x v = cbyte x b := crcL_inj l (fun c hc => hl c (List.mem_cons_of_mem _ hc)) (cbyte_in x v) (cbyte_in x b) h
    exact cbyte_b hx hv (hl b (by simp)) e
  | b :: l, i + 1, hi, x, v, hl, hv, hx, h => by
    rw [List.set_cons_succ, crcL_cons, crcL_cons] at h
    exact crcL_set l i (by simpa using hi) (fun c hc => hl c (List.mem_cons_of_mem _ hc)) hv (cbyte_in _ _) h
theorem crcL_append (l m : List Int) (x : Int) : crcL x (l ++ m) = crcL (crcL x l) m := by
  rw [crcL_fold, crcL_fold, crcL_fold, List.foldl_append]
theorem fourB_bytes (a : Int) : bytesOf (fourB a) = [(a / 16777216) % 256, (a / 65536) % 256, (a / 256) % 256, a % 256] := by
  refine bytesOf_strOf _ (fun n hn => ?_)
  simp only [List.mem_cons, List.mem_nil_iff, or_false] at hn
  rcases hn with rfl | rfl | rfl | rfl <;> exact ⟨by omega, by omega⟩
theorem fourB_inj {a b : Int} (ha : In32 a) (hb : In32 b) (h : fourB a = fourB b) : a = b := by
  have e := congrArg bytesOf h
  rw [fourB_bytes, fourB_bytes] at e
  simp only [List.cons.injEq, and_true] at e
  obtain ⟨e1, e2, e3, e4⟩ := e
  obtain ⟨h1, h2⟩ := ha
  obtain ⟨h3, h4⟩ := hb
  omega
theorem xor8_byte {b x : Int} (hb : IsByte b) (hx : 1 ≤ x ∧ x ≤ 255) : IsByte (Go.bits .xor .u8 b x) ∧ Go.bits .xor .u8 b x ≠ b := by
  obtain ⟨a, rfl⟩ := Int.eq_ofNat_of_zero_le hb.1
  obtain ⟨c, rfl⟩ := Int.eq_ofNat_of_zero_le (show 0 ≤ x by omega)
  have h1 := hb.2
  have h3 := Nat.xor_lt_two_pow (x := a) (y := c) (n := 8) (by omega) (by omega)
  rw [xor8 _ _ (by omega) (by omega)]
  refine ⟨⟨by omega, by omega⟩, fun e => ?_⟩
  have e2 : a ^^^ c = a ^^^ 0 := by rw [Nat.xor_zero]; exact Int.ofNat.inj e
  rw [Nat.xor_comm a c, Nat.xor_comm a 0] at e2
  have := xor_cancel e2
  omega
def turnB (t : ByteArray) (i : Nat) (x : Int) : ByteArray := strOfNums ((bytesOf t).set i (Go.bits .xor .u8 (rd (bytesOf t) (i : Int)) x))
theorem turnB_bytes (t : ByteArray) (i : Nat) (x : Int) (hi : i < t.size) (hx : 1 ≤ x ∧ x ≤ 255) : bytesOf (turnB t i x) = (bytesOf t).set i (Go.bits .xor .u8 (rd (bytesOf t) (i : Int)) x) := by
  refine bytesOf_strOf _ (fun n hn => ?_)
  rcases List.mem_or_eq_of_mem_set hn with h | rfl
  · exact bytesOf_isByte t n h
  · rw [rd_nat (bytesOf t) i (by rw [bytesOf_length]; exact hi)]
    exact (xor8_byte (bytesOf_isByte t _ (List.getElem_mem _)) hx).1
theorem unsealed_turned (s : ByteArray) (h : s.size ≤ 60000) (i : Nat) (x : Int) (hi : i < s.size + 4) (hx : 1 ≤ x ∧ x ≤ 255) : (unsealed (turnB (s ++ sumB s) i x)).2 = false := by
  have hz : (s ++ sumB s).size = s.size + 4 := by rw [size_append, sumB_size]
  have hb := turnB_bytes (s ++ sumB s) i x (by omega) hx
  have hil : i < (bytesOf (s ++ sumB s)).length := by rw [bytesOf_length]; omega
  rw [rd_nat _ i hil] at hb
  obtain ⟨v1, v2⟩ := xor8_byte (bytesOf_isByte (s ++ sumB s) _ (List.getElem_mem hil)) hx
  generalize hv : Go.bits .xor .u8 (bytesOf (s ++ sumB s))[i] x = v at hb v1 v2
  have hsz : (turnB (s ++ sumB s) i x).size = s.size + 4 := by rw [← bytesOf_length, hb, List.length_set, bytesOf_length]; exact hz
  unfold unsealed
  rw [hsz, if_neg (by omega), if_neg (by omega), Nat.add_sub_cancel]
  by_cases c : (turnB (s ++ sumB s) i x).extract s.size (s.size + 4) = sumB ((turnB (s ++ sumB s) i x).extract 0 s.size)
  case neg => rw [if_neg c]
  exfalso
  have l1 : (bytesOf s).length = s.size := bytesOf_length s
  have l2 : (bytesOf (sumB s)).length = 4 := by rw [bytesOf_length]; exact sumB_size s
  have e1 := congrArg bytesOf c
  rw [bytesOf_extract, hb, List.drop_set, Nat.add_sub_cancel_left] at e1
  have e2 : bytesOf ((turnB (s ++ sumB s) i x).extract 0 s.size) = (bytesOf s).set i v := by
    rw [bytesOf_extract, hb, List.drop_zero, Nat.sub_zero, List.take_set, bytesOf_append, List.take_left' l1]
  rw [bytesOf_append, List.drop_left' l1] at e1
  by_cases d : i < s.size
  · rw [if_pos d, List.take_of_length_le (by omega)] at e1
    have e3 : sumB s = sumB ((turnB (s ++ sumB s) i x).extract 0 s.size) := bytesOf_inj e1
    have e4 := fourB_inj (crc_in _ ⟨by decide, by decide⟩) (crc_in _ ⟨by decide, by decide⟩) e3
    unfold crc at e4
    rw [e2] at e4
    have e5 := crcL_set (bytesOf s) i (by omega) (bytesOf_isByte s) v1 (show In32 4294967295 from ⟨by decide, by decide⟩) e4.symm
    apply v2
    rw [e5]
    simp only [bytesOf_append]
    rw [List.getElem_append_left (by omega)]
  · rw [if_neg d] at e1
    have e3 : (turnB (s ++ sumB s) i x).extract 0 s.size = s := by
      apply bytesOf_inj
      rw [e2, List.set_eq_of_length_le (by omega)]
    rw [e3, List.take_of_length_le (by rw [List.length_set]; omega)] at e1
    have e4 : ((bytesOf (sumB s)).set (i - s.size) v)[i - s.size]? = (bytesOf (sumB s))[i - s.size]? := by rw [e1]
    rw [List.getElem?_set_self (by omega), List.getElem?_eq_getElem (by omega)] at e4
    apply v2
    rw [Option.some.inj e4]
    simp only [bytesOf_append]
    rw [List.getElem_append_right (by omega)]
    simp only [l1]
theorem FnTurned : laws_FnTurned.Pure := by
  intro l hl
  refine Ev.rounds (r := true) ?_
  simp only [laws_FnTurned.f]
  refine Ev.bnd0 (laws_big_eq l) ?_
  by_cases hb : (decide ((l.length : Int) > 1048576)) = true
  · exact Ev.pos hb (Ev.now _)
  refine Ev.neg hb ?_
  obtain ⟨s, hs, hz⟩ := spec_DrawSumOf_ev l (by omega)
  obtain ⟨p, hp, hpl, hpx⟩ := spec_DrawPlaces_ev l (by omega)
  obtain ⟨h6, h7, h8⟩ := unsealed_of_sealed s (by omega)
  refine Ev.bnd hs (Ev.bnd hp (Ev.bnd (Ev_eq (impl_Sealed_ev s) h6) ?_))
  have q0 := hpx 0 (by omega)
  have q1 := hpx 1 (by omega)
  have q2 := hpx 2 (by omega)
  refine Ev.pos ⟨rfl, h7, by omega, hpl, q0, q1, q2⟩ ?_
  simp only
  obtain ⟨i, hi⟩ := Int.eq_ofNat_of_zero_le (Int.emod_nonneg (rd p 0) (show (((s ++ sumB s).size : Nat) : Int) ≠ 0 by omega))
  have hil := Int.emod_lt_of_pos (rd p 0) (show (0 : Int) < (((s ++ sumB s).size : Nat) : Int) by omega)
  rw [hi, Int.toNat_natCast] at *
  have ht : laws_FnTurned.turned (s ++ sumB s) i (1 + rd p 1 % 255) = turnB (s ++ sumB s) i (1 + rd p 1 % 255) := rfl
  have hu := unsealed_turned s (by omega) i (1 + rd p 1 % 255) (by omega) (by omega)
  have hts : (turnB (s ++ sumB s) i (1 + rd p 1 % 255)).size = s.size + 4 := by
    rw [← bytesOf_length, turnB_bytes _ i _ (by omega) (by omega), List.length_set, bytesOf_length]
    exact h7
  rw [ht]
  refine Ev.bnd (impl_Unsealed_ev _ (by omega)) (Ev.neg (by rw [hu]; simp) ?_)
  obtain ⟨q, hq⟩ := Int.eq_ofNat_of_zero_le (Int.emod_nonneg (rd p 2) (show (s.size : Int) + 1 ≠ 0 by omega))
  have hql := Int.emod_lt_of_pos (rd p 2) (show (0 : Int) < (s.size : Int) + 1 by omega)
  rw [hq, Int.toNat_natCast] at *
  have z1 := size_extract s 0 q
  have z2 := size_extract s q s.size
  refine Ev.bnd (impl_SumOf_ev _ (by omega)) (Ev.bnd (impl_SumMore_ev _ _ (crc_in _ ⟨by decide, by decide⟩) (by omega)) (Ev.bnd (impl_SumOf_ev s (by omega)) (Ev.some_ ?_)))
  rw [decide_eq_true_eq]
  unfold crc
  rw [← crcL_append, ← bytesOf_append]
  congr 1
  rw [bytesOf_append, bytesOf_extract, bytesOf_extract, List.drop_zero, Nat.sub_zero, List.take_of_length_le (l := (bytesOf s).drop q) (by rw [List.length_drop, bytesOf_length]; omega), List.take_append_drop]

end Go.Proofs.Ytfaebcoembcfoaa.Pure
