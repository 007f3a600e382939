/- The program's Unsealed returns what the reference's returns, for every text that the row reads. -/
import Derived.Test.YtdcehjmipjikaaaPFnExactUnsealedx3
import Derived.Test.YtdcehjmipjikaaaGen
namespace Go.Proofs.Ytdcehjmipjikaaa.Pure
open Go.RowKit Go.Proofs.Ytdcehjmipjikaaa.PFnExactUnsealed Go.Proofs.YtdcehjmipjikaaaW.PrintWords Go.Proofs.YtdcehjmipjikaaaW.PrintLast Go.Proofs.YtdcehjmipjikaaaG

/-! spec.SumMore -/
theorem spec_SumMore_l1 (s : ByteArray) (i r : Int) : ∀ (n : Nat) (x c : Int), c = 8 - (n : Int) → n ≤ 8 → In32 x → Ev (fun k => spec_SumMore.l0 k (cbits n x) s (wrap64 (i + 1))) r → Ev (fun k => spec_SumMore.l1 k x s i c) r := by
  intro n
  induction n with
  | zero =>
    intro x c hc _ _ h
    refine Ev.succ ?_
    simp only [spec_SumMore.l1]
    exact Ev.neg (by omega) h
  | succ n ih =>
    intro x c hc hn hx h
    obtain ⟨h0, h1⟩ := hx
    refine Ev.succ ?_
    simp only [spec_SumMore.l1]
    refine Ev.pos (by omega) ?_
    have e0 : (Int.tmod x 2) = x % 2 := by exact Int.tmod_eq_emod_of_nonneg h0
    have e1 : wrap64 (c + 1) = c + 1 := w64 (by omega) (by omega)
    have e2 : (Int.tdiv x 2) % 4294967296 = x / 2 := by rw [Int.tdiv_eq_ediv_of_nonneg h0]; omega
    rw [e0, e1, e2]
    have hb := cbit_in ⟨h0, h1⟩
    by_cases ho : x % 2 = 1
    · refine Ev.pos ho (ih _ _ (by omega) (by omega) (xor32_in _ _) ?_)
      have : cbit x = Go.bits .xor .u32 (x / 2) 3558460437 := by simp [cbit, ho]
      rw [← this]; exact h
    · refine Ev.neg ho (ih _ _ (by omega) (by omega) ?_ ?_)
      · unfold In32; omega
      · have : cbit x = x / 2 := by simp [cbit, ho]
        rw [← this]; exact h
theorem spec_SumMore_l0 (s : ByteArray) (hs : s.size ≤ 140737488351232) : ∀ (n : Nat) (x : Int) (i : Nat), i + n = s.size → In32 x → Ev (fun k => spec_SumMore.l0 k x s (i : Int)) (crcL x ((bytesOf s).drop i)) := by
  intro n
  induction n with
  | zero =>
    intro x i hi _
    refine Ev.succ ?_
    simp only [spec_SumMore.l0]
    have e : i = s.size := by omega
    subst e
    exact Ev.neg (by omega) (Ev.some_ (by rw [drop_all]; rfl))
  | succ n ih =>
    intro x i hi _
    refine Ev.succ ?_
    simp only [spec_SumMore.l0]
    have hb := bt_range s (i : Int)
    have e : (bt s (i : Int)) % 4294967296 = bt s (i : Int) := by omega
    refine Ev.pos (by omega) (Ev.pos (by omega) ?_)
    rw [e]
    refine spec_SumMore_l1 s i _ 8 _ 0 (by omega) (by omega) (xor32_in _ _) ?_
    rw [w64 (by omega) (by omega)]
    have := ih (cbyte x (bt s (i : Int))) (i + 1) (by omega) (cbyte_in _ _)
    rw [drop_bt s i (by omega)]
    exact this
theorem spec_SumMore_ev (x : Int) (s : ByteArray) (hx : In32 x) (hs : s.size ≤ 140737488351232) : Ev (fun k => spec_SumMore.f k x s) (crc x s) := by
  simp only [spec_SumMore.f]
  exact spec_SumMore_l0 s hs s.size x 0 (by omega) hx

/-! impl.SumMore -/
theorem impl_SumMore_l1 (s : ByteArray) (i r : Int) : ∀ (n : Nat) (x c : Int), c = 8 - (n : Int) → n ≤ 8 → In32 x → Ev (fun k => impl_SumMore.l0 k (cbits n x) s (wrap64 (i + 1))) r → Ev (fun k => impl_SumMore.l1 k x s i c) r := by
  intro n
  induction n with
  | zero =>
    intro x c hc _ _ h
    refine Ev.succ ?_
    simp only [impl_SumMore.l1]
    exact Ev.neg (by omega) h
  | succ n ih =>
    intro x c hc hn hx h
    obtain ⟨h0, h1⟩ := hx
    refine Ev.succ ?_
    simp only [impl_SumMore.l1]
    refine Ev.pos (by omega) ?_
    have e0 : (Go.bits .and .u32 x 1) = x % 2 := by exact and32_1 x h0 h1
    have e1 : wrap64 (c + 1) = c + 1 := w64 (by omega) (by omega)
    skip
    rw [e0, e1]
    have hb := cbit_in ⟨h0, h1⟩
    by_cases ho : x % 2 = 1
    · refine Ev.pos ho (ih _ _ (by omega) (by omega) (xor32_in _ _) ?_)
      have : cbit x = Go.bits .xor .u32 (x / 2) 3558460437 := by simp [cbit, ho]
      rw [← this]; exact h
    · refine Ev.neg ho (ih _ _ (by omega) (by omega) ?_ ?_)
      · unfold In32; omega
      · have : cbit x = x / 2 := by simp [cbit, ho]
        rw [← this]; exact h
theorem impl_SumMore_l0 (s : ByteArray) (hs : s.size ≤ 140737488351232) : ∀ (n : Nat) (x : Int) (i : Nat), i + n = s.size → In32 x → Ev (fun k => impl_SumMore.l0 k x s (i : Int)) (crcL x ((bytesOf s).drop i)) := by
  intro n
  induction n with
  | zero =>
    intro x i hi _
    refine Ev.succ ?_
    simp only [impl_SumMore.l0]
    have e : i = s.size := by omega
    subst e
    exact Ev.neg (by omega) (Ev.some_ (by rw [drop_all]; rfl))
  | succ n ih =>
    intro x i hi _
    refine Ev.succ ?_
    simp only [impl_SumMore.l0]
    have hb := bt_range s (i : Int)
    have e : (bt s (i : Int)) % 4294967296 = bt s (i : Int) := by omega
    refine Ev.pos (by omega) (Ev.pos (by omega) ?_)
    rw [e]
    refine impl_SumMore_l1 s i _ 8 _ 0 (by omega) (by omega) (xor32_in _ _) ?_
    rw [w64 (by omega) (by omega)]
    have := ih (cbyte x (bt s (i : Int))) (i + 1) (by omega) (cbyte_in _ _)
    rw [drop_bt s i (by omega)]
    exact this
theorem impl_SumMore_ev (x : Int) (s : ByteArray) (hx : In32 x) (hs : s.size ≤ 140737488351232) : Ev (fun k => impl_SumMore.f k x s) (crc x s) := by
  simp only [impl_SumMore.f]
  exact impl_SumMore_l0 s hs s.size x 0 (by omega) hx
theorem spec_SumOf_ev (s : ByteArray) (hs : s.size ≤ 140737488351232) : Ev (fun k => spec_SumOf.f k s) (crc 4294967295 s) := by
  simp only [spec_SumOf.f]
  exact Ev.bnd (spec_SumMore_ev 4294967295 s (by unfold In32; omega) hs) (Ev.now _)

theorem impl_SumOf_ev (s : ByteArray) (hs : s.size ≤ 140737488351232) : Ev (fun k => impl_SumOf.f k s) (crc 4294967295 s) := by
  simp only [impl_SumOf.f]
  exact Ev.bnd (impl_SumMore_ev 4294967295 s (by unfold In32; omega) hs) (Ev.now _)
def fourB (x : Int) : ByteArray := strOfNums [(x / 16777216) % 256, (x / 65536) % 256, (x / 256) % 256, x % 256]
theorem fourB_size (x : Int) : (fourB x).size = 4 := by rw [fourB, strOfNums_size]; rfl
def sumB (s : ByteArray) : ByteArray := fourB (crc 4294967295 s)
theorem impl_sumText_ev (s : ByteArray) (hs : s.size ≤ 140737488351232) : Ev (fun k => impl_sumText.f k s) (sumB s) := by
  simp only [impl_sumText.f]
  exact Ev.bnd (impl_SumOf_ev s hs) (Ev.now _)
def unsealed (s : ByteArray) : ByteArray × Bool :=
  if s.size < 4 then ((⟨#[]⟩ : ByteArray), false) else if s.size - 4 > 60000 then ((⟨#[]⟩ : ByteArray), false)
  else if s.extract (s.size - 4) s.size = sumB (s.extract 0 (s.size - 4)) then (s.extract 0 (s.size - 4), true) else ((⟨#[]⟩ : ByteArray), false)
theorem size_extract (s : ByteArray) (i j : Nat) : (s.extract i j).size = min j s.size - i := ByteArray.size_extract
theorem spec_Unsealed_ev (s : ByteArray) (hs : s.size ≤ 140737488351232) : Ev (fun k => spec_Unsealed.f k s) (unsealed s) := by
  simp only [spec_Unsealed.f]
  rw [w64 (by omega) (by omega)]
  by_cases h4 : s.size < 4
  · exact Ev.pos (by omega) (Ev.some_ (by rw [unsealed, if_pos h4]))
  have e : ((s.size : Int) - 4).toNat = s.size - 4 := by omega
  rw [e]
  by_cases h5 : s.size - 4 > 60000
  · exact Ev.neg (by omega) (Ev.pos (by omega) (Ev.some_ (by rw [unsealed, if_neg h4, if_pos h5])))
  refine Ev.neg (by omega) (Ev.neg (by omega) (Ev.pos (by omega) (Ev.pos (by omega) (Ev.bnd (spec_SumOf_ev _ (by rw [size_extract]; omega)) (Ev.bnd0 (a := sumB (s.extract 0 (s.size - 4))) rfl ?_)))))
  by_cases h6 : s.extract (s.size - 4) s.size = sumB (s.extract 0 (s.size - 4))
  · exact Ev.pos ((toList_iff _ _).2 h6) (Ev.some_ (by rw [unsealed, if_neg h4, if_neg h5, if_pos h6]))
  · exact Ev.neg (fun h => h6 ((toList_iff _ _).1 h)) (Ev.some_ (by rw [unsealed, if_neg h4, if_neg h5, if_neg h6]))
theorem impl_Unsealed_ev (s : ByteArray) (hs : s.size ≤ 140737488351232) : Ev (fun k => impl_Unsealed.f k s) (unsealed s) := by
  simp only [impl_Unsealed.f]
  rw [w64 (by omega) (by omega)]
  by_cases h4 : s.size < 4
  · exact Ev.pos (by omega) (Ev.some_ (by rw [unsealed, if_pos h4]))
  have e : ((s.size : Int) - 4).toNat = s.size - 4 := by omega
  rw [e]
  by_cases h5 : s.size - 4 > 60000
  · exact Ev.neg (by omega) (Ev.pos (by omega) (Ev.some_ (by rw [unsealed, if_neg h4, if_pos h5])))
  refine Ev.neg (by omega) (Ev.neg (by omega) (Ev.pos (by omega) (Ev.pos (by omega) (Ev.bnd (impl_sumText_ev _ (by rw [size_extract]; omega)) ?_))))
  by_cases h6 : s.extract (s.size - 4) s.size = sumB (s.extract 0 (s.size - 4))
  · exact Ev.pos ((toList_iff _ _).2 h6.symm) (Ev.some_ (by rw [unsealed, if_neg h4, if_neg h5, if_pos h6]))
  · exact Ev.neg (fun h => h6 ((toList_iff _ _).1 h).symm) (Ev.some_ (by rw [unsealed, if_neg h4, if_neg h5, if_neg h6]))
theorem Ev_sb (r : ByteArray × Bool) : Ev (fun _ => if r.1.toList = r.1.toList then (if (r.2 != r.2) = true then (some false) else (some true)) else (some false)) true := by
  simp only [if_true, bne_self_eq_false, Bool.false_eq_true, if_false]
  exact Ev.now _
theorem FnExactUnsealed : laws_FnExactUnsealed.Pure := by
  intro s hs
  refine Ev.rounds (r := true) ?_
  simp only [laws_FnExactUnsealed.f]
  by_cases h : (s.size : Int) > 1048576
  · exact Ev.pos h (Ev.now _)
  · exact Ev.neg h (Ev.bnd (spec_Unsealed_ev s hs) (Ev.bnd (impl_Unsealed_ev s hs) (Ev_sb _)))

end Go.Proofs.Ytdcehjmipjikaaa.Pure
