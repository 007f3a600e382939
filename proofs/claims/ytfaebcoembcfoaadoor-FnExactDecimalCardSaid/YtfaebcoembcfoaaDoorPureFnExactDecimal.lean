/- The program's Decimal returns what the reference's returns, for every number. -/
import Derived.Test.YtfaebcoembcfoaaDoorPFnExactDecimalx1
import Derived.Test.YtfaebcoembcfoaaDoorGen
namespace Go.Proofs.YtfaebcoembcfoaaDoor.Pure
open Go.RowKit Go.Proofs.YtfaebcoembcfoaaDoor.PFnExactDecimal Go.Proofs.YtfaebcoembcfoaaDoorW.PrintWords Go.Proofs.YtfaebcoembcfoaaDoorW.PrintLast Go.Proofs.YtfaebcoembcfoaaDoorG

def dd (u : Nat) : List UInt8 := if u = 0 then [] else Lib.decDigits u
theorem dd_step (u : Nat) (h : u ≠ 0) : dd u = dd (u / 10) ++ [UInt8.ofNat (48 + u % 10)] := by
  unfold dd
  rw [if_neg h]
  by_cases h2 : u < 10
  · rw [Lib.decDigits, dif_pos h2, if_pos (by omega), Nat.mod_eq_of_lt h2]
    rfl
  · rw [Lib.decDigits, dif_neg h2, if_neg (by omega)]
def strL (l : List UInt8) : ByteArray := ⟨l.toArray⟩
theorem strL_append (l : List UInt8) (s : ByteArray) : strL (l ++ s.data.toList) = strL l ++ s := by
  apply data_inj
  rw [ByteArray.toList_data_append]
  simp [strL]
theorem strOne (d : Nat) (h : d < 10) : strOfNums [((wrap64 (48 + (d : Int))) % 256)] = strL [UInt8.ofNat (48 + d)] := by
  rw [w64 (by omega) (by omega)]
  apply data_inj
  rw [strOfNums_data]
  simp only [List.map_cons, List.map_nil, strL]
  rw [show ((48 + (d : Int)) % 256) = ((48 + d : Nat) : Int) by omega, Int.toNat_natCast]
theorem tm_neg (u : Nat) : Int.tmod (-(u : Int)) 10 = -((u % 10 : Nat) : Int) := by
  rw [Int.neg_tmod]
  rfl
theorem td_neg (u : Nat) : Int.tdiv (-(u : Int)) 10 = -((u / 10 : Nat) : Int) := by
  rw [Int.neg_tdiv]
  rfl
theorem spec_Decimal_l0 (b : Bool) : ∀ (f u : Nat) (n : Int) (s : ByteArray), u < f → u ≤ 9223372036854775808 → (n = (u : Int) ∨ n = -(u : Int)) → (-9223372036854775808 ≤ n ∧ n ≤ 9223372036854775807) → s.size + f < 1000000000000000000000 → s.size + (dd u).length ≤ 1000000 →
    Ev (fun k => spec_Decimal.l0 k n b s) (if b = true then strL (45 :: (dd u ++ s.data.toList)) else strL (dd u ++ s.data.toList)) := by
  intro f
  induction f with
  | zero => intro u n s h; omega
  | succ f ih =>
    intro u n s hu hum hn hb hs hl
    refine Ev.succ ?_
    simp only [spec_Decimal.l0]
    by_cases h0 : u = 0
    · subst h0
      have hn0 : n = 0 := by omega
      refine Ev.pos hn0 ?_
      simp only [dd, if_pos, List.nil_append]
      have es : strL s.data.toList = s := by apply data_inj; simp [strL]
      by_cases hB : b = true
      · refine Ev_eq ?_ (if_pos hB).symm
        refine Ev.pos hB (Ev.pos (by simp only [dd, if_pos, List.length_nil] at hl; omega) (Ev.some_ ?_))
        rw [show (45 :: s.data.toList) = [45] ++ s.data.toList from rfl, strL_append]
        rfl
      · refine Ev_eq ?_ (if_neg hB).symm
        rw [es]
        exact Ev.neg hB (Ev.now _)
    · have hd := dd_step u h0
      have hne : ¬ n = 0 := by omega
      refine Ev.neg hne ?_
      have hL : (dd u).length = (dd (u / 10)).length + 1 := by rw [hd]; simp
      have key : ∀ q : Int, (q = ((u / 10 : Nat) : Int) ∨ q = -((u / 10 : Nat) : Int)) → (-9223372036854775808 ≤ q ∧ q ≤ 9223372036854775807) → Ev (fun k => spec_Decimal.l0 k q b (strL [UInt8.ofNat (48 + u % 10)] ++ s)) (if b = true then strL (45 :: (dd u ++ s.data.toList)) else strL (dd u ++ s.data.toList)) := by
        intro q hq hqb
        have hsz : (strL [UInt8.ofNat (48 + u % 10)] ++ s).size = 1 + s.size := by rw [size_append]; rfl
        have e := ih (u / 10) q (strL [UInt8.ofNat (48 + u % 10)] ++ s) (by omega) (by omega) hq hqb (by rw [hsz]; omega) (by rw [hsz]; omega)
        have e2 : dd (u / 10) ++ (strL [UInt8.ofNat (48 + u % 10)] ++ s).data.toList = dd u ++ s.data.toList := by
          rw [hd, ByteArray.toList_data_append, List.append_assoc]
          rfl
        rw [e2] at e
        exact e
      rcases hn with rfl | rfl
      · have em : Int.tmod (u : Int) 10 = ((u % 10 : Nat) : Int) := rfl
        have ed : Int.tdiv (u : Int) 10 = ((u / 10 : Nat) : Int) := rfl
        rw [em, ed, w64 (n := ((u / 10 : Nat) : Int)) (by omega) (by omega)]
        refine Ev.neg (by omega) (Ev.bnd0 (a := (wrap64 (48 + ((u % 10 : Nat) : Int))) % 256) (by simp only [spec_l01Figure.f]; rw [if_pos (by omega)]) (Ev.bnd0 rfl ?_))
        rw [strOne (u % 10) (by omega)]
        exact Ev.pos (by show 1 + s.size ≤ _; omega) (key _ (.inl rfl) (by omega))
      · rw [tm_neg, td_neg, w64 (n := -((u / 10 : Nat) : Int)) (by omega) (by omega)]
        by_cases hz : u % 10 = 0
        · rw [hz]
          refine Ev.neg (by simp) (Ev.bnd0 (a := (wrap64 (48 + ((0 : Nat) : Int))) % 256) (by simp only [spec_l01Figure.f]; rw [if_pos (by simp)]; rfl) (Ev.bnd0 rfl ?_))
          rw [strOne 0 (by omega)]
          have := key (-((u / 10 : Nat) : Int)) (.inr rfl) (by omega)
          rw [hz] at this
          exact Ev.pos (by show 1 + s.size ≤ _; omega) this
        · rw [Int.neg_neg, w64 (n := ((u % 10 : Nat) : Int)) (by omega) (by omega)]
          refine Ev.pos (by omega) (Ev.bnd0 (a := (wrap64 (48 + ((u % 10 : Nat) : Int))) % 256) (by simp only [spec_l01Figure.f]; rw [if_pos (by omega)]) (Ev.bnd0 rfl ?_))
          rw [strOne (u % 10) (by omega)]
          exact Ev.pos (by show 1 + s.size ≤ _; omega) (key _ (.inr rfl) (by omega))
theorem decDigits_len : ∀ (k u : Nat), u < 10 ^ (k + 1) → (Lib.decDigits u).length ≤ k + 1
  | 0, u, h => by
    rw [Lib.decDigits, dif_pos (by simpa using h)]
    simp
  | k + 1, u, h => by
    by_cases h2 : u < 10
    · rw [Lib.decDigits, dif_pos h2]
      simp
    · have := decDigits_len k (u / 10) (by rw [Nat.pow_succ] at h; omega)
      rw [Lib.decDigits, dif_neg h2, List.length_append]
      simp only [List.length_cons, List.length_nil]
      omega
theorem dd_length (u : Nat) (h : u ≤ 9223372036854775808) : (dd u).length ≤ 100 := by
  unfold dd
  split
  · simp
  · have h1 := decDigits_len 19 u (by omega)
    omega
theorem spec_Decimal_ev (n : Int) (h0 : -9223372036854775808 ≤ n) (h1 : n ≤ 9223372036854775807) : Ev (fun k => spec_Decimal.f k n) (strL (Lib.itoa n)) := by
  simp only [spec_Decimal.f]
  by_cases h : n = 0
  · subst h
    refine Ev.pos rfl (Ev.some_ ?_)
    rw [show Lib.itoa 0 = Lib.decDigits 0 from Lib.itoa_nonneg 0, Lib.decDigits, dif_pos (by decide)]
    rfl
  · refine Ev.neg h ?_
    have hd := dd_length n.natAbs (by omega)
    refine Ev_eq (spec_Decimal_l0 (decide (n < 0)) (n.natAbs + 1) n.natAbs n ⟨#[]⟩ (by omega) (by omega) (by omega) ⟨h0, h1⟩ (by show 0 + _ < _; omega) (by show 0 + _ ≤ _; omega)) ?_
    have e0 : (⟨#[]⟩ : ByteArray).data.toList = [] := rfl
    rw [e0, List.append_nil]
    by_cases hn : n < 0
    · rw [if_pos (decide_eq_true hn)]
      unfold Lib.itoa
      rw [if_pos hn]
      unfold dd
      rw [if_neg (by omega)]
    · rw [if_neg (by simpa using hn)]
      unfold Lib.itoa
      rw [if_neg hn]
      unfold dd
      rw [if_neg (by omega), show n.toNat = n.natAbs by omega]
theorem FnExactDecimal : laws_FnExactDecimal.Pure := by
  intro n hn
  refine Ev.rounds (r := true) ?_
  simp only [laws_FnExactDecimal.f]
  have hb := wf64 hn
  exact Ev.bnd (spec_Decimal_ev n hb.1 hb.2) (Ev.bnd0 rfl (Ev.some_ (decide_eq_true rfl)))

end Go.Proofs.YtfaebcoembcfoaaDoor.Pure
