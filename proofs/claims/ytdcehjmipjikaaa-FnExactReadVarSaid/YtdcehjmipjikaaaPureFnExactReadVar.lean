/- The program's ReadVar returns what the reference's returns, for every text that the row reads and every place. -/
import Derived.Test.YtdcehjmipjikaaaPFnExactReadVarx2
import Derived.Test.YtdcehjmipjikaaaGen
namespace Go.Proofs.Ytdcehjmipjikaaa.Pure
open Go.RowKit Go.Proofs.Ytdcehjmipjikaaa.PFnExactReadVar Go.Proofs.YtdcehjmipjikaaaW.PrintWords Go.Proofs.YtdcehjmipjikaaaW.PrintLast Go.Proofs.YtdcehjmipjikaaaG

theorem spec_l01In_eq (a b c : Int) : spec_l01In.f a b c = some (decide (b ≤ a ∧ a ≤ c)) := by
  unfold spec_l01In.f
  by_cases h : a ≥ b
  · rw [if_pos h]; simp [h]
  · rw [if_neg h]; simp; omega
/-! spec.l01Var -/
theorem spec_l01Var_l0 : ∀ (f : Nat) (n : Int) (x : List Int), Fits f n → n ≤ 9223372036854775807 → x.length + f < 1000 → Ev (fun k => spec_l01Var.l0 k n x) (strOfNums (x ++ varF f n)) := by
  intro f
  induction f with
  | zero =>
    intro n x hf hn hx
    simp only [Fits] at hf
    refine Ev.succ ?_
    simp only [spec_l01Var.l0]
    exact Ev.neg (by omega) (Ev.pos (by omega) (Ev.some_ (by simp [varF])))
  | succ f ih =>
    intro n x hf hn hx
    simp only [Fits] at hf
    refine Ev.succ ?_
    simp only [spec_l01Var.l0]
    by_cases h : n > 127
    · refine Ev.pos h (Ev.pos (by omega) ?_)
      have e1 : wrap64 (Int.tdiv n 128) = n / 128 := by rw [Int.tdiv_eq_ediv_of_nonneg (by omega)]; exact w64 (by omega) (by omega)
      have e2 : (wrap64 ((Int.tmod n 128) + 128)) % 256 = n % 128 + 128 := by rw [Int.tmod_eq_emod_of_nonneg (by omega), w64 (by omega) (by omega)]; omega
      rw [e1, e2]
      refine Ev_eq (ih (n / 128) _ hf (by omega) (by simp; omega)) ?_
      simp [varF, h]
    · exact Ev.neg h (Ev.pos (by omega) (Ev.some_ (by simp [varF, h])))
theorem spec_l01Var_ev (n : Int) (hn : n ≤ 9223372036854775807) : Ev (fun k => spec_l01Var.f k n) (varB n) := by
  simp only [spec_l01Var.f]
  exact Ev_eq (spec_l01Var_l0 9 n [] (fits9 hn) hn (by simp)) (by simp [varB, varL])
/-! ReadVar: numbers read back -/
def valL : List Int → Int
  | [] => 0
  | d :: l => d % 128 + 128 * valL l
def pw : List Int → Int
  | [] => 1
  | _ :: l => 128 * pw l
theorem valL_snoc (b : Int) : ∀ l, valL (l ++ [b]) = valL l + b % 128 * pw l
  | [] => by simp [valL, pw]
  | d :: l => by
    simp only [List.cons_append, valL, pw, valL_snoc b l, Int.mul_add]
    rw [Int.mul_left_comm]
    omega
theorem pw_snoc (b : Int) : ∀ l, pw (l ++ [b]) = pw l * 128
  | [] => by simp [pw]
  | d :: l => by simp only [List.cons_append, pw, pw_snoc b l]; omega
theorem valL_nonneg : ∀ l, 0 ≤ valL l
  | [] => Int.le_refl _
  | d :: l => by have := valL_nonneg l; simp only [valL]; omega
/-- A number's bytes are the ones it was read from, unless a last byte is for nothing. -/
theorem canon (b : Int) (hb0 : 0 ≤ b) (hb : b < 128) : ∀ (l : List Int) (f : Nat), (∀ d ∈ l, 128 ≤ d ∧ d ≤ 255) → l.length ≤ f → (varF f (valL (l ++ [b])) = l ++ [b] ↔ ¬ (b = 0 ∧ l ≠ []))
  | [], 0, _, _ => by simp [varF, valL]; omega
  | [], f + 1, _, _ => by
    have : ¬ (b % 128 + 128 * 0 > 127) := by omega
    simp [varF, valL]
    rw [if_neg (by omega)]
    simp; omega
  | d :: l, 0, _, h => by simp at h
  | d :: l, f + 1, hl, h => by
    obtain ⟨h0, h1⟩ := hl d (by simp)
    have ih := canon b hb0 hb l f (fun x hx => hl x (by simp [hx])) (by simp at h; omega)
    have hp := valL_nonneg (l ++ [b])
    have hv : valL (d :: l ++ [b]) = d % 128 + 128 * valL (l ++ [b]) := rfl
    by_cases hm : valL (l ++ [b]) = 0
    · have hb' : b = 0 := by
        have key : ∀ l : List Int, valL (l ++ [b]) = 0 → b = 0 := by
          intro l
          induction l with
          | nil => intro h; simp [valL] at h; omega
          | cons x l ih => intro h; simp only [List.cons_append, valL] at h; have := valL_nonneg (l ++ [b]); exact ih (by omega)
        exact key l hm
      rw [hv, hm]
      have : ¬ (d % 128 + 128 * 0 > 127) := by omega
      simp only [varF]
      rw [if_neg this]
      constructor
      · intro h
        have := congrArg List.length h
        simp at this
      · intro h
        exact absurd ⟨hb', by simp⟩ h
    · rw [hv]
      have hgt : d % 128 + 128 * valL (l ++ [b]) > 127 := by omega
      simp only [varF]
      rw [if_pos hgt]
      have e1 : (d % 128 + 128 * valL (l ++ [b])) % 128 + 128 = d := by omega
      have e2 : (d % 128 + 128 * valL (l ++ [b])) / 128 = valL (l ++ [b]) := by omega
      rw [e1, e2]
      have : (d :: varF f (valL (l ++ [b])) = d :: l ++ [b]) ↔ (varF f (valL (l ++ [b])) = l ++ [b]) := by simp
      rw [this, ih]
      cases l with
      | nil => 
        simp [valL] at hm
        simp
        omega
      | cons x l => simp
def cap : Nat → Int
  | 0 => 34359738368
  | f + 1 => cap f / 128
theorem cap_le : ∀ f, cap f ≤ 34359738368
  | 0 => Int.le_refl _
  | f + 1 => by have := cap_le f; simp only [cap]; omega
/-- The number that is read from place i on; f: how many bytes may still come. -/
def readGo (s : ByteArray) : Nat → Int → Int → Int → Int × Int × Bool
  | 0, _, _, _ => (0, 0, false)
  | f + 1, i, n, u =>
    if i < (s.size : Int) then
      if bt s i ≥ 128 then readGo s f (i + 1) (n + bt s i % 128 * u) (u * 128)
      else if bt s i = 0 ∧ u > 1 ∨ n + bt s i % 128 * u > 1000000000 then (0, 0, false)
      else (n + bt s i % 128 * u, i + 1, true)
    else (0, 0, false)
def readVar (s : ByteArray) (a : Int) : Int × Int × Bool := if 0 ≤ a ∧ a ≤ (s.size : Int) then readGo s 5 a 0 1 else (0, 0, false)
theorem take_snoc (l : List Int) (a j : Nat) (h : a + j < l.length) : (l.drop a).take (j + 1) = (l.drop a).take j ++ [rd l ((a + j : Nat) : Int)] := by
  rw [List.take_succ_eq_append_getElem (by simp; omega)]
  have e : (((a + j : Nat) : Int)).toNat = a + j := by omega
  simp only [rd, e, List.getD, List.getElem?_eq_getElem h, List.getElem_drop, Option.getD_some]
theorem step_all (b u c n : Int) (hu : 0 ≤ u) (hu1 : u ≤ c) (hc : c ≤ 268435456) (hn : 0 ≤ n) (hn1 : n < u) :
    ∃ n' : Int, n + b % 128 * u = n' ∧ wrap64 (b % 128 * u) = b % 128 * u ∧ wrap64 (n + b % 128 * u) = n' ∧ wrap64 (u * 128) = u * 128 ∧ 0 ≤ n' ∧ n' < u * 128 ∧ n' ≤ 68719476736 := by
  have h0 : 0 ≤ b % 128 * u := Int.mul_nonneg (by omega) hu
  have h1 : b % 128 * u ≤ 127 * u := Int.mul_le_mul_of_nonneg_right (by omega) hu
  generalize b % 128 * u = p at *
  exact ⟨_, rfl, w64 (by omega) (by omega), w64 (by omega) (by omega), w64 (by omega) (by omega), by omega, by omega, by omega⟩
theorem pw_pos : ∀ l, 1 ≤ pw l
  | [] => Int.le_refl _
  | _ :: l => by have := pw_pos l; simp only [pw]; omega
theorem pw_one : ∀ l, pw l > 1 ↔ l ≠ []
  | [] => by simp [pw]
  | _ :: l => by have := pw_pos l; simp [pw]; omega
/-- The text that a number was read from is its own form, unless its last byte is for nothing. -/
theorem text_canon (s : ByteArray) (a j : Nat) (v u : Int) (h : a + j < s.size) (hd : ∀ d ∈ ((bytesOf s).drop a).take j, 128 ≤ d ∧ d ≤ 255) (hj : j ≤ 9) (h1 : bt s ((a + j : Nat) : Int) < 128)
    (hv : v = valL (((bytesOf s).drop a).take (j + 1))) (hu : u = pw (((bytesOf s).drop a).take j)) :
    (varB v).toList = (s.extract (a : Int).toNat ((a + (j + 1) : Nat) : Int).toNat).toList ↔ ¬ (bt s ((a + j : Nat) : Int) = 0 ∧ u > 1) := by
  have hb := bt_range s ((a + j : Nat) : Int)
  have hts := take_snoc (bytesOf s) a j (by rw [bytesOf_length]; exact h)
  rw [rd_bytesOf] at hts
  have hcan := canon (bt s ((a + j : Nat) : Int)) hb.1 h1 _ 9 hd (by rw [List.length_take]; omega)
  rw [← hts, ← hv] at hcan
  have hby : bytesOf (s.extract (a : Int).toNat ((a + (j + 1) : Nat) : Int).toNat) = ((bytesOf s).drop a).take (j + 1) := by
    rw [bytesOf_extract]
    have e1 : ((a : Int)).toNat = a := by omega
    have e2 : ((a + (j + 1) : Nat) : Int).toNat - a = j + 1 := by omega
    rw [e1, e2]
  have hc2 : varL v = ((bytesOf s).drop a).take (j + 1) ↔ ¬ (bt s ((a + j : Nat) : Int) = 0 ∧ u > 1) := by
    rw [hu, pw_one]
    exact hcan
  rw [toList_iff, ← hc2, ← varB_bytes, ← hby]
  exact ⟨fun h => by rw [h], fun h => bytesOf_inj h⟩
theorem spec_ReadVar_l0 (s : ByteArray) (hs : s.size ≤ 140737488351232) (a : Nat) : ∀ (f j : Nat) (n u : Int), j + f = 5 → a + j ≤ s.size → (∀ d ∈ ((bytesOf s).drop a).take j, 128 ≤ d ∧ d ≤ 255) → n = valL (((bytesOf s).drop a).take j) → u = pw (((bytesOf s).drop a).take j) → n < u → u ≤ cap f →
    Ev (fun k => spec_ReadVar.l0 k s (a : Int) n u ((a + j : Nat) : Int)) (readGo s f ((a + j : Nat) : Int) n u) := by
  intro f
  induction f with
  | zero =>
    intro j n u hj ha hd hn hu hnu hc
    refine Ev.succ ?_
    simp only [spec_ReadVar.l0]
    rw [show wrap64 ((a : Int) + 5) = a + 5 from w64 (by omega) (by omega)]
    by_cases h : ((a + j : Nat) : Int) < (s.size : Int)
    · refine Ev.pos h (Ev.succ ?_)
      simp only [spec_ReadVar.j1]
      exact Ev.neg (by simp; omega) (Ev.some_ rfl)
    · refine Ev.neg h (Ev.succ ?_)
      simp only [spec_ReadVar.j1]
      exact Ev.neg (by simp) (Ev.some_ rfl)
  | succ f ih =>
    intro j n u hj ha hd hn hu hnu hc
    refine Ev.succ ?_
    simp only [spec_ReadVar.l0]
    rw [show wrap64 ((a : Int) + 5) = a + 5 from w64 (by omega) (by omega)]
    by_cases h : ((a + j : Nat) : Int) < (s.size : Int)
    · refine Ev.pos h (Ev.succ ?_)
      simp only [spec_ReadVar.j1]
      have hts := take_snoc (bytesOf s) a j (by rw [bytesOf_length]; omega)
      rw [rd_bytesOf] at hts
      rw [show wrap64 (((a + j : Nat) : Int) + 1) = ((a + (j + 1) : Nat) : Int) from by rw [w64 (by omega) (by omega)]; omega]
      have hb := bt_range s ((a + j : Nat) : Int)
      rw [show wrap64 (bt s ((a + j : Nat) : Int)) = bt s ((a + j : Nat) : Int) from w64 (by omega) (by omega), show Int.tmod (bt s ((a + j : Nat) : Int)) 128 = bt s ((a + j : Nat) : Int) % 128 from Int.tmod_eq_emod_of_nonneg hb.1]
      have hcl := cap_le f
      have hn0 : 0 ≤ n := hn ▸ valL_nonneg _
      have hu0 : 1 ≤ u := hu ▸ pw_pos _
      simp only [cap] at hc
      obtain ⟨n', hn', e3, e4, e6, q0, q1, q2⟩ := step_all (bt s ((a + j : Nat) : Int)) u (cap f / 128) n (by omega) hc (by omega) hn0 hnu
      rw [e3, e4, e6]
      clear e3 e4 e6
      have hval : n' = valL (((bytesOf s).drop a).take (j + 1)) := by rw [hts, valL_snoc, ← hn, ← hu, hn']
      have hpw : u * 128 = pw (((bytesOf s).drop a).take (j + 1)) := by rw [hts, pw_snoc, ← hu]
      refine Ev.pos (by simp; omega) (Ev.pos (by omega) (Ev.pos h ?_))
      have hgo : readGo s (f + 1) ((a + j : Nat) : Int) n u = if bt s ((a + j : Nat) : Int) ≥ 128 then readGo s f (((a + j : Nat) : Int) + 1) n' (u * 128)
          else if bt s ((a + j : Nat) : Int) = 0 ∧ u > 1 ∨ n' > 1000000000 then (0, 0, false)
          else (n', ((a + j : Nat) : Int) + 1, true) := by simp only [readGo]; rw [if_pos h, hn']
      clear hn'
      by_cases h1 : bt s ((a + j : Nat) : Int) < 128
      · refine Ev.pos h1 ?_
        by_cases h2 : n' > 1000000000
        · exact Ev.pos h2 (Ev.some_ (by rw [hgo, if_neg (by omega), if_pos (Or.inr h2)]))
        refine Ev.neg h2 (Ev.bnd (spec_l01Var_ev _ (by omega)) (Ev.pos (by omega) (Ev.pos (by omega) (Ev.pos (by omega) ?_))))
        have hx := text_canon s a j (n') u (by omega) hd (by omega) h1 hval hu
        by_cases h3 : bt s ((a + j : Nat) : Int) = 0 ∧ u > 1
        · exact Ev.neg (fun h => hx.1 h h3) (Ev.some_ (by rw [hgo, if_neg (by omega), if_pos (Or.inl h3)]))
        · exact Ev.pos (hx.2 h3) (Ev.some_ (by rw [hgo, if_neg (by omega), if_neg (by intro h; rcases h with h | h; exact h3 h; exact h2 h)]; simp; omega))
      · refine Ev.neg h1 ?_
        rw [hgo, if_pos (by omega)]
        have := ih (j + 1) n' (u * 128) (by omega) (by omega) (by
          rw [hts]
          intro d hd'
          rcases List.mem_append.1 hd' with hd' | hd'
          · exact hd d hd'
          · rw [List.mem_singleton.1 hd']; omega) hval hpw (by omega) (by omega)
        have e7 : ((a + j : Nat) : Int) + 1 = ((a + (j + 1) : Nat) : Int) := by omega
        rw [e7]
        exact this
    · refine Ev.neg h (Ev.succ ?_)
      simp only [spec_ReadVar.j1]
      exact Ev.neg (by simp) (Ev.some_ (by simp only [readGo]; rw [if_neg h]))
theorem spec_ReadVar_ev (s : ByteArray) (hs : s.size ≤ 140737488351232) (a : Int) : Ev (fun k => spec_ReadVar.f k s a) (readVar s a) := by
  simp only [spec_ReadVar.f]
  refine Ev.bnd0 (spec_l01In_eq _ _ _) ?_
  by_cases h : 0 ≤ a ∧ a ≤ (s.size : Int)
  · refine Ev.pos (by simpa using h) ?_
    rw [readVar, if_pos h]
    obtain ⟨a, rfl⟩ := Int.eq_ofNat_of_zero_le h.1
    have := spec_ReadVar_l0 s hs a 5 0 0 1 rfl (by omega) (by simp) (by simp [valL]) (by simp [pw]) (by omega) (by simp [cap])
    exact this
  · exact Ev.neg (by simpa using h) (Ev.some_ (by rw [readVar, if_neg h]))
theorem impl_ReadVar_l0 (s : ByteArray) (hs : s.size ≤ 140737488351232) (a : Int) (ha0 : 0 ≤ a) (ha1 : a ≤ s.size) : ∀ (f : Nat) (j n u : Int), j + f = 5 → 0 ≤ j → (u > 1 ↔ j > 0) → 0 ≤ n → n < u → u ≤ cap f →
    Ev (fun k => impl_ReadVar.l0 k s a n u j) (readGo s f (a + j) n u) := by
  intro f
  induction f with
  | zero =>
    intro j n u hj hj0 hju hn hnu hc
    refine Ev.succ ?_
    simp only [impl_ReadVar.l0]
    refine Ev.neg (by omega) (Ev.succ ?_)
    simp only [impl_ReadVar.j2]
    exact Ev.neg (by simp) (Ev.some_ rfl)
  | succ f ih =>
    intro j n u hj hj0 hju hn hnu hc
    refine Ev.succ ?_
    simp only [impl_ReadVar.l0]
    refine Ev.pos (by omega) (Ev.succ ?_)
    simp only [impl_ReadVar.j2]
    rw [show wrap64 (a + j) = a + j from w64 (by omega) (by omega)]
    by_cases h : a + j < (s.size : Int)
    · refine Ev.pos (by simpa using h) (Ev.pos (by omega) (Ev.pos h ?_))
      have hb := bt_range s (a + j)
      rw [show wrap64 (bt s (a + j)) = bt s (a + j) from w64 (by omega) (by omega), show Int.tmod (bt s (a + j)) 128 = bt s (a + j) % 128 from Int.tmod_eq_emod_of_nonneg hb.1, show wrap64 (j + 1) = j + 1 from w64 (by omega) (by omega), show wrap64 (a + j + 1) = a + j + 1 from w64 (by omega) (by omega)]
      have hcl := cap_le f
      simp only [cap] at hc
      obtain ⟨n', hn', e3, e4, e6, q0, q1, q2⟩ := step_all (bt s (a + j)) u (cap f / 128) n (by omega) hc (by omega) hn hnu
      rw [e3, e4, e6]
      clear e3 e4 e6
      have hgo : readGo s (f + 1) (a + j) n u = if bt s (a + j) ≥ 128 then readGo s f ((a + j) + 1) n' (u * 128)
          else if bt s (a + j) = 0 ∧ u > 1 ∨ n' > 1000000000 then (0, 0, false)
          else (n', (a + j) + 1, true) := by simp only [readGo]; rw [if_pos h, hn']
      clear hn'
      by_cases h1 : bt s (a + j) ≥ 128
      · refine Ev.pos h1 ?_
        rw [hgo, if_pos h1]
        have := ih (j + 1) n' (u * 128) (by omega) (by omega) (by omega) (by omega) (by omega) (by omega)
        have e8 : a + j + 1 = a + (j + 1) := by omega
        rw [e8]
        exact this
      · refine Ev.neg h1 ?_
        by_cases h0 : bt s (a + j) = 0
        · refine Ev.pos h0 ?_
          by_cases hj1 : j > 0
          · exact Ev.pos hj1 (Ev.some_ (by rw [hgo, if_neg h1, if_pos (Or.inl ⟨h0, hju.2 hj1⟩)]))
          refine Ev.neg hj1 ?_
          by_cases h2 : n' > 1000000000
          · exact Ev.pos h2 (Ev.some_ (by rw [hgo, if_neg h1, if_pos (Or.inr h2)]))
          · exact Ev.neg h2 (Ev.some_ (by rw [hgo, if_neg h1, if_neg (by intro h; rcases h with h | h; exact hj1 (hju.1 h.2); exact h2 h)]))
        · refine Ev.neg h0 ?_
          by_cases h2 : n' > 1000000000
          · exact Ev.pos h2 (Ev.some_ (by rw [hgo, if_neg h1, if_pos (Or.inr h2)]))
          · exact Ev.neg h2 (Ev.some_ (by rw [hgo, if_neg h1, if_neg (by intro h; rcases h with h | h; exact h0 h.1; exact h2 h)]))
    · exact Ev.neg (by simpa using h) (Ev.some_ (by simp only [readGo]; rw [if_neg h]))
theorem impl_ReadVar_ev (s : ByteArray) (hs : s.size ≤ 140737488351232) (a : Int) : Ev (fun k => impl_ReadVar.f k s a) (readVar s a) := by
  simp only [impl_ReadVar.f]
  by_cases h : a < 0
  · refine Ev.pos h (Ev.succ ?_)
    simp only [impl_ReadVar.j0]
    exact Ev.pos trivial (Ev.some_ (by rw [readVar, if_neg (by omega)]))
  refine Ev.neg h (Ev.succ ?_)
  simp only [impl_ReadVar.j0]
  by_cases h1 : a > (s.size : Int)
  · exact Ev.pos (by simpa using h1) (Ev.some_ (by rw [readVar, if_neg (by omega)]))
  · refine Ev.neg (by simpa using h1) ?_
    rw [readVar, if_pos (by omega)]
    have := impl_ReadVar_l0 s hs a (by omega) (by omega) 5 0 0 1 rfl (by omega) (by omega) (by omega) (by omega) (by simp [cap])
    rw [Int.add_zero] at this
    exact this
theorem FnExactReadVar : laws_FnExactReadVar.Pure := by
  intro s a hs _
  refine Ev.rounds (r := true) ?_
  simp only [laws_FnExactReadVar.f]
  by_cases h : (s.size : Int) > 1048576
  · exact Ev.pos h (Ev.now _)
  · refine Ev.neg h (Ev.bnd (spec_ReadVar_ev s hs a) (Ev.bnd (impl_ReadVar_ev s hs a) ?_))
    simp only [if_true, bne_self_eq_false, Bool.false_eq_true, if_false]
    exact Ev.now _

end Go.Proofs.Ytdcehjmipjikaaa.Pure
