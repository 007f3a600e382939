/- The program's VarText returns what the reference's returns, for every number. -/
import Derived.Test.YtdcehjmipjikaaaPFnExactVarTextx1
import Derived.Test.YtdcehjmipjikaaaGen
namespace Go.Proofs.Ytdcehjmipjikaaa.Pure
open Go.RowKit Go.Proofs.Ytdcehjmipjikaaa.PFnExactVarText Go.Proofs.YtdcehjmipjikaaaW.PrintWords Go.Proofs.YtdcehjmipjikaaaW.PrintLast Go.Proofs.YtdcehjmipjikaaaG

theorem spec_l01In_eq (a b c : Int) : spec_l01In.f a b c = some (decide (b ≤ a ∧ a ≤ c)) := by
  unfold spec_l01In.f
  by_cases h : a ≥ b
  · rw [if_pos h]; simp [h]
  · rw [if_neg h]; simp; omega
/-! spec.l01Var -/
theorem spec_l01Var_l0 : ∀ (f : Nat) (n : Int) (x : List Int), Fits f n → n ≤ 9223372036854775807 → x.length + f < 1000 → Ev (fun k => spec_l01Var.l0 k n x) (strOfNums (x ++ varF f n)) := by
  intro f
  induction f with
  | zero =>
    intro n x hf hn hx
    simp only [Fits] at hf
    refine Ev.succ ?_
    simp only [spec_l01Var.l0]
    exact Ev.neg (by omega) (Ev.pos (by omega) (Ev.some_ (by simp [varF])))
  | succ f ih =>
    intro n x hf hn hx
    simp only [Fits] at hf
    refine Ev.succ ?_
    simp only [spec_l01Var.l0]
    by_cases h : n > 127
    · refine Ev.pos h (Ev.pos (by omega) ?_)
      have e1 : wrap64 (Int.tdiv n 128) = n / 128 := by rw [Int.tdiv_eq_ediv_of_nonneg (by omega)]; exact w64 (by omega) (by omega)
      have e2 : (wrap64 ((Int.tmod n 128) + 128)) % 256 = n % 128 + 128 := by rw [Int.tmod_eq_emod_of_nonneg (by omega), w64 (by omega) (by omega)]; omega
      rw [e1, e2]
      refine Ev_eq (ih (n / 128) _ hf (by omega) (by simp; omega)) ?_
      simp [varF, h]
    · exact Ev.neg h (Ev.pos (by omega) (Ev.some_ (by simp [varF, h])))
theorem spec_l01Var_ev (n : Int) (hn : n ≤ 9223372036854775807) : Ev (fun k => spec_l01Var.f k n) (varB n) := by
  simp only [spec_l01Var.f]
  exact Ev_eq (spec_l01Var_l0 9 n [] (fits9 hn) hn (by simp)) (by simp [varB, varL])

/-! impl.varText -/
theorem impl_varText_l0 : ∀ (f : Nat) (n : Int) (x : List Int), Fits f n → n ≤ 9223372036854775807 → x.length + f < 1000 → Ev (fun k => impl_varText.l0 k n x) (strOfNums (x ++ varF f n)) := by
  intro f
  induction f with
  | zero =>
    intro n x hf hn hx
    simp only [Fits] at hf
    refine Ev.succ ?_
    simp only [impl_varText.l0]
    exact Ev.neg (by omega) (Ev.pos (by omega) (Ev.some_ (by simp [varF])))
  | succ f ih =>
    intro n x hf hn hx
    simp only [Fits] at hf
    refine Ev.succ ?_
    simp only [impl_varText.l0]
    by_cases h : n > 127
    · refine Ev.pos h (Ev.pos (by omega) ?_)
      have e1 : wrap64 (Int.tdiv n 128) = n / 128 := by rw [Int.tdiv_eq_ediv_of_nonneg (by omega)]; exact w64 (by omega) (by omega)
      have e2 : (wrap64 (128 + (Int.tmod n 128))) % 256 = n % 128 + 128 := by rw [Int.tmod_eq_emod_of_nonneg (by omega), w64 (by omega) (by omega)]; omega
      rw [e1, e2]
      refine Ev_eq (ih (n / 128) _ hf (by omega) (by simp; omega)) ?_
      simp [varF, h]
    · exact Ev.neg h (Ev.pos (by omega) (Ev.some_ (by simp [varF, h])))
theorem impl_varText_ev (n : Int) (hn : n ≤ 9223372036854775807) : Ev (fun k => impl_varText.f k n) (varB n) := by
  simp only [impl_varText.f]
  exact Ev_eq (impl_varText_l0 9 n [] (fits9 hn) hn (by simp)) (by simp [varB, varL])
def varText (n : Int) : ByteArray × Bool := if 0 ≤ n ∧ n ≤ 1000000000 then (varB n, true) else ((⟨#[]⟩ : ByteArray), false)
theorem spec_VarText_ev (n : Int) : Ev (fun k => spec_VarText.f k n) (varText n) := by
  simp only [spec_VarText.f]
  refine Ev.bnd0 (spec_l01In_eq _ _ _) ?_
  by_cases h : 0 ≤ n ∧ n ≤ 1000000000
  · refine Ev.pos (by simp [h]) (Ev.bnd (spec_l01Var_ev n (by omega)) (Ev.some_ (by rw [varText, if_pos h])))
  · exact Ev.neg (by simpa using h) (Ev.some_ (by rw [varText, if_neg h]))
theorem impl_VarText_ev (n : Int) : Ev (fun k => impl_VarText.f k n) (varText n) := by
  simp only [impl_VarText.f]
  by_cases h0 : n < 0
  · exact Ev.pos h0 (Ev.some_ (by rw [varText, if_neg (by omega)]))
  refine Ev.neg h0 ?_
  by_cases h1 : n > 1000000000
  · exact Ev.pos h1 (Ev.some_ (by rw [varText, if_neg (by omega)]))
  · exact Ev.neg h1 (Ev.bnd (impl_varText_ev n (by omega)) (Ev.some_ (by rw [varText, if_pos (by omega)])))
theorem Ev_sb (r : ByteArray × Bool) : Ev (fun _ => if r.1.toList = r.1.toList then (if (r.2 != r.2) = true then (some false) else (some true)) else (some false)) true := by
  simp only [if_true, bne_self_eq_false, Bool.false_eq_true, if_false]
  exact Ev.now _
theorem FnExactVarText : laws_FnExactVarText.Pure := by
  intro n _
  refine Ev.rounds (r := true) ?_
  simp only [laws_FnExactVarText.f]
  exact Ev.bnd (spec_VarText_ev n) (Ev.bnd (impl_VarText_ev n) (Ev_sb _))

end Go.Proofs.Ytdcehjmipjikaaa.Pure
