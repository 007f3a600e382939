/- The program's LineOk returns what the reference's returns, for every text that the row reads. -/
import Derived.Test.YtpojmcpfgllbfaaPFnExactLineOkx1
import Derived.Test.YtpojmcpfgllbfaaGen
namespace Go.Proofs.Ytpojmcpfgllbfaa.Pure
open Go.RowKit Go.Proofs.Ytpojmcpfgllbfaa.PFnExactLineOk Go.Proofs.YtpojmcpfgllbfaaW.PrintWords Go.Proofs.YtpojmcpfgllbfaaW.PrintLast Go.Proofs.YtpojmcpfgllbfaaG

theorem spec_LineOk_ev (s : ByteArray) (hs : s.size ≤ 140737488351232) : Ev (fun k => spec_LineOk.f k s) (lineOk s) := by
  simp only [spec_LineOk.f]
  have key : ∀ (n i : Nat), i + n = s.size → Ev (fun k => spec_LineOk.l0 k s (i : Int)) (decide ((10 : Int) ∉ (bytesOf s).drop i ∧ s.size ≤ 60)) := by
    intro n
    induction n with
    | zero =>
      intro i hi
      refine Ev.succ ?_
      simp only [spec_LineOk.l0]
      refine Ev.neg (by omega) (Ev.some_ ?_)
      rw [drop_end _ _ (by rw [bytesOf_length]; omega)]
      simp
      omega
    | succ n ih =>
      intro i hi
      refine Ev.succ ?_
      simp only [spec_LineOk.l0]
      refine Ev.pos (by omega) (Ev.pos (by omega) ?_)
      rw [up1 i (by omega), drop_bt s i (by omega)]
      by_cases h : bt s (i : Int) = 10
      · exact Ev.pos h (Ev.some_ (by simp [h]))
      · refine Ev.neg h (Ev_eq (ih (i + 1) (by omega)) ?_)
        have : ((10 : Int) ∉ bt s (i : Int) :: (bytesOf s).drop (i + 1)) ↔ ((10 : Int) ∉ (bytesOf s).drop (i + 1)) := by
          rw [List.mem_cons]
          constructor
          · intro h1 h2; exact h1 (.inr h2)
          · intro h1 h2
            rcases h2 with h2 | h2
            · exact h h2.symm
            · exact h1 h2
        simp only [this]
  exact key s.size 0 (by omega)
theorem impl_LineOk_eq (s : ByteArray) : impl_LineOk.f s = some (lineOk s) := by
  simp only [impl_LineOk.f]
  by_cases h : (s.size : Int) ≤ 60
  · rw [if_pos h]
    simp only [strings_Contains.f]
    rw [if_pos (by rfl)]
    simp only [Option.bind_some]
    congr 1
    have h1 := indexByte_mem 10 s.data.toList
    have h2 := byte_mem s 10
    simp only [lineOk]
    rw [← decide_not]
    congr 1
    rw [show (⟨#[10]⟩ : ByteArray).data.toList.headD 0 = (10 : UInt8) from rfl, h1, h2]
    simp only [eq_iff_iff]
    constructor
    · intro h3; exact ⟨h3, by omega⟩
    · intro h3; exact h3.1
  · rw [if_neg h]
    congr 1
    simp only [lineOk]
    symm
    rw [decide_eq_false_iff_not]
    omega
theorem FnExactLineOk : laws_FnExactLineOk.Pure := by
  intro s hs
  refine Ev.rounds (r := true) ?_
  simp only [laws_FnExactLineOk.f]
  by_cases h : (s.size : Int) > 1048576
  · exact Ev.pos h (Ev.now _)
  · exact Ev.neg h (Ev.bnd (spec_LineOk_ev s hs) (Ev.bnd0 (impl_LineOk_eq s) (Ev.neg (by simp) (Ev.now _))))

end Go.Proofs.Ytpojmcpfgllbfaa.Pure
