/- The program's Hex returns what the reference's returns, for every text. -/
import Derived.Test.YtdcehjmipjikaaaPFnExactHexx1
import Derived.Test.YtdcehjmipjikaaaGen
namespace Go.Proofs.Ytdcehjmipjikaaa.Pure
open Go.RowKit Go.Proofs.Ytdcehjmipjikaaa.PFnExactHex Go.Proofs.YtdcehjmipjikaaaW.PrintWords Go.Proofs.YtdcehjmipjikaaaW.PrintLast Go.Proofs.YtdcehjmipjikaaaG

/-- A figure of base 16. -/
def fig (d : Int) : Int := if d < 10 then 48 + d else 87 + d
def hexL : List Int → List Int
  | [] => []
  | b :: l => fig (b / 16) :: fig (b % 16) :: hexL l
def hexR (s : ByteArray) : ByteArray × Bool := if (s.size : Int) > 60000 then (⟨#[]⟩, false) else (strOfNums (hexL (bytesOf s)), true)
theorem spec_fig (d : Int) (h0 : 0 ≤ d) (h1 : d < 16) : spec_l01Figure.f d = some (fig d) := by
  unfold spec_l01Figure.f fig
  by_cases h : d < 10
  · rw [if_pos h, if_pos h, w64 (by omega) (by omega)]
    congr 1; omega
  · rw [if_neg h, if_neg h, show wrap64 (97 + d) = 97 + d from w64 (by omega) (by omega), show wrap64 (97 + d - 10) = 97 + d - 10 from w64 (by omega) (by omega)]
    congr 1; omega
theorem dig_fig (d : Int) (h0 : 0 ≤ d) (h1 : d < 16) : bt (⟨#[48, 49, 50, 51, 52, 53, 54, 55, 56, 57, 97, 98, 99, 100, 101, 102]⟩ : ByteArray) d = fig d := by
  obtain ⟨n, rfl⟩ := Int.eq_ofNat_of_zero_le h0
  have hn : n < 16 := by omega
  have key : ∀ m : Fin 16, bt (⟨#[48, 49, 50, 51, 52, 53, 54, 55, 56, 57, 97, 98, 99, 100, 101, 102]⟩ : ByteArray) ((m.val : Nat) : Int) = fig ((m.val : Nat) : Int) := by decide
  exact key ⟨n, hn⟩
theorem spec_Hex_ev (s : ByteArray) (hs : s.size ≤ 140737488351232) : Ev (fun k => spec_Hex.f k s) (hexR s) := by
  simp only [spec_Hex.f]
  unfold hexR
  by_cases hb : (s.size : Int) > 60000
  · rw [if_pos hb]
    exact Ev.pos hb (Ev.now _)
  rw [if_neg hb]
  refine Ev.neg hb ?_
  have key : ∀ (n i : Nat) (acc : List Int), i + n = s.size → acc.length = 2 * i → Ev (fun k => spec_Hex.l0 k s acc (i : Int)) (strOfNums (acc ++ hexL ((bytesOf s).drop i)), true) := by
    intro n
    induction n with
    | zero =>
      intro i acc hi hl
      refine Ev.succ ?_
      simp only [spec_Hex.l0]
      refine Ev.neg (by omega) (Ev.some_ ?_)
      rw [List.drop_eq_nil_of_le (by rw [bytesOf_length]; omega), hexL, List.append_nil]
    | succ n ih =>
      intro i acc hi hl
      refine Ev.succ ?_
      simp only [spec_Hex.l0]
      rw [up1 i (by omega), drop_bt s i (by omega)]
      have hbt := bt_range s (i : Int)
      generalize bt s (i : Int) = b at hbt ⊢
      rw [show wrap64 b = b from w64 (by omega) (by omega), Int.tdiv_eq_ediv_of_nonneg hbt.1, Int.tmod_eq_emod_of_nonneg hbt.1, show wrap64 (b / 16) = b / 16 from w64 (by omega) (by omega)]
      refine Ev.pos (by omega) (Ev.pos (by omega) (Ev.bnd0 (spec_fig _ (by omega) (by omega)) (Ev.bnd0 (spec_fig _ (by omega) (by omega)) (Ev.bnd0 rfl (Ev.pos (by simp; omega) ?_)))))
      have := ih (i + 1) (acc ++ [fig (b / 16), fig (b % 16)]) (by omega) (by simp; omega)
      rw [List.append_assoc] at this
      exact this
  exact key s.size 0 [] (by omega) rfl
theorem impl_Hex_ev (s : ByteArray) (hs : s.size ≤ 140737488351232) : Ev (fun k => impl_Hex.f k s) (hexR s) := by
  simp only [impl_Hex.f]
  unfold hexR
  by_cases hb : (s.size : Int) > 60000
  · rw [if_pos hb]
    exact Ev.pos hb (Ev.now _)
  rw [if_neg hb]
  rw [show wrap64 (2 * (s.size : Int)) = 2 * (s.size : Int) from w64 (by omega) (by omega)]
  refine Ev.neg hb (Ev.pos (by omega) (Ev.pos (by omega) ?_))
  have key : ∀ (n i : Nat) (acc : List Int), i + n = s.size → acc.length = 2 * i → Ev (fun k => impl_Hex.l0 k s (⟨#[48, 49, 50, 51, 52, 53, 54, 55, 56, 57, 97, 98, 99, 100, 101, 102]⟩ : ByteArray) acc (i : Int)) (strOfNums (acc ++ hexL ((bytesOf s).drop i)), true) := by
    intro n
    induction n with
    | zero =>
      intro i acc hi hl
      refine Ev.succ ?_
      simp only [impl_Hex.l0]
      refine Ev.neg (by omega) (Ev.some_ ?_)
      rw [List.drop_eq_nil_of_le (by rw [bytesOf_length]; omega), hexL, List.append_nil]
    | succ n ih =>
      intro i acc hi hl
      refine Ev.succ ?_
      simp only [impl_Hex.l0]
      rw [up1 i (by omega), drop_bt s i (by omega)]
      have hbt := bt_range s (i : Int)
      generalize bt s (i : Int) = b at hbt ⊢
      rw [u8_and15 b hbt.1 (by omega), dig_fig (b / 16) (by omega) (by omega), dig_fig (b % 16) (by omega) (by omega)]
      have hz : ((⟨#[48, 49, 50, 51, 52, 53, 54, 55, 56, 57, 97, 98, 99, 100, 101, 102]⟩ : ByteArray).size : Int) = 16 := rfl
      rw [hz]
      refine Ev.pos (by omega) (Ev.pos (by omega) (Ev.pos (by omega) (Ev.pos (by omega) (Ev.pos (by omega) (Ev.pos (by omega) (Ev.bnd0 rfl (Ev.pos (by simp; omega) ?_)))))))
      have := ih (i + 1) (acc ++ [fig (b / 16), fig (b % 16)]) (by omega) (by simp; omega)
      rw [List.append_assoc] at this
      exact this
  exact key s.size 0 [] (by omega) rfl
theorem FnExactHex : laws_FnExactHex.Pure := by
  intro s hs
  refine Ev.rounds (r := true) ?_
  simp only [laws_FnExactHex.f]
  by_cases hb : (s.size : Int) > 1048576
  · exact Ev.pos hb (Ev.now _)
  · exact Ev.neg hb (Ev.bnd (spec_Hex_ev s hs) (Ev.bnd (impl_Hex_ev s hs) (Ev.pos (by first | rfl | trivial) (Ev.neg (by simp) (Ev.now _)))))

end Go.Proofs.Ytdcehjmipjikaaa.Pure
