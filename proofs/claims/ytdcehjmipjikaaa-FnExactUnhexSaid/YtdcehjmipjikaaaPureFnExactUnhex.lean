/- The program's Unhex returns what the reference's returns, for every text. -/
import Derived.Test.YtdcehjmipjikaaaPFnExactUnhexx1
import Derived.Test.YtdcehjmipjikaaaGen
namespace Go.Proofs.Ytdcehjmipjikaaa.Pure
open Go.RowKit Go.Proofs.Ytdcehjmipjikaaa.PFnExactUnhex Go.Proofs.YtdcehjmipjikaaaW.PrintWords Go.Proofs.YtdcehjmipjikaaaW.PrintLast Go.Proofs.YtdcehjmipjikaaaG

/-- What a figure of base 16 stands for, or -1. -/
def val (b : Int) : Int := if 48 ≤ b ∧ b ≤ 57 then b - 48 else if 97 ≤ b ∧ b ≤ 102 then b - 87 else -1
theorem val_lt (b : Int) : -1 ≤ val b ∧ val b < 16 := by
  unfold val
  split
  · omega
  · split <;> omega
def unhexGo : List Int → List Int → ByteArray × Bool
  | a :: b :: l, acc => if val a < 0 then (⟨#[]⟩, false) else if val b < 0 then (⟨#[]⟩, false) else unhexGo l (acc ++ [16 * val a + val b])
  | [_], acc => (strOfNums acc, true)
  | [], acc => (strOfNums acc, true)
def unhexR (s : ByteArray) : ByteArray × Bool := if (s.size : Int) % 2 ≠ 0 ∨ (s.size : Int) > 120000 then (⟨#[]⟩, false) else unhexGo (bytesOf s) []
theorem spec_val (b : Int) (h0 : 0 ≤ b) (h1 : b ≤ 255) : Ev (fun k => spec_l01Value.f k b) (val b) := by
  simp only [spec_l01Value.f]
  by_cases h : b ≥ 48
  · refine Ev.pos h (Ev.succ ?_)
    simp only [spec_l01Value.j0]
    by_cases h2 : b ≤ 57
    · have hv : val b = b - 48 := by unfold val; rw [if_pos ⟨h, h2⟩]
      refine Ev.pos (decide_eq_true h2) (Ev.some_ ?_)
      rw [hv, show wrap64 b = b from w64 (by omega) (by omega)]
      exact w64 (by omega) (by omega)
    · refine Ev.neg (fun x => h2 (of_decide_eq_true x)) ?_
      by_cases h3 : b ≥ 97
      · refine Ev.pos h3 ?_
        by_cases h4 : b ≤ 102
        · have hv : val b = b - 87 := by unfold val; rw [if_neg (fun x => h2 x.2), if_pos ⟨h3, h4⟩]
          refine Ev.pos h4 (Ev.some_ ?_)
          rw [hv, show wrap64 b = b from w64 (by omega) (by omega), show wrap64 (b - 97) = b - 97 from w64 (by omega) (by omega), show wrap64 (b - 97 + 10) = b - 97 + 10 from w64 (by omega) (by omega)]
          omega
        · have hv : val b = -1 := by unfold val; rw [if_neg (fun x => h2 x.2), if_neg (fun x => h4 x.2)]
          exact Ev.neg h4 (Ev.some_ hv.symm)
      · have hv : val b = -1 := by unfold val; rw [if_neg (fun x => h2 x.2), if_neg (fun x => h3 x.1)]
        exact Ev.neg h3 (Ev.some_ hv.symm)
  · have hv : val b = -1 := by unfold val; rw [if_neg (fun x => h x.1), if_neg (by omega)]
    refine Ev.neg h (Ev.succ ?_)
    simp only [spec_l01Value.j0]
    exact Ev.neg (by simp) (Ev.neg (by omega) (Ev.some_ hv.symm))
set_option maxRecDepth 100000 in
theorem index_key : ∀ m : Fin 256, Lib.indexByte (⟨#[48, 49, 50, 51, 52, 53, 54, 55, 56, 57, 97, 98, 99, 100, 101, 102]⟩ : ByteArray).data.toList (m.val.toUInt8) = val ((m.val : Nat) : Int) := by decide
theorem index_val (b : Int) (h0 : 0 ≤ b) (h1 : b ≤ 255) : strings_IndexByte.f (⟨#[48, 49, 50, 51, 52, 53, 54, 55, 56, 57, 97, 98, 99, 100, 101, 102]⟩ : ByteArray) b = some (val b) := by
  obtain ⟨n, rfl⟩ := Int.eq_ofNat_of_zero_le h0
  unfold strings_IndexByte.f
  have := index_key ⟨n, by omega⟩
  rw [Int.toNat_natCast]
  exact congrArg some this
theorem join16 (x y : Int) (hx0 : 0 ≤ x) (hx1 : x < 16) (hy0 : 0 ≤ y) (hy1 : y < 16) : Go.bits .or .i64 (x * 16) y = 16 * x + y := by
  rw [bits_join .i64 32 (by decide) (fun n a b => by rw [IntKind.wrap_i64]; omega) 4 (x * 16) y (by omega) (by omega) (by omega) hy0 (by omega) (by omega)]
  omega
theorem up2 (i : Nat) (h : i < 1000000) : wrap64 ((i : Int) + 2) = ((i + 2 : Nat) : Int) := by
  rw [w64 (by omega) (by omega)]; omega
theorem spec_Unhex_l0 (s : ByteArray) (hs : s.size ≤ 120000) : ∀ (n i : Nat) (acc : List Int), i + 2 * n = s.size → acc.length ≤ i → Ev (fun k => spec_Unhex.l0 k s acc (i : Int)) (unhexGo ((bytesOf s).drop i) acc) := by
  intro n
  induction n with
  | zero =>
    intro i acc hi hl
    refine Ev.succ ?_
    simp only [spec_Unhex.l0]
    refine Ev.neg (by omega) (Ev.some_ ?_)
    rw [List.drop_eq_nil_of_le (by rw [bytesOf_length]; omega), unhexGo]
  | succ n ih =>
    intro i acc hi hl
    refine Ev.succ ?_
    simp only [spec_Unhex.l0]
    rw [up1 i (by omega), up2 i (by omega), drop_bt s i (by omega), drop_bt s (i + 1) (by omega)]
    have ha := bt_range s (i : Int)
    have hb := bt_range s ((i + 1 : Nat) : Int)
    generalize bt s (i : Int) = a at ha ⊢
    generalize bt s ((i + 1 : Nat) : Int) = b at hb ⊢
    have va := val_lt a
    have vb := val_lt b
    rw [unhexGo]
    refine Ev.pos (by omega) (Ev.pos (by omega) (Ev.bnd (spec_val a ha.1 ha.2) (Ev.pos (by omega) (Ev.pos (by omega) (Ev.bnd (spec_val b hb.1 hb.2) ?_)))))
    by_cases h1 : val a < 0
    · rw [if_pos h1]
      exact Ev.pos h1 (Ev.now _)
    rw [if_neg h1]
    refine Ev.neg h1 ?_
    by_cases h2 : val b < 0
    · rw [if_pos h2]
      exact Ev.pos h2 (Ev.now _)
    rw [if_neg h2]
    refine Ev.neg h2 (Ev.pos (by omega) ?_)
    rw [show wrap64 (16 * val a) = 16 * val a from w64 (by omega) (by omega), show wrap64 (16 * val a + val b) = 16 * val a + val b from w64 (by omega) (by omega), show (16 * val a + val b) % 256 = 16 * val a + val b from by omega]
    exact ih (i + 2) _ (by omega) (by simp; omega)
theorem impl_Unhex_l0 (s : ByteArray) (hs : s.size ≤ 120000) : ∀ (n i : Nat) (acc : List Int), i + 2 * n = s.size → acc.length ≤ i → Ev (fun k => impl_Unhex.l0 k s acc (i : Int)) (unhexGo ((bytesOf s).drop i) acc) := by
  intro n
  induction n with
  | zero =>
    intro i acc hi hl
    refine Ev.succ ?_
    simp only [impl_Unhex.l0]
    refine Ev.neg (by omega) (Ev.some_ ?_)
    rw [List.drop_eq_nil_of_le (by rw [bytesOf_length]; omega), unhexGo]
  | succ n ih =>
    intro i acc hi hl
    refine Ev.succ ?_
    simp only [impl_Unhex.l0]
    rw [up1 i (by omega), up2 i (by omega), drop_bt s i (by omega), drop_bt s (i + 1) (by omega)]
    have ha := bt_range s (i : Int)
    have hb := bt_range s ((i + 1 : Nat) : Int)
    generalize bt s (i : Int) = a at ha ⊢
    generalize bt s ((i + 1 : Nat) : Int) = b at hb ⊢
    have va := val_lt a
    have vb := val_lt b
    rw [unhexGo]
    refine Ev.pos (by omega) (Ev.pos (by omega) (Ev.bnd0 (index_val a ha.1 ha.2) (Ev.pos (by omega) (Ev.pos (by omega) (Ev.bnd0 (index_val b hb.1 hb.2) ?_)))))
    by_cases h1 : val a < 0
    · rw [if_pos h1]
      exact Ev.pos h1 (Ev.now _)
    rw [if_neg h1]
    refine Ev.neg h1 ?_
    by_cases h2 : val b < 0
    · rw [if_pos h2]
      exact Ev.pos h2 (Ev.now _)
    rw [if_neg h2]
    refine Ev.neg h2 (Ev.pos (by omega) ?_)
    rw [show wrap64 (val a * 16) = val a * 16 from w64 (by omega) (by omega), join16 _ _ (by omega) (by omega) (by omega) (by omega), show (16 * val a + val b) % 256 = 16 * val a + val b from by omega]
    exact ih (i + 2) _ (by omega) (by simp; omega)
theorem spec_Unhex_ev (s : ByteArray) (hs : s.size ≤ 140737488351232) : Ev (fun k => spec_Unhex.f k s) (unhexR s) := by
  simp only [spec_Unhex.f]
  by_cases hb : (s.size : Int) > 120000
  · have hv : unhexR s = (⟨#[]⟩, false) := by unfold unhexR; rw [if_pos (Or.inr hb)]
    rw [hv]
    refine Ev.pos hb (Ev.succ ?_)
    simp only [spec_Unhex.j0]
    exact Ev.pos (by first | rfl | trivial) (Ev.now _)
  refine Ev.neg hb (Ev.succ ?_)
  simp only [spec_Unhex.j0]
  by_cases h : (s.size : Int) % 2 = 0
  · have hv : unhexR s = unhexGo (bytesOf s) [] := by unfold unhexR; rw [if_neg (fun x => x.elim (fun y => y h) hb)]
    rw [hv]
    refine Ev.neg (by simp [h]) ?_
    exact spec_Unhex_l0 s (by omega) (s.size / 2) 0 [] (by omega) (by simp)
  · have hv : unhexR s = (⟨#[]⟩, false) := by unfold unhexR; rw [if_pos (Or.inl h)]
    rw [hv]
    exact Ev.pos (by simpa using h) (Ev.now _)
theorem impl_Unhex_ev (s : ByteArray) (hs : s.size ≤ 140737488351232) : Ev (fun k => impl_Unhex.f k s) (unhexR s) := by
  simp only [impl_Unhex.f]
  by_cases h : (s.size : Int) % 2 = 0
  · refine Ev.pos h (Ev.succ ?_)
    simp only [impl_Unhex.j0]
    by_cases hb : (s.size : Int) > 120000
    · have hv : unhexR s = (⟨#[]⟩, false) := by unfold unhexR; rw [if_pos (Or.inr hb)]
      rw [hv]
      exact Ev.pos (by simpa using hb) (Ev.now _)
    · have hv : unhexR s = unhexGo (bytesOf s) [] := by unfold unhexR; rw [if_neg (fun x => x.elim (fun y => y h) hb)]
      rw [hv]
      rw [show wrap64 ((s.size : Int) / 2) = (s.size : Int) / 2 from w64 (by omega) (by omega)]
      refine Ev.neg (by simpa using hb) (Ev.pos (by omega) (Ev.pos (by omega) ?_))
      exact impl_Unhex_l0 s (by omega) (s.size / 2) 0 [] (by omega) (by simp)
  · have hv : unhexR s = (⟨#[]⟩, false) := by unfold unhexR; rw [if_pos (Or.inl h)]
    rw [hv]
    refine Ev.neg h (Ev.succ ?_)
    simp only [impl_Unhex.j0]
    exact Ev.pos (by first | rfl | trivial) (Ev.now _)
theorem FnExactUnhex : laws_FnExactUnhex.Pure := by
  intro s hs
  refine Ev.rounds (r := true) ?_
  simp only [laws_FnExactUnhex.f]
  by_cases hb : (s.size : Int) > 1048576
  · exact Ev.pos hb (Ev.now _)
  · exact Ev.neg hb (Ev.bnd (spec_Unhex_ev s hs) (Ev.bnd (impl_Unhex_ev s hs) (Ev.pos (by first | rfl | trivial) (Ev.neg (by simp) (Ev.now _)))))

end Go.Proofs.Ytdcehjmipjikaaa.Pure
