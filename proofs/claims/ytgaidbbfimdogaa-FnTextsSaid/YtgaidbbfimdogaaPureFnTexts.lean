/- Of a drawn text each reading undoes its writing. -/
import Derived.Test.YtgaidbbfimdogaaPFnTextsx5
import Derived.Test.YtgaidbbfimdogaaGen
namespace Go.Proofs.Ytgaidbbfimdogaa.Pure
open Go.RowKit Go.Proofs.Ytgaidbbfimdogaa.PFnTexts Go.Proofs.YtgaidbbfimdogaaW.PrintWords Go.Proofs.YtgaidbbfimdogaaW.PrintLast Go.Proofs.YtgaidbbfimdogaaG

theorem laws_big_eq (l : List Int) : laws_big.f l = some (decide ((l.length : Int) > 1048576)) := rfl
/-! what is drawn: the cursor never fails -/
theorem and255 (x : Int) : 0 ≤ Go.bits .and .i64 x 255 ∧ Go.bits .and .i64 x 255 ≤ 255 := by
  have h : (BitVec.ofInt IntKind.i64.bits x).toNat &&& (BitVec.ofInt IntKind.i64.bits 255).toNat ≤ 255 := by
    have e : (BitVec.ofInt IntKind.i64.bits 255).toNat = 255 := by rfl
    rw [e]
    exact Nat.and_le_right
  simp only [Go.bits, BitVec.toNat_and]
  rw [IntKind.wrap_i64]
  omega
theorem spec_l01Byte_eq (s : List Int) (i h : Int) (hi : 0 ≤ i) (hs : s.length ≤ 140737488351232) : ∃ v i' h', spec_l01Byte.f s i h = some (v, i', h') ∧ 0 ≤ v ∧ v ≤ 255 ∧ 0 ≤ i' := by
  unfold spec_l01Byte.f
  by_cases c : i < (s.length : Int)
  · rw [if_pos c, if_pos hi, show wrap64 (i + 1) = i + 1 from w64 (by omega) (by omega)]
    exact ⟨_, _, _, rfl, (and255 _).1, (and255 _).2, by omega⟩
  · rw [if_neg c]
    exact ⟨_, _, _, rfl, (and255 _).1, (and255 _).2, hi⟩
theorem spec_l01Below_eq (s : List Int) (i h n : Int) (hi : 0 ≤ i) (hs : s.length ≤ 140737488351232) (h0 : 1 ≤ n) (h1 : n ≤ 256) : ∃ v i' h', spec_l01Below.f s i h n = some (v, i', h') ∧ 0 ≤ v ∧ v < n ∧ 0 ≤ i' := by
  obtain ⟨v, i', h', e, v0, v1, hi'⟩ := spec_l01Byte_eq s i h hi hs
  unfold spec_l01Below.f
  rw [if_neg (by omega), if_pos h1, e, Option.bind_some, if_neg (by omega)]
  refine ⟨_, _, _, rfl, ?_, ?_, hi'⟩
  · rw [Int.tmod_eq_emod_of_nonneg v0]
    exact Int.emod_nonneg _ (by omega)
  · rw [Int.tmod_eq_emod_of_nonneg v0]
    exact Int.emod_lt_of_pos _ (by omega)
theorem spec_l01New_ev (s : List Int) : ∃ h, Ev (fun k => spec_l01New.f k s) (s, 0, h) := by
  simp only [spec_l01New.f]
  have key : ∀ (n i : Nat) (h : Int), i + n = s.length → ∃ h', Ev (fun k => spec_l01New.l0 k s h (i : Int)) (s, 0, h') := by
    intro n
    induction n with
    | zero =>
      intro i h hi
      refine ⟨h, Ev.succ ?_⟩
      simp only [spec_l01New.l0]
      exact Ev.neg (by omega) (Ev.now _)
    | succ n ih =>
      intro i h hi
      by_cases c : (i : Int) < 4000
      · obtain ⟨h', hh⟩ := ih (i + 1) (Go.bits .and .i64 (wrap64 ((wrap64 ((wrap64 (h * 131)) + (wrap64 (rd s (i : Int))))) + 7)) 1073741823) (by omega)
        refine ⟨h', Ev.succ ?_⟩
        simp only [spec_l01New.l0]
        rw [up1 i (by omega)]
        exact Ev.pos (by omega) (Ev.pos c (Ev.pos (by omega) hh))
      · refine ⟨h, Ev.succ ?_⟩
        simp only [spec_l01New.l0]
        exact Ev.pos (by omega) (Ev.neg c (Ev.now _))
  exact key s.length 0 _ (by omega)
theorem spec_l01Once_eq (s : List Int) (i h n : Int) (hi : 0 ≤ i) (hs : s.length ≤ 140737488351232) (h0 : 1 ≤ n) (h1 : n ≤ 256) : ∃ v i' h', spec_l01Once.f s i h n = some (v, i', h') ∧ 0 ≤ i' := by
  obtain ⟨v, i', h', e, v0, v1, hi'⟩ := spec_l01Below_eq s i h n hi hs h0 h1
  unfold spec_l01Once.f
  rw [e, Option.bind_some]
  exact ⟨_, _, _, rfl, hi'⟩
theorem spec_l01Long_ev (n x : Int) (h0 : 0 ≤ n) (h1 : n ≤ 1000000) : ∃ s : ByteArray, Ev (fun k => spec_l01Long.f k n x) s ∧ s.size ≤ 1000000 := by
  obtain ⟨m, rfl⟩ := Int.eq_ofNat_of_zero_le h0
  simp only [spec_l01Long.f]
  have key : ∀ (q i : Nat) (l : List Int), i + q = m → l.length = m → ∃ s : ByteArray, Ev (fun k => spec_l01Long.l0 k (m : Int) x l (i : Int)) s ∧ s.size ≤ 1000000 := by
    intro q
    induction q with
    | zero =>
      intro i l hi hl
      refine ⟨strOfNums l, Ev.succ ?_, by rw [strOfNums_size]; omega⟩
      simp only [spec_l01Long.l0]
      exact Ev.neg (by omega) (Ev.now _)
    | succ q ih =>
      intro i l hi hl
      obtain ⟨s, hs, hz⟩ := ih (i + 1) (l.set i x) (by omega) (by rw [List.length_set]; exact hl)
      refine ⟨s, Ev.succ ?_, hz⟩
      simp only [spec_l01Long.l0]
      rw [up1 i (by omega), Int.toNat_natCast]
      exact Ev.pos (by omega) (Ev.pos (by omega) (Ev.pos (by omega) hs))
  obtain ⟨s, hs, hz⟩ := key m 0 (List.replicate m 0) (by omega) (by simp)
  refine ⟨s, Ev.pos (by omega) (Ev.pos (by omega) ?_), hz⟩
  rw [Int.toNat_natCast]
  exact hs
theorem spec_l01Text_ev (s : List Int) (i h n : Int) (hi : 0 ≤ i) (hs : s.length ≤ 140737488351232) : ∃ t i' h', Ev (fun k => spec_l01Text.f k s i h n) (t, i', h') ∧ t.size ≤ 5000 := by
  have key : ∀ (m : Int), m ≤ 5000 → ∀ (q j : Nat) (acc : List Int) (i h : Int), m ≤ j + q → j ≤ 5000 → 0 ≤ i → acc.length = j → ∃ t i' h', Ev (fun k => spec_l01Text.l0 k m acc (j : Int) s i h) (t, i', h') ∧ t.size ≤ 5000 := by
    intro m hm q
    induction q with
    | zero =>
      intro j acc i h hj h5 hi hl
      refine ⟨strOfNums acc, i, h, Ev.succ ?_, by rw [strOfNums_size]; omega⟩
      simp only [spec_l01Text.l0]
      exact Ev.neg (by omega) (Ev.now _)
    | succ q ih =>
      intro j acc i h hj h5 hi hl
      by_cases c : (j : Int) < m
      · obtain ⟨v, i', h', e, v0, v1, hi'⟩ := spec_l01Byte_eq s i h hi hs
        obtain ⟨t, i2, h2, ht, hz⟩ := ih (j + 1) (acc ++ [v % 256]) i' h' (by omega) (by omega) hi' (by simp; omega)
        refine ⟨t, i2, h2, Ev.succ ?_, hz⟩
        simp only [spec_l01Text.l0]
        rw [up1 j (by omega)]
        exact Ev.pos c (Ev.bnd0 e (Ev.pos (by omega) ht))
      · refine ⟨strOfNums acc, i, h, Ev.succ ?_, by rw [strOfNums_size]; omega⟩
        simp only [spec_l01Text.l0]
        exact Ev.neg c (Ev.now _)
  by_cases c : n > 5000
  · obtain ⟨t, i', h', ht, hz⟩ := key 5000 (by omega) 5000 0 [] i h (by omega) (by omega) hi rfl
    refine ⟨t, i', h', ?_, hz⟩
    simp only [spec_l01Text.f]
    refine Ev.pos c (Ev.succ ?_)
    simp only [spec_l01Text.j0]
    exact ht
  · obtain ⟨t, i', h', ht, hz⟩ := key n (by omega) 5000 0 [] i h (by omega) (by omega) hi rfl
    refine ⟨t, i', h', ?_, hz⟩
    simp only [spec_l01Text.f]
    refine Ev.neg c (Ev.succ ?_)
    simp only [spec_l01Text.j0]
    exact ht
theorem spec_DrawShortText_ev (s : List Int) (hs : s.length ≤ 140737488351232) : ∃ t, Ev (fun k => spec_DrawShortText.f k s) t ∧ t.size ≤ 1000000 := by
  obtain ⟨h, hh⟩ := spec_l01New_ev s
  obtain ⟨c, i1, h1, e1, p1⟩ := spec_l01Once_eq s 0 h 60 (by omega) hs (by omega) (by omega)
  simp only [spec_DrawShortText.f]
  by_cases hc : c = true
  · obtain ⟨v, i2, h2, e2, v0, v1, p2⟩ := spec_l01Below_eq s i1 h1 2 p1 hs (by omega) (by omega)
    obtain ⟨t, ht, hz⟩ := spec_l01Long_ev (wrap64 (60000 + v)) 97 (by rw [w64 (by omega) (by omega)]; omega) (by rw [w64 (by omega) (by omega)]; omega)
    exact ⟨t, Ev.bnd hh (Ev.bnd0 e1 (Ev.pos hc (Ev.bnd0 e2 (Ev.bnd ht (Ev.now _))))), hz⟩
  · obtain ⟨v, i2, h2, e2, v0, v1, p2⟩ := spec_l01Below_eq s i1 h1 200 p1 hs (by omega) (by omega)
    obtain ⟨t, i3, h3, ht, hz⟩ := spec_l01Text_ev s i2 h2 v p2 hs
    exact ⟨t, Ev.bnd hh (Ev.bnd0 e1 (Ev.neg hc (Ev.bnd0 e2 (Ev.bnd ht (Ev.now _))))), by omega⟩
/-- A figure of base 16. -/
def fig (d : Int) : Int := if d < 10 then 48 + d else 87 + d
def hexL : List Int → List Int
  | [] => []
  | b :: l => fig (b / 16) :: fig (b % 16) :: hexL l
def hexR (s : ByteArray) : ByteArray × Bool := if (s.size : Int) > 60000 then (⟨#[]⟩, false) else (strOfNums (hexL (bytesOf s)), true)
theorem dig_fig (d : Int) (h0 : 0 ≤ d) (h1 : d < 16) : bt (⟨#[48, 49, 50, 51, 52, 53, 54, 55, 56, 57, 97, 98, 99, 100, 101, 102]⟩ : ByteArray) d = fig d := by
  obtain ⟨n, rfl⟩ := Int.eq_ofNat_of_zero_le h0
  have hn : n < 16 := by omega
  have key : ∀ m : Fin 16, bt (⟨#[48, 49, 50, 51, 52, 53, 54, 55, 56, 57, 97, 98, 99, 100, 101, 102]⟩ : ByteArray) ((m.val : Nat) : Int) = fig ((m.val : Nat) : Int) := by decide
  exact key ⟨n, hn⟩
theorem impl_Hex_ev (s : ByteArray) (hs : s.size ≤ 140737488351232) : Ev (fun k => impl_Hex.f k s) (hexR s) := by
  simp only [impl_Hex.f]
  unfold hexR
  by_cases hb : (s.size : Int) > 60000
  · rw [if_pos hb]
    exact Ev.pos hb (Ev.now _)
  rw [if_neg hb]
  rw [show wrap64 (2 * (s.size : Int)) = 2 * (s.size : Int) from w64 (by omega) (by omega)]
  refine Ev.neg hb (Ev.pos (by omega) (Ev.pos (by omega) ?_))
  have key : ∀ (n i : Nat) (acc : List Int), i + n = s.size → acc.length = 2 * i → Ev (fun k => impl_Hex.l0 k s (⟨#[48, 49, 50, 51, 52, 53, 54, 55, 56, 57, 97, 98, 99, 100, 101, 102]⟩ : ByteArray) acc (i : Int)) (strOfNums (acc ++ hexL ((bytesOf s).drop i)), true) := by
    intro n
    induction n with
    | zero =>
      intro i acc hi hl
      refine Ev.succ ?_
      simp only [impl_Hex.l0]
      refine Ev.neg (by omega) (Ev.some_ ?_)
      rw [List.drop_eq_nil_of_le (by rw [bytesOf_length]; omega), hexL, List.append_nil]
    | succ n ih =>
      intro i acc hi hl
      refine Ev.succ ?_
      simp only [impl_Hex.l0]
      rw [up1 i (by omega), drop_bt s i (by omega)]
      have hbt := bt_range s (i : Int)
      generalize bt s (i : Int) = b at hbt ⊢
      rw [u8_and15 b hbt.1 (by omega), dig_fig (b / 16) (by omega) (by omega), dig_fig (b % 16) (by omega) (by omega)]
      have hz : ((⟨#[48, 49, 50, 51, 52, 53, 54, 55, 56, 57, 97, 98, 99, 100, 101, 102]⟩ : ByteArray).size : Int) = 16 := rfl
      rw [hz]
      refine Ev.pos (by omega) (Ev.pos (by omega) (Ev.pos (by omega) (Ev.pos (by omega) (Ev.pos (by omega) (Ev.pos (by omega) (Ev.bnd0 rfl (Ev.pos (by simp; omega) ?_)))))))
      have := ih (i + 1) (acc ++ [fig (b / 16), fig (b % 16)]) (by omega) (by simp; omega)
      rw [List.append_assoc] at this
      exact this
  exact key s.size 0 [] (by omega) rfl
/-- What a figure of base 16 stands for, or -1. -/
def val (b : Int) : Int := if 48 ≤ b ∧ b ≤ 57 then b - 48 else if 97 ≤ b ∧ b ≤ 102 then b - 87 else -1
theorem val_lt (b : Int) : -1 ≤ val b ∧ val b < 16 := by
  unfold val
  split
  · omega
  · split <;> omega
def unhexGo : List Int → List Int → ByteArray × Bool
  | a :: b :: l, acc => if val a < 0 then (⟨#[]⟩, false) else if val b < 0 then (⟨#[]⟩, false) else unhexGo l (acc ++ [16 * val a + val b])
  | [_], acc => (strOfNums acc, true)
  | [], acc => (strOfNums acc, true)
def unhexR (s : ByteArray) : ByteArray × Bool := if (s.size : Int) % 2 ≠ 0 ∨ (s.size : Int) > 120000 then (⟨#[]⟩, false) else unhexGo (bytesOf s) []
theorem up2 (i : Nat) (h : i < 1000000) : wrap64 ((i : Int) + 2) = ((i + 2 : Nat) : Int) := by
  rw [w64 (by omega) (by omega)]; omega
set_option maxRecDepth 100000 in
theorem index_key : ∀ m : Fin 256, Lib.indexByte (⟨#[48, 49, 50, 51, 52, 53, 54, 55, 56, 57, 97, 98, 99, 100, 101, 102]⟩ : ByteArray).data.toList (m.val.toUInt8) = val ((m.val : Nat) : Int) := by decide
theorem index_val (b : Int) (h0 : 0 ≤ b) (h1 : b ≤ 255) : strings_IndexByte.f (⟨#[48, 49, 50, 51, 52, 53, 54, 55, 56, 57, 97, 98, 99, 100, 101, 102]⟩ : ByteArray) b = some (val b) := by
  obtain ⟨n, rfl⟩ := Int.eq_ofNat_of_zero_le h0
  unfold strings_IndexByte.f
  have := index_key ⟨n, by omega⟩
  rw [Int.toNat_natCast]
  exact congrArg some this
theorem join16 (x y : Int) (hx0 : 0 ≤ x) (hx1 : x < 16) (hy0 : 0 ≤ y) (hy1 : y < 16) : Go.bits .or .i64 (x * 16) y = 16 * x + y := by
  rw [bits_join .i64 32 (by decide) (fun n a b => by rw [IntKind.wrap_i64]; omega) 4 (x * 16) y (by omega) (by omega) (by omega) hy0 (by omega) (by omega)]
  omega
theorem impl_Unhex_l0 (s : ByteArray) (hs : s.size ≤ 120000) : ∀ (n i : Nat) (acc : List Int), i + 2 * n = s.size → acc.length ≤ i → Ev (fun k => impl_Unhex.l0 k s acc (i : Int)) (unhexGo ((bytesOf s).drop i) acc) := by
  intro n
  induction n with
  | zero =>
    intro i acc hi hl
    refine Ev.succ ?_
    simp only [impl_Unhex.l0]
    refine Ev.neg (by omega) (Ev.some_ ?_)
    rw [List.drop_eq_nil_of_le (by rw [bytesOf_length]; omega), unhexGo]
  | succ n ih =>
    intro i acc hi hl
    refine Ev.succ ?_
    simp only [impl_Unhex.l0]
    rw [up1 i (by omega), up2 i (by omega), drop_bt s i (by omega), drop_bt s (i + 1) (by omega)]
    have ha := bt_range s (i : Int)
    have hb := bt_range s ((i + 1 : Nat) : Int)
    generalize bt s (i : Int) = a at ha ⊢
    generalize bt s ((i + 1 : Nat) : Int) = b at hb ⊢
    have va := val_lt a
    have vb := val_lt b
    rw [unhexGo]
    refine Ev.pos (by omega) (Ev.pos (by omega) (Ev.bnd0 (index_val a ha.1 ha.2) (Ev.pos (by omega) (Ev.pos (by omega) (Ev.bnd0 (index_val b hb.1 hb.2) ?_)))))
    by_cases h1 : val a < 0
    · rw [if_pos h1]
      exact Ev.pos h1 (Ev.now _)
    rw [if_neg h1]
    refine Ev.neg h1 ?_
    by_cases h2 : val b < 0
    · rw [if_pos h2]
      exact Ev.pos h2 (Ev.now _)
    rw [if_neg h2]
    refine Ev.neg h2 (Ev.pos (by omega) ?_)
    rw [show wrap64 (val a * 16) = val a * 16 from w64 (by omega) (by omega), join16 _ _ (by omega) (by omega) (by omega) (by omega), show (16 * val a + val b) % 256 = 16 * val a + val b from by omega]
    exact ih (i + 2) _ (by omega) (by simp; omega)
theorem impl_Unhex_ev (s : ByteArray) (hs : s.size ≤ 140737488351232) : Ev (fun k => impl_Unhex.f k s) (unhexR s) := by
  simp only [impl_Unhex.f]
  by_cases h : (s.size : Int) % 2 = 0
  · refine Ev.pos h (Ev.succ ?_)
    simp only [impl_Unhex.j0]
    by_cases hb : (s.size : Int) > 120000
    · have hv : unhexR s = (⟨#[]⟩, false) := by unfold unhexR; rw [if_pos (Or.inr hb)]
      rw [hv]
      exact Ev.pos (by simpa using hb) (Ev.now _)
    · have hv : unhexR s = unhexGo (bytesOf s) [] := by unfold unhexR; rw [if_neg (fun x => x.elim (fun y => y h) hb)]
      rw [hv]
      rw [show wrap64 ((s.size : Int) / 2) = (s.size : Int) / 2 from w64 (by omega) (by omega)]
      refine Ev.neg (by simpa using hb) (Ev.pos (by omega) (Ev.pos (by omega) ?_))
      exact impl_Unhex_l0 s (by omega) (s.size / 2) 0 [] (by omega) (by simp)
  · have hv : unhexR s = (⟨#[]⟩, false) := by unfold unhexR; rw [if_pos (Or.inl h)]
    rw [hv]
    refine Ev.neg h (Ev.succ ?_)
    simp only [impl_Unhex.j0]
    exact Ev.pos (by first | rfl | trivial) (Ev.now _)
/-! spec.SumMore -/
theorem impl_SumMore_l1 (s : ByteArray) (i r : Int) : ∀ (n : Nat) (x c : Int), c = 8 - (n : Int) → n ≤ 8 → In32 x → Ev (fun k => impl_SumMore.l0 k (cbits n x) s (wrap64 (i + 1))) r → Ev (fun k => impl_SumMore.l1 k x s i c) r := by
  intro n
  induction n with
  | zero =>
    intro x c hc _ _ h
    refine Ev.succ ?_
    simp only [impl_SumMore.l1]
    exact Ev.neg (by omega) h
  | succ n ih =>
    intro x c hc hn hx h
    obtain ⟨h0, h1⟩ := hx
    refine Ev.succ ?_
    simp only [impl_SumMore.l1]
    refine Ev.pos (by omega) ?_
    have e0 : (Go.bits .and .u32 x 1) = x % 2 := by exact and32_1 x h0 h1
    have e1 : wrap64 (c + 1) = c + 1 := w64 (by omega) (by omega)
    skip
    rw [e0, e1]
    have hb := cbit_in ⟨h0, h1⟩
    by_cases ho : x % 2 = 1
    · refine Ev.pos ho (ih _ _ (by omega) (by omega) (xor32_in _ _) ?_)
      have : cbit x = Go.bits .xor .u32 (x / 2) 3558460437 := by simp [cbit, ho]
      rw [← this]; exact h
    · refine Ev.neg ho (ih _ _ (by omega) (by omega) ?_ ?_)
      · unfold In32; omega
      · have : cbit x = x / 2 := by simp [cbit, ho]
        rw [← this]; exact h
theorem impl_SumMore_l0 (s : ByteArray) (hs : s.size ≤ 140737488351232) : ∀ (n : Nat) (x : Int) (i : Nat), i + n = s.size → In32 x → Ev (fun k => impl_SumMore.l0 k x s (i : Int)) (crcL x ((bytesOf s).drop i)) := by
  intro n
  induction n with
  | zero =>
    intro x i hi _
    refine Ev.succ ?_
    simp only [impl_SumMore.l0]
    have e : i = s.size := by omega
    subst e
    exact Ev.neg (by omega) (Ev.some_ (by rw [drop_all]; rfl))
  | succ n ih =>
    intro x i hi _
    refine Ev.succ ?_
    simp only [impl_SumMore.l0]
    have hb := bt_range s (i : Int)
    have e : (bt s (i : Int)) % 4294967296 = bt s (i : Int) := by omega
    refine Ev.pos (by omega) (Ev.pos (by omega) ?_)
    rw [e]
    refine impl_SumMore_l1 s i _ 8 _ 0 (by omega) (by omega) (xor32_in _ _) ?_
    rw [w64 (by omega) (by omega)]
    have := ih (cbyte x (bt s (i : Int))) (i + 1) (by omega) (cbyte_in _ _)
    rw [drop_bt s i (by omega)]
    exact this
theorem impl_SumMore_ev (x : Int) (s : ByteArray) (hx : In32 x) (hs : s.size ≤ 140737488351232) : Ev (fun k => impl_SumMore.f k x s) (crc x s) := by
  simp only [impl_SumMore.f]
  exact impl_SumMore_l0 s hs s.size x 0 (by omega) hx
theorem impl_SumOf_ev (s : ByteArray) (hs : s.size ≤ 140737488351232) : Ev (fun k => impl_SumOf.f k s) (crc 4294967295 s) := by
  simp only [impl_SumOf.f]
  exact Ev.bnd (impl_SumMore_ev 4294967295 s (by unfold In32; omega) hs) (Ev.now _)
def fourB (x : Int) : ByteArray := strOfNums [(x / 16777216) % 256, (x / 65536) % 256, (x / 256) % 256, x % 256]
theorem fourB_size (x : Int) : (fourB x).size = 4 := by rw [fourB, strOfNums_size]; rfl
def sumB (s : ByteArray) : ByteArray := fourB (crc 4294967295 s)
theorem impl_sumText_ev (s : ByteArray) (hs : s.size ≤ 140737488351232) : Ev (fun k => impl_sumText.f k s) (sumB s) := by
  simp only [impl_sumText.f]
  exact Ev.bnd (impl_SumOf_ev s hs) (Ev.now _)
def sealed (s : ByteArray) : ByteArray × Bool := if (s.size : Int) > 60000 then ((⟨#[]⟩ : ByteArray), false) else (s ++ sumB s, true)
theorem impl_Sealed_ev (s : ByteArray) : Ev (fun k => impl_Sealed.f k s) (sealed s) := by
  simp only [impl_Sealed.f]
  by_cases h : (s.size : Int) > 60000
  · exact Ev.pos h (Ev.some_ (by rw [sealed, if_pos h]))
  · have := fourB_size (crc 4294967295 s)
    exact Ev.neg h (Ev.bnd (impl_sumText_ev s (by omega)) (Ev.pos (by unfold sumB; omega) (Ev.some_ (by rw [sealed, if_neg h]))))
def unsealed (s : ByteArray) : ByteArray × Bool :=
  if s.size < 4 then ((⟨#[]⟩ : ByteArray), false) else if s.size - 4 > 60000 then ((⟨#[]⟩ : ByteArray), false)
  else if s.extract (s.size - 4) s.size = sumB (s.extract 0 (s.size - 4)) then (s.extract 0 (s.size - 4), true) else ((⟨#[]⟩ : ByteArray), false)
theorem size_extract (s : ByteArray) (i j : Nat) : (s.extract i j).size = min j s.size - i := ByteArray.size_extract
theorem impl_Unsealed_ev (s : ByteArray) (hs : s.size ≤ 140737488351232) : Ev (fun k => impl_Unsealed.f k s) (unsealed s) := by
  simp only [impl_Unsealed.f]
  rw [w64 (by omega) (by omega)]
  by_cases h4 : s.size < 4
  · exact Ev.pos (by omega) (Ev.some_ (by rw [unsealed, if_pos h4]))
  have e : ((s.size : Int) - 4).toNat = s.size - 4 := by omega
  rw [e]
  by_cases h5 : s.size - 4 > 60000
  · exact Ev.neg (by omega) (Ev.pos (by omega) (Ev.some_ (by rw [unsealed, if_neg h4, if_pos h5])))
  refine Ev.neg (by omega) (Ev.neg (by omega) (Ev.pos (by omega) (Ev.pos (by omega) (Ev.bnd (impl_sumText_ev _ (by rw [size_extract]; omega)) ?_))))
  by_cases h6 : s.extract (s.size - 4) s.size = sumB (s.extract 0 (s.size - 4))
  · exact Ev.pos ((toList_iff _ _).2 h6.symm) (Ev.some_ (by rw [unsealed, if_neg h4, if_neg h5, if_pos h6]))
  · exact Ev.neg (fun h => h6 ((toList_iff _ _).1 h).symm) (Ev.some_ (by rw [unsealed, if_neg h4, if_neg h5, if_neg h6]))
/-! impl.varText -/
theorem impl_varText_l0 : ∀ (f : Nat) (n : Int) (x : List Int), Fits f n → n ≤ 9223372036854775807 → x.length + f < 1000 → Ev (fun k => impl_varText.l0 k n x) (strOfNums (x ++ varF f n)) := by
  intro f
  induction f with
  | zero =>
    intro n x hf hn hx
    simp only [Fits] at hf
    refine Ev.succ ?_
    simp only [impl_varText.l0]
    exact Ev.neg (by omega) (Ev.pos (by omega) (Ev.some_ (by simp [varF])))
  | succ f ih =>
    intro n x hf hn hx
    simp only [Fits] at hf
    refine Ev.succ ?_
    simp only [impl_varText.l0]
    by_cases h : n > 127
    · refine Ev.pos h (Ev.pos (by omega) ?_)
      have e1 : wrap64 (Int.tdiv n 128) = n / 128 := by rw [Int.tdiv_eq_ediv_of_nonneg (by omega)]; exact w64 (by omega) (by omega)
      have e2 : (wrap64 (128 + (Int.tmod n 128))) % 256 = n % 128 + 128 := by rw [Int.tmod_eq_emod_of_nonneg (by omega), w64 (by omega) (by omega)]; omega
      rw [e1, e2]
      refine Ev_eq (ih (n / 128) _ hf (by omega) (by simp; omega)) ?_
      simp [varF, h]
    · exact Ev.neg h (Ev.pos (by omega) (Ev.some_ (by simp [varF, h])))
theorem impl_varText_ev (n : Int) (hn : n ≤ 9223372036854775807) : Ev (fun k => impl_varText.f k n) (varB n) := by
  simp only [impl_varText.f]
  exact Ev_eq (impl_varText_l0 9 n [] (fits9 hn) hn (by simp)) (by simp [varB, varL])
def shortText (s : ByteArray) : ByteArray × Bool := if (s.size : Int) > 60000 then ((⟨#[]⟩ : ByteArray), false) else (varB s.size ++ s, true)
theorem impl_ShortText_ev (s : ByteArray) : Ev (fun k => impl_ShortText.f k s) (shortText s) := by
  simp only [impl_ShortText.f]
  by_cases h : (s.size : Int) > 60000
  · exact Ev.pos h (Ev.some_ (by rw [shortText, if_pos h]))
  · have := varB_size s.size
    exact Ev.neg h (Ev.bnd (impl_varText_ev _ (by omega)) (Ev.pos (by omega) (Ev.some_ (by rw [shortText, if_neg h]))))
/-! ReadVar: numbers read back -/
def valL : List Int → Int
  | [] => 0
  | d :: l => d % 128 + 128 * valL l
def pw : List Int → Int
  | [] => 1
  | _ :: l => 128 * pw l
theorem valL_snoc (b : Int) : ∀ l, valL (l ++ [b]) = valL l + b % 128 * pw l
  | [] => by simp [valL, pw]
  | d :: l => by
    simp only [List.cons_append, valL, pw, valL_snoc b l, Int.mul_add]
    rw [Int.mul_left_comm]
    omega
theorem pw_snoc (b : Int) : ∀ l, pw (l ++ [b]) = pw l * 128
  | [] => by simp [pw]
  | d :: l => by simp only [List.cons_append, pw, pw_snoc b l]; omega
theorem valL_nonneg : ∀ l, 0 ≤ valL l
  | [] => Int.le_refl _
  | d :: l => by have := valL_nonneg l; simp only [valL]; omega
/-- A number's bytes are the ones it was read from, unless a last byte is for nothing. -/
theorem canon (b : Int) (hb0 : 0 ≤ b) (hb : b < 128) : ∀ (l : List Int) (f : Nat), (∀ d ∈ l, 128 ≤ d ∧ d ≤ 255) → l.length ≤ f → (varF f (valL (l ++ [b])) = l ++ [b] ↔ ¬ (b = 0 ∧ l ≠ []))
  | [], 0, _, _ => by simp [varF, valL]; omega
  | [], f + 1, _, _ => by
    have : ¬ (b % 128 + 128 * 0 > 127) := by omega
    simp [varF, valL]
    rw [if_neg (by omega)]
    simp; omega
  | d :: l, 0, _, h => by simp at h
  | d :: l, f + 1, hl, h => by
    obtain ⟨h0, h1⟩ := hl d (by simp)
    have ih := canon b hb0 hb l f (fun x hx => hl x (by simp [hx])) (by simp at h; omega)
    have hp := valL_nonneg (l ++ [b])
    have hv : valL (d :: l ++ [b]) = d % 128 + 128 * valL (l ++ [b]) := rfl
    by_cases hm : valL (l ++ [b]) = 0
    · have hb' : b = 0 := by
        have key : ∀ l : List Int, valL (l ++ [b]) = 0 → b = 0 := by
          intro l
          induction l with
          | nil => intro h; simp [valL] at h; omega
          | cons x l ih => intro h; simp only [List.cons_append, valL] at h; have := valL_nonneg (l ++ [b]); exact ih (by omega)
        exact key l hm
      rw [hv, hm]
      have : ¬ (d % 128 + 128 * 0 > 127) := by omega
      simp only [varF]
      rw [if_neg this]
      constructor
      · intro h
        have := congrArg List.length h
        simp at this
      · intro h
        exact absurd ⟨hb', by simp⟩ h
    · rw [hv]
      have hgt : d % 128 + 128 * valL (l ++ [b]) > 127 := by omega
      simp only [varF]
      rw [if_pos hgt]
      have e1 : (d % 128 + 128 * valL (l ++ [b])) % 128 + 128 = d := by omega
      have e2 : (d % 128 + 128 * valL (l ++ [b])) / 128 = valL (l ++ [b]) := by omega
      rw [e1, e2]
      have : (d :: varF f (valL (l ++ [b])) = d :: l ++ [b]) ↔ (varF f (valL (l ++ [b])) = l ++ [b]) := by simp
      rw [this, ih]
      cases l with
      | nil => 
        simp [valL] at hm
        simp
        omega
      | cons x l => simp
def cap : Nat → Int
  | 0 => 34359738368
  | f + 1 => cap f / 128
theorem cap_le : ∀ f, cap f ≤ 34359738368
  | 0 => Int.le_refl _
  | f + 1 => by have := cap_le f; simp only [cap]; omega
/-- The number that is read from place i on; f: how many bytes may still come. -/
def readGo (s : ByteArray) : Nat → Int → Int → Int → Int × Int × Bool
  | 0, _, _, _ => (0, 0, false)
  | f + 1, i, n, u =>
    if i < (s.size : Int) then
      if bt s i ≥ 128 then readGo s f (i + 1) (n + bt s i % 128 * u) (u * 128)
      else if bt s i = 0 ∧ u > 1 ∨ n + bt s i % 128 * u > 1000000000 then (0, 0, false)
      else (n + bt s i % 128 * u, i + 1, true)
    else (0, 0, false)
def readVar (s : ByteArray) (a : Int) : Int × Int × Bool := if 0 ≤ a ∧ a ≤ (s.size : Int) then readGo s 5 a 0 1 else (0, 0, false)
theorem take_snoc (l : List Int) (a j : Nat) (h : a + j < l.length) : (l.drop a).take (j + 1) = (l.drop a).take j ++ [rd l ((a + j : Nat) : Int)] := by
  rw [List.take_succ_eq_append_getElem (by simp; omega)]
  have e : (((a + j : Nat) : Int)).toNat = a + j := by omega
  simp only [rd, e, List.getD, List.getElem?_eq_getElem h, List.getElem_drop, Option.getD_some]
theorem step_all (b u c n : Int) (hu : 0 ≤ u) (hu1 : u ≤ c) (hc : c ≤ 268435456) (hn : 0 ≤ n) (hn1 : n < u) :
    ∃ n' : Int, n + b % 128 * u = n' ∧ wrap64 (b % 128 * u) = b % 128 * u ∧ wrap64 (n + b % 128 * u) = n' ∧ wrap64 (u * 128) = u * 128 ∧ 0 ≤ n' ∧ n' < u * 128 ∧ n' ≤ 68719476736 := by
  have h0 : 0 ≤ b % 128 * u := Int.mul_nonneg (by omega) hu
  have h1 : b % 128 * u ≤ 127 * u := Int.mul_le_mul_of_nonneg_right (by omega) hu
  generalize b % 128 * u = p at *
  exact ⟨_, rfl, w64 (by omega) (by omega), w64 (by omega) (by omega), w64 (by omega) (by omega), by omega, by omega, by omega⟩
theorem pw_pos : ∀ l, 1 ≤ pw l
  | [] => Int.le_refl _
  | _ :: l => by have := pw_pos l; simp only [pw]; omega
theorem pw_one : ∀ l, pw l > 1 ↔ l ≠ []
  | [] => by simp [pw]
  | _ :: l => by have := pw_pos l; simp [pw]; omega
/-- The text that a number was read from is its own form, unless its last byte is for nothing. -/
theorem text_canon (s : ByteArray) (a j : Nat) (v u : Int) (h : a + j < s.size) (hd : ∀ d ∈ ((bytesOf s).drop a).take j, 128 ≤ d ∧ d ≤ 255) (hj : j ≤ 9) (h1 : bt s ((a + j : Nat) : Int) < 128)
    (hv : v = valL (((bytesOf s).drop a).take (j + 1))) (hu : u = pw (((bytesOf s).drop a).take j)) :
    (varB v).toList = (s.extract (a : Int).toNat ((a + (j + 1) : Nat) : Int).toNat).toList ↔ ¬ (bt s ((a + j : Nat) : Int) = 0 ∧ u > 1) := by
  have hb := bt_range s ((a + j : Nat) : Int)
  have hts := take_snoc (bytesOf s) a j (by rw [bytesOf_length]; exact h)
  rw [rd_bytesOf] at hts
  have hcan := canon (bt s ((a + j : Nat) : Int)) hb.1 h1 _ 9 hd (by rw [List.length_take]; omega)
  rw [← hts, ← hv] at hcan
  have hby : bytesOf (s.extract (a : Int).toNat ((a + (j + 1) : Nat) : Int).toNat) = ((bytesOf s).drop a).take (j + 1) := by
    rw [bytesOf_extract]
    have e1 : ((a : Int)).toNat = a := by omega
    have e2 : ((a + (j + 1) : Nat) : Int).toNat - a = j + 1 := by omega
    rw [e1, e2]
  have hc2 : varL v = ((bytesOf s).drop a).take (j + 1) ↔ ¬ (bt s ((a + j : Nat) : Int) = 0 ∧ u > 1) := by
    rw [hu, pw_one]
    exact hcan
  rw [toList_iff, ← hc2, ← varB_bytes, ← hby]
  exact ⟨fun h => by rw [h], fun h => bytesOf_inj h⟩
theorem readGo_ok (s : ByteArray) : ∀ (f : Nat) (i n u : Int), 0 ≤ i → 0 ≤ n → 0 ≤ u → (readGo s f i n u).2.2 = true → 0 ≤ (readGo s f i n u).1 ∧ (readGo s f i n u).1 ≤ 1000000000 ∧ i < (readGo s f i n u).2.1 ∧ (readGo s f i n u).2.1 ≤ s.size := by
  intro f
  induction f with
  | zero => intro i n u _ _ _ h; simp [readGo] at h
  | succ f ih =>
    intro i n u hi hn hu h
    have hb := bt_range s i
    have hp : 0 ≤ bt s i % 128 * u := Int.mul_nonneg (by omega) hu
    simp only [readGo] at h ⊢
    split at h
    · rename_i h1
      rw [if_pos h1]
      split at h
      · rename_i h2
        rw [if_pos h2]
        have := ih (i + 1) (n + bt s i % 128 * u) (u * 128) (by omega) (by omega) (by omega) h
        exact ⟨this.1, this.2.1, by omega, this.2.2.2⟩
      · rename_i h2
        rw [if_neg h2]
        split at h
        · simp at h
        · rename_i h3
          rw [if_neg h3]
          simp only
          have h4 : ¬ (n + bt s i % 128 * u > 1000000000) := fun h => h3 (Or.inr h)
          exact ⟨by omega, by omega, by omega, by omega⟩
    · simp at h
theorem readVar_ok (s : ByteArray) (a : Int) (h : (readVar s a).2.2 = true) : 0 ≤ (readVar s a).1 ∧ (readVar s a).1 ≤ 1000000000 ∧ 0 ≤ a ∧ a < (readVar s a).2.1 ∧ (readVar s a).2.1 ≤ s.size := by
  unfold readVar at h ⊢
  split at h
  · rename_i h1
    rw [if_pos h1]
    have := readGo_ok s 5 a 0 1 (by omega) (by omega) (by omega) h
    exact ⟨this.1, this.2.1, h1.1, this.2.2⟩
  · simp at h
def readShort (s : ByteArray) (a : Int) : ByteArray × Int × Bool :=
  if (readVar s a).2.2 = true then
    if (readVar s a).1 > 60000 then ((⟨#[]⟩ : ByteArray), 0, false)
    else if (readVar s a).1 > (s.size : Int) - (readVar s a).2.1 then ((⟨#[]⟩ : ByteArray), 0, false)
    else (s.extract (readVar s a).2.1.toNat ((readVar s a).2.1 + (readVar s a).1).toNat, (readVar s a).2.1 + (readVar s a).1, true)
  else ((⟨#[]⟩ : ByteArray), 0, false)
theorem impl_ReadVar_l0 (s : ByteArray) (hs : s.size ≤ 140737488351232) (a : Int) (ha0 : 0 ≤ a) (ha1 : a ≤ s.size) : ∀ (f : Nat) (j n u : Int), j + f = 5 → 0 ≤ j → (u > 1 ↔ j > 0) → 0 ≤ n → n < u → u ≤ cap f →
    Ev (fun k => impl_ReadVar.l0 k s a n u j) (readGo s f (a + j) n u) := by
  intro f
  induction f with
  | zero =>
    intro j n u hj hj0 hju hn hnu hc
    refine Ev.succ ?_
    simp only [impl_ReadVar.l0]
    refine Ev.neg (by omega) (Ev.succ ?_)
    simp only [impl_ReadVar.j2]
    exact Ev.neg (by simp) (Ev.some_ rfl)
  | succ f ih =>
    intro j n u hj hj0 hju hn hnu hc
    refine Ev.succ ?_
    simp only [impl_ReadVar.l0]
    refine Ev.pos (by omega) (Ev.succ ?_)
    simp only [impl_ReadVar.j2]
    rw [show wrap64 (a + j) = a + j from w64 (by omega) (by omega)]
    by_cases h : a + j < (s.size : Int)
    · refine Ev.pos (by simpa using h) (Ev.pos (by omega) (Ev.pos h ?_))
      have hb := bt_range s (a + j)
      rw [show wrap64 (bt s (a + j)) = bt s (a + j) from w64 (by omega) (by omega), show Int.tmod (bt s (a + j)) 128 = bt s (a + j) % 128 from Int.tmod_eq_emod_of_nonneg hb.1, show wrap64 (j + 1) = j + 1 from w64 (by omega) (by omega), show wrap64 (a + j + 1) = a + j + 1 from w64 (by omega) (by omega)]
      have hcl := cap_le f
      simp only [cap] at hc
      obtain ⟨n', hn', e3, e4, e6, q0, q1, q2⟩ := step_all (bt s (a + j)) u (cap f / 128) n (by omega) hc (by omega) hn hnu
      rw [e3, e4, e6]
      clear e3 e4 e6
      have hgo : readGo s (f + 1) (a + j) n u = if bt s (a + j) ≥ 128 then readGo s f ((a + j) + 1) n' (u * 128)
          else if bt s (a + j) = 0 ∧ u > 1 ∨ n' > 1000000000 then (0, 0, false)
          else (n', (a + j) + 1, true) := by simp only [readGo]; rw [if_pos h, hn']
      clear hn'
      by_cases h1 : bt s (a + j) ≥ 128
      · refine Ev.pos h1 ?_
        rw [hgo, if_pos h1]
        have := ih (j + 1) n' (u * 128) (by omega) (by omega) (by omega) (by omega) (by omega) (by omega)
        have e8 : a + j + 1 = a + (j + 1) := by omega
        rw [e8]
        exact this
      · refine Ev.neg h1 ?_
        by_cases h0 : bt s (a + j) = 0
        · refine Ev.pos h0 ?_
          by_cases hj1 : j > 0
          · exact Ev.pos hj1 (Ev.some_ (by rw [hgo, if_neg h1, if_pos (Or.inl ⟨h0, hju.2 hj1⟩)]))
          refine Ev.neg hj1 ?_
          by_cases h2 : n' > 1000000000
          · exact Ev.pos h2 (Ev.some_ (by rw [hgo, if_neg h1, if_pos (Or.inr h2)]))
          · exact Ev.neg h2 (Ev.some_ (by rw [hgo, if_neg h1, if_neg (by intro h; rcases h with h | h; exact hj1 (hju.1 h.2); exact h2 h)]))
        · refine Ev.neg h0 ?_
          by_cases h2 : n' > 1000000000
          · exact Ev.pos h2 (Ev.some_ (by rw [hgo, if_neg h1, if_pos (Or.inr h2)]))
          · exact Ev.neg h2 (Ev.some_ (by rw [hgo, if_neg h1, if_neg (by intro h; rcases h with h | h; exact h0 h.1; exact h2 h)]))
    · exact Ev.neg (by simpa using h) (Ev.some_ (by simp only [readGo]; rw [if_neg h]))
theorem impl_ReadVar_ev (s : ByteArray) (hs : s.size ≤ 140737488351232) (a : Int) : Ev (fun k => impl_ReadVar.f k s a) (readVar s a) := by
  simp only [impl_ReadVar.f]
  by_cases h : a < 0
  · refine Ev.pos h (Ev.succ ?_)
    simp only [impl_ReadVar.j0]
    exact Ev.pos trivial (Ev.some_ (by rw [readVar, if_neg (by omega)]))
  refine Ev.neg h (Ev.succ ?_)
  simp only [impl_ReadVar.j0]
  by_cases h1 : a > (s.size : Int)
  · exact Ev.pos (by simpa using h1) (Ev.some_ (by rw [readVar, if_neg (by omega)]))
  · refine Ev.neg (by simpa using h1) ?_
    rw [readVar, if_pos (by omega)]
    have := impl_ReadVar_l0 s hs a (by omega) (by omega) 5 0 0 1 rfl (by omega) (by omega) (by omega) (by omega) (by simp [cap])
    rw [Int.add_zero] at this
    exact this
theorem impl_ReadShort_ev (s : ByteArray) (hs : s.size ≤ 140737488351232) (a : Int) : Ev (fun k => impl_ReadShort.f k s a) (readShort s a) := by
  simp only [impl_ReadShort.f]
  refine Ev.bnd (impl_ReadVar_ev s hs a) ?_
  by_cases h : (readVar s a).2.2 = true
  · refine Ev.pos h ?_
    obtain ⟨h0, h1, h2, h3, h4⟩ := readVar_ok s a h
    rw [w64 (by omega) (by omega), w64 (by omega) (by omega)]
    by_cases h5 : (readVar s a).1 > 60000
    · exact Ev.pos h5 (Ev.some_ (by rw [readShort, if_pos h, if_pos h5]))
    refine Ev.neg h5 ?_
    by_cases h6 : (readVar s a).1 > (s.size : Int) - (readVar s a).2.1
    · exact Ev.pos h6 (Ev.some_ (by rw [readShort, if_pos h, if_neg h5, if_pos h6]))
    exact Ev.neg h6 (Ev.pos (by omega) (Ev.pos (by omega) (Ev.pos (by omega) (Ev.some_ (by rw [readShort, if_pos h, if_neg h5, if_neg h6])))))
  · exact Ev.neg h (Ev.some_ (by rw [readShort, if_neg h]))
theorem val_fig (d : Int) (h0 : 0 ≤ d) (h1 : d < 16) : val (fig d) = d := by
  unfold val fig
  by_cases h : d < 10
  · rw [if_pos h, if_pos (by omega)]; omega
  · rw [if_neg h, if_neg (by omega), if_pos (by omega)]; omega
theorem unhex_hex : ∀ (l acc : List Int), (∀ b ∈ l, IsByte b) → unhexGo (hexL l) acc = (strOfNums (acc ++ l), true)
  | [], acc, _ => by rw [hexL, unhexGo, List.append_nil]
  | b :: l, acc, h => by
    have hb := h b (by simp)
    unfold IsByte at hb
    rw [hexL, unhexGo, val_fig _ (by omega) (by omega), val_fig _ (by omega) (by omega), if_neg (by omega), if_neg (by omega), unhex_hex l _ (fun x hx => h x (List.mem_cons_of_mem _ hx)), show 16 * (b / 16) + b % 16 = b from by omega, List.append_assoc, List.singleton_append]
theorem hexL_length : ∀ l : List Int, (hexL l).length = 2 * l.length
  | [] => rfl
  | b :: l => by rw [hexL, List.length_cons, List.length_cons, hexL_length l, List.length_cons]; omega
theorem fig_byte (d : Int) (h0 : 0 ≤ d) (h1 : d < 16) : IsByte (fig d) := by
  unfold IsByte fig
  split <;> omega
theorem hexL_byte : ∀ (l : List Int), (∀ b ∈ l, IsByte b) → ∀ x ∈ hexL l, IsByte x
  | [], _, x, hx => by simp [hexL] at hx
  | b :: l, h, x, hx => by
    have hb := h b (by simp)
    unfold IsByte at hb
    rw [hexL] at hx
    rcases List.mem_cons.1 hx with rfl | hx
    · exact fig_byte _ (by omega) (by omega)
    · rcases List.mem_cons.1 hx with rfl | hx
      · exact fig_byte _ (by omega) (by omega)
      · exact hexL_byte l (fun y hy => h y (List.mem_cons_of_mem _ hy)) x hx
/-- Unhex undoes Hex. -/
theorem unhex_of_hex (s : ByteArray) (h : s.size ≤ 60000) : hexR s = (strOfNums (hexL (bytesOf s)), true) ∧ (strOfNums (hexL (bytesOf s))).size = 2 * s.size ∧ unhexR (strOfNums (hexL (bytesOf s))) = (s, true) := by
  have hz : (strOfNums (hexL (bytesOf s))).size = 2 * s.size := by rw [strOfNums_size, hexL_length, bytesOf_length]
  refine ⟨by unfold hexR; rw [if_neg (by omega)], hz, ?_⟩
  unfold unhexR
  rw [if_neg (by rw [hz]; omega), bytesOf_strOf _ (hexL_byte _ (bytesOf_isByte s)), unhex_hex _ _ (bytesOf_isByte s), List.nil_append, strOf_bytesOf]
theorem extract_left (s t : ByteArray) : (s ++ t).extract 0 s.size = s := by
  apply bytesOf_inj
  rw [bytesOf_extract, bytesOf_append, List.drop_zero, Nat.sub_zero, List.take_left' (bytesOf_length s)]
theorem extract_right (s t : ByteArray) : (s ++ t).extract s.size (s.size + t.size) = t := by
  apply bytesOf_inj
  rw [bytesOf_extract, bytesOf_append, List.drop_left' (bytesOf_length s), Nat.add_sub_cancel_left, List.take_of_length_le (by rw [bytesOf_length]; exact Nat.le_refl _)]
theorem sumB_size (s : ByteArray) : (sumB s).size = 4 := by
  unfold sumB fourB
  rw [strOfNums_size]
  rfl
/-- Unsealed undoes Sealed. -/
theorem unsealed_of_sealed (s : ByteArray) (h : s.size ≤ 60000) : sealed s = (s ++ sumB s, true) ∧ (s ++ sumB s).size = s.size + 4 ∧ unsealed (s ++ sumB s) = (s, true) := by
  have hz : (s ++ sumB s).size = s.size + 4 := by rw [size_append, sumB_size]
  refine ⟨by unfold sealed; rw [if_neg (by omega)], hz, ?_⟩
  unfold unsealed
  rw [hz, if_neg (by omega), if_neg (by omega), Nat.add_sub_cancel, extract_left, show s.size + 4 = s.size + (sumB s).size from by rw [sumB_size], extract_right, if_pos rfl]
theorem varF_fits : ∀ (f d : Nat) (n : Int), Fits f n → varF (f + d) n = varF f n
  | 0, 0, _, _ => rfl
  | 0, d + 1, n, h => by
    simp only [Fits] at h
    rw [show 0 + (d + 1) = d + 1 from by omega]
    simp only [varF]
    rw [if_neg (by omega)]
  | f + 1, d, n, h => by
    simp only [Fits] at h
    rw [show f + 1 + d = (f + d) + 1 from by omega]
    simp only [varF]
    rw [varF_fits f d _ h]
theorem drop_head (t : ByteArray) (a : Nat) (x : Int) (l : List Int) (h : (bytesOf t).drop a = x :: l) : a < t.size ∧ bt t (a : Int) = x ∧ (bytesOf t).drop (a + 1) = l := by
  have hlt : a < t.size := by
    by_cases c : a < t.size
    · exact c
    · rw [List.drop_eq_nil_iff.2 (by rw [bytesOf_length]; omega)] at h
      cases h
  rw [drop_bt t a hlt] at h
  injection h with h1 h2
  exact ⟨hlt, h1, h2⟩
theorem mul_parts (n m u : Int) : m + n % 128 * u + n / 128 * (u * 128) = m + n * u := by
  have h : n % 128 + 128 * (n / 128) = n := by omega
  have h2 : n / 128 * (u * 128) = 128 * (n / 128) * u := by rw [Int.mul_comm u 128, ← Int.mul_assoc, Int.mul_comm (n / 128) 128]
  rw [Int.add_assoc, h2, ← Int.add_mul, h]
/-- A number's bytes are read as the number. -/
theorem readGo_var (t : ByteArray) (rest : List Int) : ∀ (f g : Nat) (n : Int) (a : Nat) (m u : Int), 0 ≤ n → Fits f n → f < g → (bytesOf t).drop a = varF f n ++ rest → 1 ≤ u → m + n * u ≤ 1000000000 → (0 < n ∨ u = 1) →
    readGo t g (a : Int) m u = (m + n * u, (a : Int) + ((varF f n).length : Int), true)
  | f, 0, _, _, _, _, _, _, h, _, _, _, _ => by omega
  | 0, g + 1, n, a, m, u, h0, hf, _, hd, hu, hm, hp => by
    simp only [Fits] at hf
    simp only [varF, List.cons_append, List.nil_append] at hd
    obtain ⟨hlt, hb, _⟩ := drop_head t a _ _ hd
    have e : bt t (a : Int) = n := by rw [hb]; omega
    simp only [readGo, varF, List.length_singleton]
    rw [if_pos (by omega), e, if_neg (by omega), show n % 128 = n from by omega, if_neg (by
      rintro (⟨h1, h2⟩ | h1)
      · rcases hp with hp | hp <;> omega
      · omega)]
    rfl
  | f + 1, g + 1, n, a, m, u, h0, hf, hg, hd, hu, hm, hp => by
    simp only [Fits] at hf
    simp only [varF] at hd ⊢
    by_cases c : n > 127
    · rw [if_pos c] at hd ⊢
      rw [List.cons_append] at hd
      obtain ⟨hlt, hb, hd2⟩ := drop_head t a _ _ hd
      have hq := mul_parts n m u
      simp only [readGo]
      rw [if_pos (by omega), hb, if_pos (by omega), show (n % 128 + 128) % 128 = n % 128 from by omega]
      have := readGo_var t rest f g (n / 128) (a + 1) (m + n % 128 * u) (u * 128) (by omega) hf (by omega) hd2 (by omega) (by rw [hq]; exact hm) (.inl (by omega))
      rw [show ((a : Int) + 1) = ((a + 1 : Nat) : Int) from by omega, this, hq, List.length_cons]
      simp only [Prod.mk.injEq, and_true, true_and]
      omega
    · rw [if_neg c] at hd ⊢
      rw [List.cons_append, List.nil_append] at hd
      obtain ⟨hlt, hb, _⟩ := drop_head t a _ _ hd
      have e : bt t (a : Int) = n := by rw [hb]; omega
      simp only [readGo, List.length_singleton]
      rw [if_pos (by omega), e, if_neg (by omega), show n % 128 = n from by omega, if_neg (by
        rintro (⟨h1, h2⟩ | h1)
        · rcases hp with hp | hp <;> omega
        · omega)]
      rfl
/-- .. a number up to a thousand millions. -/
theorem readVar_var (t : ByteArray) (a : Nat) (n : Int) (rest : List Int) (h0 : 0 ≤ n) (h1 : n ≤ 1000000000) (hd : (bytesOf t).drop a = varL n ++ rest) : readVar t (a : Int) = (n, (a : Int) + ((varL n).length : Int), true) := by
  have hF : Fits 4 n := by simp only [Fits]; omega
  have e : varL n = varF 4 n := varF_fits 4 5 n hF
  rw [e] at hd ⊢
  have hlt : a ≤ t.size := by
    by_cases c : a ≤ t.size
    · exact c
    · rw [List.drop_eq_nil_iff.2 (by rw [bytesOf_length]; omega)] at hd
      have := congrArg List.length hd
      have hv : 1 ≤ (varF 4 n).length := by
        simp only [varF]
        split <;> (simp only [List.length_cons, List.length_nil]; omega)
      rw [List.length_append, List.length_nil] at this
      omega
  unfold readVar
  rw [if_pos ⟨by omega, by omega⟩]
  have := readGo_var t rest 4 5 n a 0 1 h0 hF (by omega) hd (by omega) (by omega) (.inr rfl)
  rw [this]
  simp
/-- ReadShort undoes ShortText. -/
theorem readShort_of_short (s : ByteArray) (h : s.size ≤ 60000) : shortText s = (varB s.size ++ s, true) ∧ readShort (varB s.size ++ s) 0 = (s, ((varB s.size ++ s).size : Int), true) := by
  refine ⟨by unfold shortText; rw [if_neg (by omega)], ?_⟩
  have hl : (varL s.size).length = (varB s.size).size := (congrArg List.length (varB_bytes s.size)).symm.trans (bytesOf_length _)
  have hv : readVar (varB s.size ++ s) 0 = ((s.size : Int), ((varB s.size).size : Int), true) := by
    have := readVar_var (varB s.size ++ s) 0 s.size (bytesOf s) (by omega) (by omega) (by rw [List.drop_zero, bytesOf_append, varB_bytes])
    rw [hl] at this
    rw [show ((0 : Nat) : Int) = 0 from rfl] at this
    rw [this]
    simp
  have hz : (varB s.size ++ s).size = (varB s.size).size + s.size := size_append _ _
  unfold readShort
  rw [hv]
  simp only [if_true]
  rw [if_neg (by omega), if_neg (by omega), hz]
  have e1 : (((varB s.size).size : Int)).toNat = (varB s.size).size := by omega
  have e2 : (((varB s.size).size : Int) + (s.size : Int)).toNat = (varB s.size).size + s.size := by omega
  rw [e1, e2, extract_right]
  simp
theorem laws_FnTexts_j0 (s : ByteArray) (h : s.size ≤ 60000) : Ev (fun k => laws_FnTexts.j0 k s) true := by
  obtain ⟨h1, h2⟩ := readShort_of_short s h
  obtain ⟨h3, h4, h5⟩ := unhex_of_hex s h
  obtain ⟨h6, h7, h8⟩ := unsealed_of_sealed s h
  have hv := varB_size s.size
  have hz : (varB s.size ++ s).size = (varB s.size).size + s.size := size_append _ _
  refine Ev.succ ?_
  simp only [laws_FnTexts.j0]
  refine Ev.bnd (Ev_eq (impl_ShortText_ev s) h1) (Ev.bnd (Ev_eq (impl_ReadShort_ev _ (by simp only; omega) 0) h2) (Ev.bnd (Ev_eq (impl_Hex_ev s (by omega)) h3) (Ev.bnd (Ev_eq (impl_Unhex_ev _ (by simp only; omega)) h5) (Ev.bnd (Ev_eq (impl_Sealed_ev s) h6) (Ev.bnd (Ev_eq (impl_Unsealed_ev _ (by simp only; omega)) h8) ?_)))))
  refine Ev.pos rfl (Ev.pos rfl (Ev.pos rfl (Ev.pos rfl (Ev.pos rfl (Ev.pos rfl (Ev.pos rfl (Ev.pos rfl (Ev.pos rfl (Ev.pos rfl (Ev.some_ ?_))))))))))
  rw [h7, w64 (by omega) (by omega)]
  simp
theorem FnTexts : laws_FnTexts.Pure := by
  intro l hl
  refine Ev.rounds (r := true) ?_
  simp only [laws_FnTexts.f]
  refine Ev.bnd0 (laws_big_eq l) ?_
  by_cases hb : (decide ((l.length : Int) > 1048576)) = true
  · exact Ev.pos hb (Ev.now _)
  · refine Ev.neg hb ?_
    obtain ⟨t, ht, hz⟩ := spec_DrawShortText_ev l (by omega)
    refine Ev.bnd ht ?_
    by_cases h : (t.size : Int) > 60000
    · exact Ev.pos h (laws_FnTexts_j0 _ (by decide))
    · exact Ev.neg h (laws_FnTexts_j0 t (by omega))

end Go.Proofs.Ytgaidbbfimdogaa.Pure
