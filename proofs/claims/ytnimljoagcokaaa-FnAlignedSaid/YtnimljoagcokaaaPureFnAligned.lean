/- Of two drawn lists of lines, Align pairs equal lines in order, as many as the longest common part has, both ways round. -/
import Derived.Test.YtnimljoagcokaaaPFnAlignedx7
import Derived.Test.YtnimljoagcokaaaLcs
import Derived.Test.YtnimljoagcokaaaGen
namespace Go.Proofs.Ytnimljoagcokaaa.Pure
open Go.RowKit Go.Proofs.Ytnimljoagcokaaa.PFnAligned Go.Proofs.YtnimljoagcokaaaW.PrintWords Go.Proofs.YtnimljoagcokaaaW.PrintLast Go.Proofs.YtnimljoagcokaaaG Go.Proofs.YtnimljoagcokaaaL

theorem laws_big_eq (l : List Int) : laws_big.f l = some (decide ((l.length : Int) > 1048576)) := rfl
/-! what is drawn: the cursor never fails -/
theorem and255 (x : Int) : 0 ≤ Go.bits .and .i64 x 255 ∧ Go.bits .and .i64 x 255 ≤ 255 := by
  have h : (BitVec.ofInt IntKind.i64.bits x).toNat &&& (BitVec.ofInt IntKind.i64.bits 255).toNat ≤ 255 := by
    have e : (BitVec.ofInt IntKind.i64.bits 255).toNat = 255 := by rfl
    rw [e]
    exact Nat.and_le_right
  simp only [Go.bits, BitVec.toNat_and]
  rw [IntKind.wrap_i64]
  omega
theorem spec_l01Byte_eq (s : List Int) (i h : Int) (hi : 0 ≤ i) (hs : s.length ≤ 140737488351232) : ∃ v i' h', spec_l01Byte.f s i h = some (v, i', h') ∧ 0 ≤ v ∧ v ≤ 255 ∧ 0 ≤ i' := by
  unfold spec_l01Byte.f
  by_cases c : i < (s.length : Int)
  · rw [if_pos c, if_pos hi, show wrap64 (i + 1) = i + 1 from w64 (by omega) (by omega)]
    exact ⟨_, _, _, rfl, (and255 _).1, (and255 _).2, by omega⟩
  · rw [if_neg c]
    exact ⟨_, _, _, rfl, (and255 _).1, (and255 _).2, hi⟩
theorem spec_l01Below_eq (s : List Int) (i h n : Int) (hi : 0 ≤ i) (hs : s.length ≤ 140737488351232) (h0 : 1 ≤ n) (h1 : n ≤ 256) : ∃ v i' h', spec_l01Below.f s i h n = some (v, i', h') ∧ 0 ≤ v ∧ v < n ∧ 0 ≤ i' := by
  obtain ⟨v, i', h', e, v0, v1, hi'⟩ := spec_l01Byte_eq s i h hi hs
  unfold spec_l01Below.f
  rw [if_neg (by omega), if_pos h1, e, Option.bind_some, if_neg (by omega)]
  refine ⟨_, _, _, rfl, ?_, ?_, hi'⟩
  · rw [Int.tmod_eq_emod_of_nonneg v0]
    exact Int.emod_nonneg _ (by omega)
  · rw [Int.tmod_eq_emod_of_nonneg v0]
    exact Int.emod_lt_of_pos _ (by omega)
theorem spec_l01Pick_eq (s : List Int) (i h : Int) (l : List ByteArray) (hi : 0 ≤ i) (hs : s.length ≤ 140737488351232) (h0 : 1 ≤ l.length) (h1 : l.length ≤ 256) : ∃ v i' h', spec_l01Pick.f s i h l = some (v, i', h') ∧ v ∈ l ∧ 0 ≤ i' := by
  obtain ⟨v, i', h', e, v0, v1, hi'⟩ := spec_l01Below_eq s i h (l.length : Int) hi hs (by omega) (by omega)
  unfold spec_l01Pick.f
  rw [e, Option.bind_some, if_pos v0, if_pos v1]
  refine ⟨_, _, _, rfl, ?_, hi'⟩
  obtain ⟨j, rfl⟩ := Int.eq_ofNat_of_zero_le v0
  rw [rdOf_nat _ _ _ (by omega)]
  exact List.getElem_mem _
theorem spec_l03Line_eq (s : List Int) (i h : Int) (hi : 0 ≤ i) (hs : s.length ≤ 140737488351232) : ∃ v i' h', spec_l03Line.f s i h = some (v, i', h') ∧ lineOk v = true ∧ 0 ≤ i' := by
  unfold spec_l03Line.f
  obtain ⟨v, i', h', e, hv, hi'⟩ := spec_l01Pick_eq s i h [(⟨#[97]⟩ : ByteArray), (⟨#[98]⟩ : ByteArray), (⟨#[99]⟩ : ByteArray), (⟨#[100]⟩ : ByteArray), (⟨#[101]⟩ : ByteArray), (⟨#[]⟩ : ByteArray), (⟨#[105, 102, 32, 120]⟩ : ByteArray), (⟨#[101, 110, 100]⟩ : ByteArray), (⟨#[97]⟩ : ByteArray), (⟨#[98]⟩ : ByteArray)] hi hs (by simp) (by simp)
  rw [e, Option.bind_some]
  refine ⟨_, _, _, rfl, ?_, hi'⟩
  simp only [List.mem_cons, List.not_mem_nil, or_false] at hv
  rcases hv with rfl | rfl | rfl | rfl | rfl | rfl | rfl | rfl | rfl | rfl <;> rfl
theorem spec_l01New_ev (s : List Int) : ∃ h, Ev (fun k => spec_l01New.f k s) (s, 0, h) := by
  simp only [spec_l01New.f]
  have key : ∀ (n i : Nat) (h : Int), i + n = s.length → ∃ h', Ev (fun k => spec_l01New.l0 k s h (i : Int)) (s, 0, h') := by
    intro n
    induction n with
    | zero =>
      intro i h hi
      refine ⟨h, Ev.succ ?_⟩
      simp only [spec_l01New.l0]
      exact Ev.neg (by omega) (Ev.now _)
    | succ n ih =>
      intro i h hi
      by_cases c : (i : Int) < 4000
      · obtain ⟨h', hh⟩ := ih (i + 1) (Go.bits .and .i64 (wrap64 ((wrap64 ((wrap64 (h * 131)) + (wrap64 (rd s (i : Int))))) + 7)) 1073741823) (by omega)
        refine ⟨h', Ev.succ ?_⟩
        simp only [spec_l01New.l0]
        rw [up1 i (by omega)]
        exact Ev.pos (by omega) (Ev.pos c (Ev.pos (by omega) hh))
      · refine ⟨h, Ev.succ ?_⟩
        simp only [spec_l01New.l0]
        exact Ev.pos (by omega) (Ev.neg c (Ev.now _))
  exact key s.length 0 _ (by omega)
theorem allOk_snoc {l : List ByteArray} {x : ByteArray} (h : allOk l = true) (hx : lineOk x = true) : allOk (l ++ [x]) = true := by
  simp only [allOk, List.all_append, List.all_cons, List.all_nil, Bool.and_true, Bool.and_eq_true]
  exact ⟨h, hx⟩
theorem allOk_get {l : List ByteArray} (h : allOk l = true) (i : Nat) (hi : i < l.length) : lineOk l[i] = true := List.all_eq_true.1 h _ (List.getElem_mem hi)
theorem spec_l03Lines_ev (s : List Int) (i h : Int) (m : Nat) (hi : 0 ≤ i) (hs : s.length ≤ 140737488351232) (hm : m ≤ 250) : ∃ r i' h', Ev (fun k => spec_l03Lines.f k s i h (m : Int)) (r, i', h') ∧ r.length ≤ m ∧ allOk r = true ∧ 0 ≤ i' := by
  simp only [spec_l03Lines.f]
  have key : ∀ (n j : Nat) (acc : List ByteArray) (i h : Int), j + n = m → 0 ≤ i → acc.length = j → allOk acc = true → ∃ r i' h', Ev (fun k => spec_l03Lines.l0 k (m : Int) acc (j : Int) s i h) (r, i', h') ∧ r.length ≤ m ∧ allOk r = true ∧ 0 ≤ i' := by
    intro n
    induction n with
    | zero =>
      intro j acc i h hj hi hl ha
      obtain ⟨v, i', h', e, v0, v1, hi'⟩ := spec_l01Below_eq s i h ((m + 1 : Nat) : Int) hi hs (by omega) (by omega)
      refine ⟨acc, i', h', Ev.succ ?_, by omega, ha, hi'⟩
      simp only [spec_l03Lines.l0]
      rw [up1 m (by omega)]
      exact Ev.bnd0 e (Ev.neg (by simp only; omega) (Ev.now _))
    | succ n ih =>
      intro j acc i h hj hi hl ha
      obtain ⟨v, i', h', e, v0, v1, hi'⟩ := spec_l01Below_eq s i h ((m + 1 : Nat) : Int) hi hs (by omega) (by omega)
      by_cases c : (j : Int) < v
      · obtain ⟨x, i2, h2, e2, hx, hi2⟩ := spec_l03Line_eq s i' h' hi' hs
        obtain ⟨r, i3, h3, hr, hrl, hra, hi3⟩ := ih (j + 1) (acc ++ [x]) i2 h2 (by omega) hi2 (by simp; omega) (allOk_snoc ha hx)
        refine ⟨r, i3, h3, Ev.succ ?_, hrl, hra, hi3⟩
        simp only [spec_l03Lines.l0]
        rw [up1 m (by omega), up1 j (by omega)]
        exact Ev.bnd0 e (Ev.pos c (Ev.bnd0 e2 (Ev.pos (by omega) hr)))
      · refine ⟨acc, i', h', Ev.succ ?_, by omega, ha, hi'⟩
        simp only [spec_l03Lines.l0]
        rw [up1 m (by omega)]
        exact Ev.bnd0 e (Ev.neg c (Ev.now _))
  exact key m 0 [] i h (by omega) hi rfl rfl
theorem spec_l01Once_eq (s : List Int) (i h n : Int) (hi : 0 ≤ i) (hs : s.length ≤ 140737488351232) (h0 : 1 ≤ n) (h1 : n ≤ 256) : ∃ v i' h', spec_l01Once.f s i h n = some (v, i', h') ∧ 0 ≤ i' := by
  obtain ⟨v, i', h', e, v0, v1, hi'⟩ := spec_l01Below_eq s i h n hi hs h0 h1
  unfold spec_l01Once.f
  rw [e, Option.bind_some]
  exact ⟨_, _, _, rfl, hi'⟩
theorem spec_l04Near_ev (s : List Int) (i h : Int) (a : List ByteArray) (hi : 0 ≤ i) (hs : s.length ≤ 140737488351232) (hm : a.length ≤ 250) (ha : allOk a = true) : ∃ r i' h', Ev (fun k => spec_l04Near.f k s i h a) (r, i', h') ∧ r.length ≤ 2 * a.length + 1 ∧ allOk r = true := by
  simp only [spec_l04Near.f]
  have key : ∀ (n j : Nat) (acc : List ByteArray) (i h : Int), j + n = a.length → 0 ≤ i → acc.length ≤ 2 * j → allOk acc = true → ∃ r i' h', Ev (fun k => spec_l04Near.l0 k a acc (j : Int) s i h) (r, i', h') ∧ r.length ≤ 2 * a.length + 1 ∧ allOk r = true := by
    intro n
    induction n with
    | zero =>
      intro j acc i h hj hi hl hc
      obtain ⟨v, i', h', e, hi'⟩ := spec_l01Once_eq s i h 4 hi hs (by omega) (by omega)
      by_cases c : v = true
      · obtain ⟨x, i2, h2, e2, hx, hi2⟩ := spec_l03Line_eq s i' h' hi' hs
        refine ⟨acc ++ [x], i2, h2, Ev.succ ?_, by simp; omega, allOk_snoc hc hx⟩
        simp only [spec_l04Near.l0]
        exact Ev.neg (by omega) (Ev.bnd0 e (Ev.pos c (Ev.bnd0 e2 (Ev.pos (by omega) (Ev.now _)))))
      · refine ⟨acc, i', h', Ev.succ ?_, by omega, hc⟩
        simp only [spec_l04Near.l0]
        exact Ev.neg (by omega) (Ev.bnd0 e (Ev.neg c (Ev.now _)))
    | succ n ih =>
      intro j acc i h hj hi hl hc
      have hja : j < a.length := by omega
      obtain ⟨v, i', h', e, v0, v1, hi'⟩ := spec_l01Below_eq s i h 6 hi hs (by omega) (by omega)
      obtain ⟨x, i2, h2, e2, hx, hi2⟩ := spec_l03Line_eq s i' h' hi' hs
      by_cases c0 : v = 0
      · obtain ⟨r, i3, h3, hr, hrl, hra⟩ := ih (j + 1) (acc ++ [x]) i2 h2 (by omega) hi2 (by simp; omega) (allOk_snoc hc hx)
        refine ⟨r, i3, h3, Ev.succ ?_, hrl, hra⟩
        simp only [spec_l04Near.l0]
        rw [up1 j (by omega)]
        exact Ev.pos (by omega) (Ev.bnd0 e (Ev.pos c0 (Ev.bnd0 e2 (Ev.pos (by omega) hr))))
      by_cases c1 : v = 1
      · obtain ⟨r, i3, h3, hr, hrl, hra⟩ := ih (j + 1) (acc ++ [x, a[j]]) i2 h2 (by omega) hi2 (by simp; omega) (by
          have := allOk_snoc (allOk_snoc hc hx) (allOk_get ha j hja)
          rw [List.append_assoc] at this
          exact this)
        refine ⟨r, i3, h3, Ev.succ ?_, hrl, hra⟩
        simp only [spec_l04Near.l0]
        rw [up1 j (by omega), rdOf_nat _ _ _ hja]
        exact Ev.pos (by omega) (Ev.bnd0 e (Ev.neg c0 (Ev.pos c1 (Ev.bnd0 e2 (Ev.pos (by omega) (Ev.bnd0 rfl (Ev.pos (by simp; omega) hr)))))))
      by_cases c2 : v = 2
      · obtain ⟨r, i3, h3, hr, hrl, hra⟩ := ih (j + 1) acc i' h' (by omega) hi' (by omega) hc
        refine ⟨r, i3, h3, Ev.succ ?_, hrl, hra⟩
        simp only [spec_l04Near.l0]
        rw [up1 j (by omega)]
        exact Ev.pos (by omega) (Ev.bnd0 e (Ev.neg c0 (Ev.neg c1 (Ev.pos c2 hr))))
      · obtain ⟨r, i3, h3, hr, hrl, hra⟩ := ih (j + 1) (acc ++ [a[j]]) i' h' (by omega) hi' (by simp; omega) (allOk_snoc hc (allOk_get ha j hja))
        refine ⟨r, i3, h3, Ev.succ ?_, hrl, hra⟩
        simp only [spec_l04Near.l0]
        rw [up1 j (by omega), rdOf_nat _ _ _ hja]
        exact Ev.pos (by omega) (Ev.bnd0 e (Ev.neg c0 (Ev.neg c1 (Ev.neg c2 (Ev.pos (by omega) (Ev.pos (by omega) hr))))))
  exact key a.length 0 [] i h (by omega) hi (by simp) rfl
/-- Two lists of lines are drawn, both right ones. -/
theorem spec_DrawNear_ev (s : List Int) (hs : s.length ≤ 140737488351232) : ∃ a b, Ev (fun k => spec_DrawNear.f k s) (a, b) ∧ linesOk 300 a = true ∧ linesOk 300 b = true := by
  obtain ⟨h, hh⟩ := spec_l01New_ev s
  obtain ⟨a, i1, h1, e1, l1, o1, p1⟩ := spec_l03Lines_ev s 0 h 14 (by omega) hs (by omega)
  obtain ⟨b, i2, h2, e2, l2, o2⟩ := spec_l04Near_ev s i1 h1 a p1 hs (by omega) o1
  refine ⟨a, b, ?_, ?_, ?_⟩
  · simp only [spec_DrawNear.f]
    exact Ev.bnd hh (Ev.bnd e1 (Ev.bnd e2 (Ev.now _)))
  · rw [linesOk, o1, Bool.and_true, decide_eq_true_eq]; omega
  · rw [linesOk, o2, Bool.and_true, decide_eq_true_eq]; omega
theorem allOk_sized {l : List ByteArray} (h : linesOk 300 l = true) : Sized l := by
  rw [linesOk, Bool.and_eq_true, decide_eq_true_eq] at h
  refine ⟨by omega, fun x hx => ?_⟩
  have := lineOk_size (List.all_eq_true.1 h.2 x hx)
  omega
theorem spec_LineOk_ev (s : ByteArray) (hs : s.size ≤ 140737488351232) : Ev (fun k => spec_LineOk.f k s) (lineOk s) := by
  simp only [spec_LineOk.f]
  have key : ∀ (n i : Nat), i + n = s.size → Ev (fun k => spec_LineOk.l0 k s (i : Int)) (decide ((10 : Int) ∉ (bytesOf s).drop i ∧ s.size ≤ 60)) := by
    intro n
    induction n with
    | zero =>
      intro i hi
      refine Ev.succ ?_
      simp only [spec_LineOk.l0]
      refine Ev.neg (by omega) (Ev.some_ ?_)
      rw [drop_end _ _ (by rw [bytesOf_length]; omega)]
      simp
      omega
    | succ n ih =>
      intro i hi
      refine Ev.succ ?_
      simp only [spec_LineOk.l0]
      refine Ev.pos (by omega) (Ev.pos (by omega) ?_)
      rw [up1 i (by omega), drop_bt s i (by omega)]
      by_cases h : bt s (i : Int) = 10
      · exact Ev.pos h (Ev.some_ (by simp [h]))
      · refine Ev.neg h (Ev_eq (ih (i + 1) (by omega)) ?_)
        have : ((10 : Int) ∉ bt s (i : Int) :: (bytesOf s).drop (i + 1)) ↔ ((10 : Int) ∉ (bytesOf s).drop (i + 1)) := by
          rw [List.mem_cons]
          constructor
          · intro h1 h2; exact h1 (.inr h2)
          · intro h1 h2
            rcases h2 with h2 | h2
            · exact h h2.symm
            · exact h1 h2
        simp only [this]
  exact key s.size 0 (by omega)
theorem spec_l03All_ev (l : List ByteArray) (m : Int) (hl : Sized l) : Ev (fun k => spec_l03All.f k l m) (linesOk m l) := by
  simp only [spec_l03All.f]
  by_cases h : (l.length : Int) > m
  · refine Ev.pos h (Ev.some_ ?_)
    simp only [linesOk]
    rw [show decide ((l.length : Int) ≤ m) = false from by simp; omega]
    rfl
  refine Ev.neg h ?_
  have key : ∀ (n i : Nat), i + n = l.length → Ev (fun k => spec_l03All.l0 k l (i : Int)) (allOk (l.drop i)) := by
    intro n
    induction n with
    | zero =>
      intro i hi
      refine Ev.succ ?_
      simp only [spec_l03All.l0]
      refine Ev.neg (by omega) (Ev.some_ ?_)
      rw [drop_end l i (by omega)]
      rfl
    | succ n ih =>
      intro i hi
      refine Ev.succ ?_
      simp only [spec_l03All.l0]
      have hlt := hl.1
      refine Ev.pos (by omega) (Ev.pos (by omega) (Ev.bnd (spec_LineOk_ev _ (hl.2 _ (rdOf_mem _ l i (by omega)))) ?_))
      rw [up1 i (by omega), drop_rdOf ByteArray.empty l i (by omega)]
      by_cases hx : lineOk (rdOf ByteArray.empty l (i : Int)) = true
      · refine Ev.pos hx (Ev_eq (ih (i + 1) (by omega)) ?_)
        simp only [allOk, List.all_cons, hx, Bool.true_and]
      · refine Ev.neg hx (Ev.some_ ?_)
        simp only [allOk, List.all_cons, Bool.not_eq_true _ ▸ hx]
        simp
  refine Ev_eq (key l.length 0 (by omega)) ?_
  simp only [linesOk, List.drop_zero]
  rw [show decide ((l.length : Int) ≤ m) = true from by simp; omega]
  rfl
theorem impl_LineOk_eq (s : ByteArray) : impl_LineOk.f s = some (lineOk s) := by
  simp only [impl_LineOk.f]
  by_cases h : (s.size : Int) ≤ 60
  · rw [if_pos h]
    simp only [strings_Contains.f]
    rw [if_pos (by rfl)]
    simp only [Option.bind_some]
    congr 1
    have h1 := indexByte_mem 10 s.data.toList
    have h2 := byte_mem s 10
    simp only [lineOk]
    rw [← decide_not]
    congr 1
    rw [show (⟨#[10]⟩ : ByteArray).data.toList.headD 0 = (10 : UInt8) from rfl, h1, h2]
    simp only [eq_iff_iff]
    constructor
    · intro h3; exact ⟨h3, by omega⟩
    · intro h3; exact h3.1
  · rw [if_neg h]
    congr 1
    simp only [lineOk]
    symm
    rw [decide_eq_false_iff_not]
    omega
theorem impl_areLines_ev (l : List ByteArray) (hl : l.length ≤ 140737488351232) : Ev (fun k => impl_areLines.f k l) (allOk l) := by
  simp only [impl_areLines.f]
  have key : ∀ (n i : Nat), i + n = l.length → Ev (fun k => impl_areLines.l0 k l (l.length : Int) (i : Int)) (allOk (l.drop i)) := by
    intro n
    induction n with
    | zero =>
      intro i hi
      refine Ev.succ ?_
      simp only [impl_areLines.l0]
      refine Ev.neg (by omega) (Ev.some_ ?_)
      rw [drop_end l i (by omega)]
      rfl
    | succ n ih =>
      intro i hi
      refine Ev.succ ?_
      simp only [impl_areLines.l0]
      refine Ev.pos (by omega) (Ev.pos (by omega) (Ev.pos (by omega) (Ev.bnd0 (impl_LineOk_eq _) ?_)))
      rw [up1 i (by omega), drop_rdOf ByteArray.empty l i (by omega)]
      by_cases hx : lineOk (rdOf ByteArray.empty l (i : Int)) = true
      · refine Ev.pos hx (Ev_eq (ih (i + 1) (by omega)) ?_)
        simp only [allOk, List.all_cons, hx, Bool.true_and]
      · refine Ev.neg hx (Ev.some_ ?_)
        simp only [allOk, List.all_cons]
        simp [Bool.eq_false_iff.2 hx]
  exact key l.length 0 (by omega)
theorem spec_l04Ok_ev (l : List ByteArray) (hl : Sized l) : Ev (fun k => spec_l04Ok.f k l) (linesOk 300 l) := by
  simp only [spec_l04Ok.f]
  exact Ev.bnd (spec_l03All_ev l 300 hl) (Ev.now _)
theorem impl_canAlign_ev (l : List ByteArray) (hl : Sized l) : Ev (fun k => impl_canAlign.f k l) (linesOk 300 l) := by
  simp only [impl_canAlign.f]
  by_cases h : (l.length : Int) ≤ 300
  · exact Ev.pos h (Ev.bnd (impl_areLines_ev l hl.1) (Ev.some_ (by simp [linesOk, h])))
  · exact Ev.neg h (Ev.some_ (by simp [linesOk, h]))
theorem linesOk_len {m : Int} {l : List ByteArray} (h : linesOk m l = true) : (l.length : Int) ≤ m := by
  simp only [linesOk, Bool.and_eq_true, decide_eq_true_eq] at h
  exact h.1
/-! the table of the longest common parts -/
def TT (a b : List ByteArray) (i j : Nat) : Nat := lcs (a.drop i) (b.drop j)
theorem TT_right (a b : List ByteArray) (i : Nat) : TT a b i b.length = 0 := by
  unfold TT
  rw [List.drop_length, lcs_nil_right]
theorem TT_left (a b : List ByteArray) (j : Nat) : TT a b a.length j = 0 := by
  unfold TT
  rw [List.drop_length, lcs_nil_left]
theorem TT_step (a b : List ByteArray) (i j : Nat) (hi : i < a.length) (hj : j < b.length) : TT a b i j = if a[i] = b[j] then TT a b (i + 1) (j + 1) + 1 else max (TT a b (i + 1) j) (TT a b i (j + 1)) := by
  have ha : a.drop i = a[i] :: a.drop (i + 1) := List.drop_eq_getElem_cons hi
  have hb : b.drop j = b[j] :: b.drop (j + 1) := List.drop_eq_getElem_cons hj
  unfold TT
  rw [ha, hb, lcs_cons]
theorem TT_le (a b : List ByteArray) (i j : Nat) : TT a b i j ≤ a.length := by
  have := lcs_le_left (a.drop i) (b.drop j)
  rw [List.length_drop] at this
  unfold TT
  omega
theorem rdT_nat (x : List (List Int)) (i : Nat) : rd_L3 x (i : Int) = x.getD i [] := by
  simp [rd_L3]
theorem rd_getD (r : List Int) (j : Nat) : rd r (j : Int) = r.getD j 0 := by simp [rd]
/-- Row i of a table is right from column j on. -/
def rowOk (a b : List ByteArray) (x : List (List Int)) (i j : Nat) : Prop := (x.getD i []).length = b.length + 1 ∧ ∀ k, j ≤ k → k ≤ b.length → (x.getD i []).getD k 0 = (TT a b i k : Int)
/-- A table is right from row i on. -/
def tabOk (a b : List ByteArray) (x : List (List Int)) (i : Nat) : Prop := x.length = a.length + 1 ∧ ∀ k, i ≤ k → k ≤ a.length → rowOk a b x k 0
theorem getD_set_ne' (x : List (List Int)) (i k : Nat) (r : List Int) (h : k ≠ i) : (x.set i r).getD k [] = x.getD k [] := by
  simp [List.getD, List.getElem?_set_ne (Ne.symm h)]
theorem getD_set_eq' (x : List (List Int)) (i : Nat) (r : List Int) (h : i < x.length) : (x.set i r).getD i [] = r := by
  simp [List.getD, List.getElem?_set_self h]
theorem rowOk_other {a b : List ByteArray} {x : List (List Int)} {i k j : Nat} {r : List Int} (h : k ≠ i) (hr : rowOk a b x k j) : rowOk a b (x.set i r) k j := by
  unfold rowOk at *
  rw [getD_set_ne' x i k r h]
  exact hr
theorem rowOk_put {a b : List ByteArray} {x : List (List Int)} {i j : Nat} {v : Int} (hx : i < x.length) (h : rowOk a b x i (j + 1)) (hj : j ≤ b.length) (hv : v = (TT a b i j : Int)) : rowOk a b (x.set i ((x.getD i []).set j v)) i j := by
  unfold rowOk at *
  rw [getD_set_eq' x i _ hx]
  generalize x.getD i [] = row at h ⊢
  refine ⟨by rw [List.length_set]; exact h.1, fun k hk hk2 => ?_⟩
  by_cases e : k = j
  · subst e
    simp only [List.getD, List.getElem?_set_self (show k < row.length by omega), hv, Option.getD_some]
  · have := h.2 k (by omega) hk2
    simp only [List.getD] at this ⊢
    rw [List.getElem?_set_ne (Ne.symm e)]
    exact this
theorem tabOk_row {a b : List ByteArray} {x : List (List Int)} {i : Nat} (h : tabOk a b x (i + 1)) (hr : rowOk a b x i 0) : tabOk a b x i :=
  ⟨h.1, fun k hk hk2 => by
    by_cases e : k = i
    · subst e; exact hr
    · exact h.2 k (by omega) hk2⟩
theorem tabOk_put {a b : List ByteArray} {x : List (List Int)} {i j : Nat} {r : List Int} (h : tabOk a b x j) (hij : i < j) : tabOk a b (x.set i r) j :=
  ⟨by rw [List.length_set]; exact h.1, fun k hk hk2 => rowOk_other (by omega) (h.2 k hk hk2)⟩
theorem zeroRow {a b : List ByteArray} {x : List (List Int)} {i : Nat} (h : x.getD i [] = List.replicate (b.length + 1) 0) (hT : TT a b i b.length = 0) : rowOk a b x i b.length := by
  unfold rowOk
  rw [h]
  refine ⟨by simp, fun k hk hk2 => ?_⟩
  have : k = b.length := by omega
  subst this
  rw [hT]
  simp [List.getD]
theorem mxI (p q : Nat) : ((max p q : Nat) : Int) = if (p : Int) < (q : Int) then (q : Int) else (p : Int) := by
  split <;> omega
section
variable (a b : List ByteArray) (ha : a.length ≤ 1000000) (hb : b.length ≤ 1000000)
include ha hb
theorem spec_l04Table_l1 (i : Nat) (hi : i ≤ a.length) (Q : List (List Int) → Prop) (hQ : ∀ y, tabOk a b y i → ∃ r, Ev (fun k => spec_l04Table.l0 k a b y ((i : Int) - 1)) r ∧ Q r) :
    ∀ (j : Nat) (x : List (List Int)), j ≤ b.length → tabOk a b x (i + 1) → x.length = a.length + 1 → rowOk a b x i (if i < a.length then j else 0) → ∃ r, Ev (fun k => spec_l04Table.l1 k a b x (i : Int) ((j : Int) - 1)) r ∧ Q r := by
  intro j
  induction j with
  | zero =>
    intro x hj ht hxl hr
    have hr0 : rowOk a b x i 0 := by
      split at hr <;> exact hr
    obtain ⟨r, hev, hq⟩ := hQ x (tabOk_row ht hr0)
    refine ⟨r, Ev.succ ?_, hq⟩
    simp only [spec_l04Table.l1]
    refine Ev.neg (by omega) (Ev.succ ?_)
    simp only [spec_l04Table.j2]
    rw [show wrap64 ((i : Int) - 1) = (i : Int) - 1 from w64 (by omega) (by omega)]
    exact Ev.neg (by simp) hev
  | succ j ih =>
    intro x hj ht hxl hr
    by_cases hia : i < a.length
    · rw [if_pos hia] at hr
      have hr1 := ht.2 (i + 1) (by omega) (by omega)
      have hl0 : (rd_L3 x (i : Int)).length = b.length + 1 := by rw [rdT_nat]; exact hr.1
      have hl1 : (rd_L3 x ((i + 1 : Nat) : Int)).length = b.length + 1 := by rw [rdT_nat]; exact hr1.1
      have v1 : rd (rd_L3 x ((i + 1 : Nat) : Int)) (j : Int) = (TT a b (i + 1) j : Int) := by rw [rdT_nat, rd_getD]; exact hr1.2 j (by omega) (by omega)
      have v2 : rd (rd_L3 x ((i + 1 : Nat) : Int)) ((j + 1 : Nat) : Int) = (TT a b (i + 1) (j + 1) : Int) := by rw [rdT_nat, rd_getD]; exact hr1.2 (j + 1) (by omega) (by omega)
      have v3 : rd (rd_L3 x (i : Int)) ((j + 1 : Nat) : Int) = (TT a b i (j + 1) : Int) := by rw [rdT_nat, rd_getD]; exact hr.2 (j + 1) (by omega) (by omega)
      have hst := TT_step a b i j hia (by omega)
      have hle := TT_le a b (i + 1) (j + 1)
      have sa : rdOf ByteArray.empty a (i : Int) = a[i] := rdOf_nat _ _ _ hia
      have sb : rdOf ByteArray.empty b (j : Int) = b[j]'(by omega) := rdOf_nat _ _ _ (by omega)
      have e1 : (((j + 1 : Nat) : Int) - 1) = (j : Int) := by omega
      rw [e1]
      have next : ∀ v : Int, v = (TT a b i j : Int) → ∃ r, Ev (fun k => spec_l04Table.l1 k a b (x.set i ((rd_L3 x (i : Int)).set j v)) (i : Int) ((j : Int) - 1)) r ∧ Q r := by
        intro v hv
        rw [rdT_nat]
        refine ih _ (by omega) (tabOk_put ht (by omega)) (by rw [List.length_set]; exact hxl) ?_
        rw [if_pos hia]
        exact rowOk_put (by omega) hr (by omega) hv
      have main : ∀ v : Int, v = (TT a b i j : Int) → (∀ r, Ev (fun k => spec_l04Table.l1 k a b (x.set i ((rd_L3 x (i : Int)).set j v)) (i : Int) ((j : Int) - 1)) r → Ev (fun k => spec_l04Table.j2 k a b x (i : Int) (j : Int) true) r) → ∃ r, Ev (fun k => spec_l04Table.l1 k a b x (i : Int) (j : Int)) r ∧ Q r := by
        intro v hv hm
        obtain ⟨r, hev, hq⟩ := next v hv
        refine ⟨r, Ev.succ ?_, hq⟩
        simp only [spec_l04Table.l1]
        refine Ev.pos (by omega) ?_
        rw [show decide ((i : Int) < (a.length : Int)) = true from by simp; omega]
        exact hm r hev
      by_cases he : a[i] = b[j]'(by omega)
      · rw [if_pos he] at hst
        refine main (TT a b (i + 1) (j + 1) + 1 : Int) (by rw [hst]; omega) (fun r hev => Ev.succ ?_)
        simp only [spec_l04Table.j2]
        rw [up1 i (by omega), up1 j (by omega), v1, v2, v3, sa, sb]
        rw [show wrap64 ((TT a b (i + 1) (j + 1) : Int) + 1) = (TT a b (i + 1) (j + 1) : Int) + 1 from w64 (by omega) (by omega), show wrap64 ((j : Int) - 1) = (j : Int) - 1 from w64 (by omega) (by omega), Int.toNat_natCast, Int.toNat_natCast]
        refine Ev.pos trivial (Ev.pos (by omega) (Ev.pos (by omega) (Ev.pos (by omega) (Ev.pos (by omega) (Ev.pos (by omega) (Ev.pos (by omega) (Ev.pos (by omega) (Ev.pos (by omega) ?_))))))))
        by_cases hgt : (TT a b i (j + 1) : Int) > (TT a b (i + 1) j : Int)
        · exact Ev.pos hgt (Ev.pos (by omega) (Ev.pos (by omega) (Ev.pos ((toList_iff _ _).2 he) (Ev.pos (by omega) (Ev.pos (by omega) hev)))))
        · exact Ev.neg hgt (Ev.pos (by omega) (Ev.pos (by omega) (Ev.pos ((toList_iff _ _).2 he) (Ev.pos (by omega) (Ev.pos (by omega) hev)))))
      · rw [if_neg he] at hst
        by_cases hgt : (TT a b i (j + 1) : Int) > (TT a b (i + 1) j : Int)
        · refine main (TT a b i (j + 1) : Int) (by rw [hst]; omega) (fun r hev => Ev.succ ?_)
          simp only [spec_l04Table.j2]
          rw [up1 i (by omega), up1 j (by omega), v1, v3, sa, sb]
          rw [show wrap64 ((j : Int) - 1) = (j : Int) - 1 from w64 (by omega) (by omega), Int.toNat_natCast, Int.toNat_natCast]
          exact Ev.pos trivial (Ev.pos (by omega) (Ev.pos (by omega) (Ev.pos (by omega) (Ev.pos (by omega) (Ev.pos (by omega) (Ev.pos (by omega) (Ev.pos (by omega) (Ev.pos (by omega) (Ev.pos hgt (Ev.pos (by omega) (Ev.pos (by omega) (Ev.neg (fun h => he ((toList_iff _ _).1 h)) (Ev.pos (by omega) hev)))))))))))))
        · refine main (TT a b (i + 1) j : Int) (by rw [hst]; omega) (fun r hev => Ev.succ ?_)
          simp only [spec_l04Table.j2]
          rw [up1 i (by omega), up1 j (by omega), v1, v3, sa, sb]
          rw [show wrap64 ((j : Int) - 1) = (j : Int) - 1 from w64 (by omega) (by omega), Int.toNat_natCast, Int.toNat_natCast]
          exact Ev.pos trivial (Ev.pos (by omega) (Ev.pos (by omega) (Ev.pos (by omega) (Ev.pos (by omega) (Ev.pos (by omega) (Ev.pos (by omega) (Ev.pos (by omega) (Ev.pos (by omega) (Ev.neg hgt (Ev.pos (by omega) (Ev.pos (by omega) (Ev.neg (fun h => he ((toList_iff _ _).1 h)) (Ev.pos (by omega) hev)))))))))))))
    · rw [if_neg hia] at hr
      obtain ⟨r, hev, hq⟩ := hQ x (tabOk_row ht hr)
      refine ⟨r, Ev.succ ?_, hq⟩
      simp only [spec_l04Table.l1]
      refine Ev.pos (by omega) ?_
      rw [show decide ((i : Int) < (a.length : Int)) = false from by simp; omega]
      refine Ev.succ ?_
      simp only [spec_l04Table.j2]
      rw [show wrap64 ((i : Int) - 1) = (i : Int) - 1 from w64 (by omega) (by omega)]
      exact Ev.neg (by simp) hev
theorem spec_l04Table_l0 : ∀ (i : Nat) (x : List (List Int)), i ≤ a.length + 1 → tabOk a b x i → ∃ r, Ev (fun k => spec_l04Table.l0 k a b x ((i : Int) - 1)) r ∧ tabOk a b r 0 := by
  intro i
  induction i with
  | zero =>
    intro x hi ht
    refine ⟨x, Ev.succ ?_, ht⟩
    simp only [spec_l04Table.l0]
    exact Ev.neg (by omega) (Ev.now _)
  | succ i ih =>
    intro x hi ht
    have e1 : (((i + 1 : Nat) : Int) - 1) = (i : Int) := by omega
    rw [e1]
    have hxl := ht.1
    have hz : (x.set i (List.replicate (b.length + 1) 0)).getD i [] = List.replicate (b.length + 1) 0 := getD_set_eq' x i _ (by omega)
    obtain ⟨r, hev, hq⟩ := spec_l04Table_l1 a b ha hb i (by omega) _ (fun y hy => ih y (by omega) hy) b.length (x.set i (List.replicate (b.length + 1) 0)) (Nat.le_refl _) (tabOk_put ht (by omega)) (by rw [List.length_set]; exact hxl) (by
      have h1 := zeroRow (a := a) (i := i) hz (TT_right a b i)
      by_cases hia : i < a.length
      · rw [if_pos hia]; exact h1
      · rw [if_neg hia]
        have : i = a.length := by omega
        subst this
        refine ⟨h1.1, fun k _ hk => ?_⟩
        rw [hz, TT_left]
        simp only [List.getD, List.getElem?_replicate]
        split <;> rfl)
    refine ⟨r, Ev.succ ?_, hq⟩
    simp only [spec_l04Table.l0]
    rw [show wrap64 ((b.length : Int) + 1) = ((b.length + 1 : Nat) : Int) from up1 _ (by omega), show wrap64 ((b.length : Int) - 1) = (b.length : Int) - 1 from w64 (by omega) (by omega), Int.toNat_natCast, Int.toNat_natCast]
    exact Ev.pos (by omega) (Ev.pos (by omega) (Ev.pos (by omega) (Ev.pos (by omega) (Ev.pos (by omega) hev))))
theorem spec_l04Table_ev : ∃ x, Ev (fun k => spec_l04Table.f k a b) x ∧ tabOk a b x 0 := by
  obtain ⟨r, hev, hq⟩ := spec_l04Table_l0 a b ha hb (a.length + 1) (List.replicate (a.length + 1) []) (Nat.le_refl _) ⟨by simp, fun k h1 h2 => absurd h1 (by omega)⟩
  refine ⟨r, ?_, hq⟩
  simp only [spec_l04Table.f]
  rw [show wrap64 ((a.length : Int) + 1) = ((a.length + 1 : Nat) : Int) from up1 _ (by omega), Int.toNat_natCast]
  refine Ev.pos (by omega) (Ev.pos (by omega) ?_)
  have e1 : (((a.length + 1 : Nat) : Int) - 1) = (a.length : Int) := by omega
  rw [e1] at hev
  exact hev
end
theorem mx_max (p q : Nat) : mx (p : Int) (q : Int) = ((max p q : Nat) : Int) := by
  unfold mx
  split <;> omega
section
variable (a b : List ByteArray) (ha : a.length ≤ 1000000) (hb : b.length ≤ 1000000)
include ha hb
theorem impl_commonFrom_l2 (i : Nat) (hi : i < a.length) (Q : List (List Int) → Prop) (hQ : ∀ y, tabOk a b y i → (∀ k, k < i → y.getD k [] = List.replicate (b.length + 1) 0) → ∃ r, Ev (fun k => impl_commonFrom.l1 k a b y ((i : Int) - 1)) r ∧ Q r) :
    ∀ (j : Nat) (x : List (List Int)), j ≤ b.length → tabOk a b x (i + 1) → (∀ k, k < i → x.getD k [] = List.replicate (b.length + 1) 0) → rowOk a b x i j → ∃ r, Ev (fun k => impl_commonFrom.l2 k a b x (i : Int) ((j : Int) - 1)) r ∧ Q r := by
  intro j
  induction j with
  | zero =>
    intro x hj ht hz hr
    obtain ⟨r, hev, hq⟩ := hQ x (tabOk_row ht hr) hz
    refine ⟨r, Ev.succ ?_, hq⟩
    simp only [impl_commonFrom.l2]
    rw [show wrap64 ((i : Int) - 1) = (i : Int) - 1 from w64 (by omega) (by omega)]
    exact Ev.neg (by omega) hev
  | succ j ih =>
    intro x hj ht hz hr
    have hxl := ht.1
    have hr1 := ht.2 (i + 1) (by omega) (by omega)
    have hl0 : (rd_L3 x (i : Int)).length = b.length + 1 := by rw [rdT_nat]; exact hr.1
    have hl1 : (rd_L3 x ((i + 1 : Nat) : Int)).length = b.length + 1 := by rw [rdT_nat]; exact hr1.1
    have v1 : rd (rd_L3 x ((i + 1 : Nat) : Int)) (j : Int) = (TT a b (i + 1) j : Int) := by rw [rdT_nat, rd_getD]; exact hr1.2 j (by omega) (by omega)
    have v2 : rd (rd_L3 x ((i + 1 : Nat) : Int)) ((j + 1 : Nat) : Int) = (TT a b (i + 1) (j + 1) : Int) := by rw [rdT_nat, rd_getD]; exact hr1.2 (j + 1) (by omega) (by omega)
    have v3 : rd (rd_L3 x (i : Int)) ((j + 1 : Nat) : Int) = (TT a b i (j + 1) : Int) := by rw [rdT_nat, rd_getD]; exact hr.2 (j + 1) (by omega) (by omega)
    have hst := TT_step a b i j hi (by omega)
    have hle := TT_le a b (i + 1) (j + 1)
    have sa : rdOf ByteArray.empty a (i : Int) = a[i] := rdOf_nat _ _ _ hi
    have sb : rdOf ByteArray.empty b (j : Int) = b[j]'(by omega) := rdOf_nat _ _ _ (by omega)
    have e1 : (((j + 1 : Nat) : Int) - 1) = (j : Int) := by omega
    rw [e1]
    have next : ∀ v : Int, v = (TT a b i j : Int) → ∃ r, Ev (fun k => impl_commonFrom.l2 k a b (x.set i ((rd_L3 x (i : Int)).set j v)) (i : Int) ((j : Int) - 1)) r ∧ Q r := by
      intro v hv
      rw [rdT_nat]
      exact ih _ (by omega) (tabOk_put ht (by omega)) (fun k hk => by rw [getD_set_ne' x i k _ (by omega)]; exact hz k hk) (rowOk_put (by omega) hr (by omega) hv)
    by_cases he : a[i] = b[j]'(by omega)
    · rw [if_pos he] at hst
      obtain ⟨r, hev, hq⟩ := next (TT a b (i + 1) (j + 1) + 1 : Int) (by rw [hst]; omega)
      refine ⟨r, Ev.succ ?_, hq⟩
      simp only [impl_commonFrom.l2]
      rw [up1 i (by omega), up1 j (by omega), v2, sa, sb]
      rw [show wrap64 ((TT a b (i + 1) (j + 1) : Int) + 1) = (TT a b (i + 1) (j + 1) : Int) + 1 from w64 (by omega) (by omega), show wrap64 ((j : Int) - 1) = (j : Int) - 1 from w64 (by omega) (by omega), Int.toNat_natCast, Int.toNat_natCast]
      exact Ev.pos (by omega) (Ev.pos (by omega) (Ev.pos (by omega) (Ev.pos (by omega) (Ev.pos (by omega) (Ev.pos ((toList_iff _ _).2 he) (Ev.pos (by omega) (Ev.pos (by omega) (Ev.pos (by omega) (Ev.pos (by omega) (Ev.pos (by omega) (Ev.pos (by omega) hev)))))))))))
    · rw [if_neg he] at hst
      obtain ⟨r, hev, hq⟩ := next ((max (TT a b (i + 1) j) (TT a b i (j + 1)) : Nat) : Int) (by rw [hst])
      refine ⟨r, Ev.succ ?_, hq⟩
      simp only [impl_commonFrom.l2]
      rw [up1 i (by omega), up1 j (by omega), v1, v3, sa, sb, mx_max]
      rw [show wrap64 ((j : Int) - 1) = (j : Int) - 1 from w64 (by omega) (by omega), Int.toNat_natCast, Int.toNat_natCast]
      exact Ev.pos (by omega) (Ev.pos (by omega) (Ev.pos (by omega) (Ev.pos (by omega) (Ev.pos (by omega) (Ev.neg (fun h => he ((toList_iff _ _).1 h)) (Ev.pos (by omega) (Ev.pos (by omega) (Ev.pos (by omega) (Ev.pos (by omega) (Ev.pos (by omega) (Ev.pos (by omega) (Ev.pos (by omega) hev))))))))))))
theorem impl_commonFrom_l1 : ∀ (i : Nat) (x : List (List Int)), i ≤ a.length → tabOk a b x i → (∀ k, k < i → x.getD k [] = List.replicate (b.length + 1) 0) → ∃ r, Ev (fun k => impl_commonFrom.l1 k a b x ((i : Int) - 1)) r ∧ tabOk a b r 0 := by
  intro i
  induction i with
  | zero =>
    intro x hi ht hz
    refine ⟨x, Ev.succ ?_, ht⟩
    simp only [impl_commonFrom.l1]
    exact Ev.neg (by omega) (Ev.now _)
  | succ i ih =>
    intro x hi ht hz
    have e1 : (((i + 1 : Nat) : Int) - 1) = (i : Int) := by omega
    rw [e1]
    obtain ⟨r, hev, hq⟩ := impl_commonFrom_l2 a b ha hb i (by omega) _ (fun y hy hy2 => ih y (by omega) hy hy2) b.length x (Nat.le_refl _) ht (fun k hk => hz k (by omega)) (zeroRow (hz i (by omega)) (TT_right a b i))
    refine ⟨r, Ev.succ ?_, hq⟩
    simp only [impl_commonFrom.l1]
    refine Ev.pos (by omega) ?_
    rw [show wrap64 ((b.length : Int) - 1) = (b.length : Int) - 1 from w64 (by omega) (by omega)]
    exact hev
theorem impl_commonFrom_ev : ∃ x, Ev (fun k => impl_commonFrom.f k a b) x ∧ tabOk a b x 0 := by
  have key : ∀ (n i : Nat) (x : List (List Int)), i + n = a.length + 1 → x.length = a.length + 1 → (∀ k, k < i → x.getD k [] = List.replicate (b.length + 1) 0) → ∃ r, Ev (fun k => impl_commonFrom.l0 k a b x ((a.length + 1 : Nat) : Int) (i : Int)) r ∧ tabOk a b r 0 := by
    intro n
    induction n with
    | zero =>
      intro i x hi hl hz
      obtain ⟨r, hev, hq⟩ := impl_commonFrom_l1 a b ha hb a.length x (Nat.le_refl _) ⟨hl, fun k h1 h2 => by
        have : k = a.length := by omega
        subst this
        unfold rowOk
        rw [hz a.length (by omega)]
        refine ⟨by simp, fun k _ hk => ?_⟩
        rw [TT_left]
        simp only [List.getD, List.getElem?_replicate]
        split <;> rfl⟩ (fun k hk => hz k (by omega))
      refine ⟨r, Ev.succ ?_, hq⟩
      simp only [impl_commonFrom.l0]
      refine Ev.neg (by omega) ?_
      rw [show wrap64 ((a.length : Int) - 1) = (a.length : Int) - 1 from w64 (by omega) (by omega)]
      exact hev
    | succ n ih =>
      intro i x hi hl hz
      obtain ⟨r, hev, hq⟩ := ih (i + 1) (x.set i (List.replicate (b.length + 1) 0)) (by omega) (by rw [List.length_set]; exact hl) (fun k hk => by
        by_cases e : k = i
        · subst e; exact getD_set_eq' x k _ (by omega)
        · rw [getD_set_ne' x i k _ e]; exact hz k (by omega))
      refine ⟨r, Ev.succ ?_, hq⟩
      simp only [impl_commonFrom.l0]
      rw [show wrap64 ((b.length : Int) + 1) = ((b.length + 1 : Nat) : Int) from up1 _ (by omega), up1 i (by omega), Int.toNat_natCast, Int.toNat_natCast]
      exact Ev.pos (by omega) (Ev.pos (by omega) (Ev.pos (by omega) (Ev.pos (by omega) (Ev.pos (by omega) hev))))
  obtain ⟨r, hev, hq⟩ := key (a.length + 1) 0 (List.replicate (a.length + 1) []) (by omega) (by simp) (fun k hk => absurd hk (by omega))
  refine ⟨r, ?_, hq⟩
  simp only [impl_commonFrom.f]
  rw [show wrap64 ((a.length : Int) + 1) = ((a.length + 1 : Nat) : Int) from up1 _ (by omega), Int.toNat_natCast]
  refine Ev.pos (by omega) (Ev.pos (by omega) (Ev.bnd0 rfl ?_))
  rw [List.length_replicate]
  exact hev
end
theorem tab_at {a b : List ByteArray} {x : List (List Int)} (h : tabOk a b x 0) (i j : Nat) (hi : i ≤ a.length) (hj : j ≤ b.length) : rd (rd_L3 x (i : Int)) (j : Int) = (TT a b i j : Int) := by
  rw [rdT_nat, rd_getD]
  exact (h.2 i (Nat.zero_le _) hi).2 j (Nat.zero_le _) hj
theorem tab_len {a b : List ByteArray} {x : List (List Int)} (h : tabOk a b x 0) (i : Nat) (hi : i ≤ a.length) : (rd_L3 x (i : Int)).length = b.length + 1 := by
  rw [rdT_nat]
  exact (h.2 i (Nat.zero_le _) hi).1
/-- Of each of b its place in a; none where a list cannot be aligned. -/
def alignL (a b : List ByteArray) : List Int := if linesOk 300 a = true ∧ linesOk 300 b = true then pairs 0 a b else []
theorem alignL_length (a b : List ByteArray) : (alignL a b).length ≤ b.length := by
  unfold alignL
  split
  · rw [pairs_length]; exact Nat.le_refl _
  · exact Nat.zero_le _
theorem toList_ne {a b : ByteArray} (h : ¬ a = b) : ¬ a.toList = b.toList := fun e => h ((toList_iff _ _).1 e)
theorem drop_cons' {α : Type} (l : List α) (i : Nat) (h : i < l.length) : l.drop i = l[i] :: l.drop (i + 1) := List.drop_eq_getElem_cons h
theorem impl_align_l0 (a b : List ByteArray) (t : List (List Int)) (r : List Int) : ∀ (n i : Nat) (x : List Int), i + n = x.length → x.length ≤ 1000000 → (∀ j, j < i → x[j]? = some (-1)) → Ev (fun k => impl_align.l1 k a b t (List.replicate x.length (-1)) 0 0) r → Ev (fun k => impl_align.l0 k a b t x (x.length : Int) (i : Int)) r := by
  intro n
  induction n with
  | zero =>
    intro i x hi hl hx hr
    refine Ev.succ ?_
    simp only [impl_align.l0]
    refine Ev.neg (by omega) ?_
    have : x = List.replicate x.length (-1) := by
      apply List.ext_getElem?
      intro j
      by_cases h : j < i
      · rw [hx j h, List.getElem?_replicate, if_pos (by omega)]
      · rw [List.getElem?_eq_none (by omega), List.getElem?_eq_none (by simp; omega)]
    rw [this]
    exact hr
  | succ n ih =>
    intro i x hi hl hx hr
    refine Ev.succ ?_
    simp only [impl_align.l0]
    rw [up1 i (by omega), Int.toNat_natCast]
    refine Ev.pos (by omega) (Ev.pos (by omega) (Ev.pos (by omega) ?_))
    have := ih (i + 1) (x.set i (-1)) (by rw [List.length_set]; omega) (by rw [List.length_set]; omega) (by
      intro j hj
      by_cases h : j = i
      · subst h
        rw [List.getElem?_set_self (by omega)]
      · rw [List.getElem?_set_ne (by omega)]
        exact hx j (by omega)) (by rw [List.length_set]; exact hr)
    rw [List.length_set] at this
    exact this
section
variable (a b : List ByteArray) (t : List (List Int)) (ht : tabOk a b t 0) (ha : a.length ≤ 1000000) (hb : b.length ≤ 1000000)
include ha hb ht
theorem impl_align_l1 : ∀ (n i j : Nat) (acc : List Int), i ≤ a.length → j ≤ b.length → (a.length - i) + (b.length - j) ≤ n → acc.length = j → Ev (fun k => impl_align.l1 k a b t (acc ++ List.replicate (b.length - j) (-1)) (i : Int) (j : Int)) (acc ++ pairs i (a.drop i) (b.drop j)) := by
  intro n
  induction n with
  | zero =>
    intro i j acc hi hj hn hl
    have e1 : i = a.length := by omega
    have e2 : j = b.length := by omega
    subst e1; subst e2
    refine Ev.succ ?_
    simp only [impl_align.l1]
    refine Ev.neg (by omega) (Ev.succ ?_)
    simp only [impl_align.j2]
    exact Ev.neg (by simp) (Ev.some_ (by rw [List.drop_length, List.drop_length, pairs_nil, Nat.sub_self]; rfl))
  | succ n ih =>
    intro i j acc hi hj hn hl
    refine Ev.succ ?_
    simp only [impl_align.l1]
    by_cases hia : i < a.length
    · refine Ev.pos (by omega) ?_
      by_cases hjb : j < b.length
      · rw [show decide ((j : Int) < (b.length : Int)) = true from by simp; omega]
        refine Ev.succ ?_
        simp only [impl_align.j2]
        have hl0 := tab_len ht i (by omega)
        have hl1 := tab_len ht (i + 1) (by omega)
        have v1 := tab_at ht (i + 1) j (by omega) (by omega)
        have v2 := tab_at ht i (j + 1) (by omega) (by omega)
        have hxl := ht.1
        have hal : (acc ++ List.replicate (b.length - j) (-1 : Int)).length = b.length := by simp; omega
        have hrep : List.replicate (b.length - j) (-1 : Int) = -1 :: List.replicate (b.length - (j + 1)) (-1) := by
          rw [← List.replicate_succ]; congr 1; omega
        rw [up1 i (by omega), up1 j (by omega), v1, v2, rdOf_nat _ _ _ hia, rdOf_nat _ _ _ hjb]
        rw [drop_cons' a i hia, drop_cons' b j hjb, pairs_cons]
        by_cases he : a[i] = b[j]
        · rw [if_pos he]
          refine Ev.pos (by first | rfl | trivial) (Ev.pos (by omega) (Ev.pos (by omega) (Ev.pos (by omega) (Ev.pos (by omega) (Ev.pos ((toList_iff _ _).2 he) (Ev.pos (by omega) ?_))))))
          have := ih (i + 1) (j + 1) (acc ++ [(i : Int)]) (by omega) (by omega) (by omega) (by simp; omega)
          rw [List.append_assoc, List.append_assoc, List.singleton_append, List.singleton_append] at this
          rw [Int.toNat_natCast, hrep, ← hl, List.set_append_right _ _ (Nat.le_refl _), Nat.sub_self, List.set_cons_zero, hl]
          exact this
        · rw [if_neg he]
          refine Ev.pos (by first | rfl | trivial) (Ev.pos (by omega) (Ev.pos (by omega) (Ev.pos (by omega) (Ev.pos (by omega) (Ev.neg (toList_ne he) (Ev.pos (by omega) (Ev.pos (by omega) (Ev.pos (by omega) (Ev.pos (by omega) (Ev.pos (by omega) (Ev.pos (by omega) ?_)))))))))))
          have c1 : TT a b (i + 1) j = lcs (a.drop (i + 1)) (b[j] :: b.drop (j + 1)) := by rw [TT, drop_cons' b j hjb]
          have c2 : TT a b i (j + 1) = lcs (a[i] :: a.drop (i + 1)) (b.drop (j + 1)) := by rw [TT, drop_cons' a i hia]
          rw [← c1, ← c2]
          by_cases hge : TT a b (i + 1) j ≥ TT a b i (j + 1)
          · rw [if_pos hge]
            refine Ev.pos (by omega) ?_
            have := ih (i + 1) j acc (by omega) (by omega) (by omega) hl
            rw [drop_cons' b j hjb] at this
            exact this
          · rw [if_neg hge]
            refine Ev.neg (by omega) ?_
            have := ih i (j + 1) (acc ++ [-1]) (by omega) (by omega) (by omega) (by simp; omega)
            rw [List.append_assoc, List.append_assoc, List.singleton_append, List.singleton_append, drop_cons' a i hia, ← hrep] at this
            exact this
      · have e2 : j = b.length := by omega
        subst e2
        rw [show decide (((b.length : Nat) : Int) < (b.length : Int)) = false from by simp]
        refine Ev.succ ?_
        simp only [impl_align.j2]
        exact Ev.neg (by simp) (Ev.some_ (by rw [List.drop_length, pairs_nil_right, Nat.sub_self]; rfl))
    · refine Ev.neg (by omega) (Ev.succ ?_)
      simp only [impl_align.j2]
      have e1 : i = a.length := by omega
      subst e1
      exact Ev.neg (by simp) (Ev.some_ (by rw [List.drop_length, pairs_nil, List.length_drop]))
end
theorem impl_align_ev (a b : List ByteArray) (ha : a.length ≤ 1000000) (hb : b.length ≤ 1000000) : Ev (fun k => impl_align.f k a b) (pairs 0 a b) := by
  obtain ⟨x, hx, ht⟩ := impl_commonFrom_ev a b ha hb
  have h1 := impl_align_l1 a b x ht ha hb _ 0 0 [] (by omega) (by omega) (Nat.le_refl _) rfl
  have h0 := impl_align_l0 a b x (pairs 0 a b) b.length 0 (List.replicate b.length 0) (by simp) (by simp; omega) (fun j h => absurd h (by omega)) (by rw [List.length_replicate]; exact h1)
  simp only [impl_align.f]
  refine Ev.bnd hx (Ev.pos (by omega) (Ev.pos (by omega) (Ev.bnd0 rfl ?_)))
  rw [Int.toNat_natCast]
  exact h0
theorem impl_Align_ev (a b : List ByteArray) (ha : Sized a) (hb : Sized b) : Ev (fun k => impl_Align.f k a b) (alignL a b) := by
  simp only [impl_Align.f]
  refine Ev.bnd (impl_canAlign_ev a ha) ?_
  by_cases h1 : linesOk 300 a = true
  · refine Ev.pos h1 (Ev.bnd (impl_canAlign_ev b hb) ?_)
    by_cases h2 : linesOk 300 b = true
    · have l1 := linesOk_len h1
      have l2 := linesOk_len h2
      refine Ev.pos h2 (Ev.bnd (impl_align_ev a b (by omega) (by omega)) (Ev.some_ ?_))
      rw [alignL, if_pos ⟨h1, h2⟩]
    · exact Ev.neg h2 (Ev.some_ (by rw [alignL, if_neg (fun h => h2 h.2)]))
  · exact Ev.neg h1 (Ev.some_ (by rw [alignL, if_neg (fun h => h1 h.1)]))
def lcsLen (a b : List ByteArray) : Int := if linesOk 300 a = true ∧ linesOk 300 b = true then (lcs a b : Int) else 0
theorem TT_00 (a b : List ByteArray) : TT a b 0 0 = lcs a b := by simp [TT]
theorem spec_LcsLen_ev (a b : List ByteArray) (ha : Sized a) (hb : Sized b) : Ev (fun k => spec_LcsLen.f k a b) (lcsLen a b) := by
  simp only [spec_LcsLen.f]
  refine Ev.bnd (spec_l04Ok_ev a ha) ?_
  by_cases h1 : linesOk 300 a = true
  · refine Ev.pos h1 (Ev.bnd (spec_l04Ok_ev b hb) ?_)
    by_cases h2 : linesOk 300 b = true
    · have l1 := linesOk_len h1
      have l2 := linesOk_len h2
      obtain ⟨x, hx, ht⟩ := spec_l04Table_ev a b (by omega) (by omega)
      have hl := tab_len ht 0 (by omega)
      have hv := tab_at ht 0 0 (by omega) (by omega)
      have hxl := ht.1
      refine Ev.pos h2 (Ev.bnd hx (Ev.pos (by omega) (Ev.pos ?_ (Ev.some_ ?_))))
      · have : (rd_L3 x 0).length = b.length + 1 := hl
        omega
      · rw [lcsLen, if_pos ⟨h1, h2⟩, ← TT_00]
        exact hv
    · exact Ev.neg h2 (Ev.some_ (by rw [lcsLen, if_neg (fun h => h2 h.2)]))
  · exact Ev.neg h1 (Ev.some_ (by rw [lcsLen, if_neg (fun h => h1 h.1)]))
theorem impl_LcsLen_ev (a b : List ByteArray) (ha : Sized a) (hb : Sized b) : Ev (fun k => impl_LcsLen.f k a b) (lcsLen a b) := by
  simp only [impl_LcsLen.f]
  refine Ev.bnd (impl_canAlign_ev a ha) ?_
  by_cases h1 : linesOk 300 a = true
  · refine Ev.pos h1 (Ev.bnd (impl_canAlign_ev b hb) ?_)
    by_cases h2 : linesOk 300 b = true
    · have l1 := linesOk_len h1
      have l2 := linesOk_len h2
      obtain ⟨x, hx, ht⟩ := impl_commonFrom_ev a b (by omega) (by omega)
      have hl := tab_len ht 0 (by omega)
      have hv := tab_at ht 0 0 (by omega) (by omega)
      have hxl := ht.1
      refine Ev.pos h2 (Ev.bnd hx (Ev.pos (by omega) (Ev.pos ?_ (Ev.some_ ?_))))
      · have : (rd_L3 x 0).length = b.length + 1 := hl
        omega
      · rw [lcsLen, if_pos ⟨h1, h2⟩, ← TT_00]
        exact hv
    · exact Ev.neg h2 (Ev.some_ (by rw [lcsLen, if_neg (fun h => h2 h.2)]))
  · exact Ev.neg h1 (Ev.some_ (by rw [lcsLen, if_neg (fun h => h1 h.1)]))
/-- The places that a walk pairs: each above the last, below the end, and of equal lines. -/
theorem pairs_right : ∀ (i : Nat) (a b : List ByteArray) (j : Nat) (hj : j < (pairs i a b).length), (pairs i a b)[j] ≠ -1 → ∃ (hb : j < b.length) (p : Nat) (hp : p < a.length), (pairs i a b)[j] = ((i + p : Nat) : Int) ∧ a[p] = b[j]
  | i, [], b, j, hj, h => by
    exfalso
    apply h
    simp [pairs_nil]
  | i, x :: a, [], j, hj, h => by simp [pairs_cons_nil] at hj
  | i, x :: a, y :: b, j, hj, h => by
    have hl := pairs_length i (x :: a) (y :: b)
    have hlen : j < (y :: b).length := by omega
    by_cases he : x = y
    · have e : pairs i (x :: a) (y :: b) = (i : Int) :: pairs (i + 1) a b := by rw [pairs_cons, if_pos he]
      cases j with
      | zero => exact ⟨hlen, 0, by simp, by simp [e], by simpa using he⟩
      | succ j =>
        simp only [e, List.getElem_cons_succ] at h ⊢
        obtain ⟨hb, p, hp, h1, h2⟩ := pairs_right (i + 1) a b j (by simp [e] at hj; exact hj) h
        exact ⟨hlen, p + 1, by simp; omega, by rw [h1]; omega, by simpa using h2⟩
    · by_cases h2 : lcs a (y :: b) ≥ lcs (x :: a) b
      · have e : pairs i (x :: a) (y :: b) = pairs (i + 1) a (y :: b) := by rw [pairs_cons, if_neg he, if_pos h2]
        simp only [e] at h ⊢
        obtain ⟨hb, p, hp, h1, h3⟩ := pairs_right (i + 1) a (y :: b) j (by rw [← e]; exact hj) h
        exact ⟨hlen, p + 1, by simp; omega, by rw [h1]; omega, by simpa using h3⟩
      · have e : pairs i (x :: a) (y :: b) = -1 :: pairs i (x :: a) b := by rw [pairs_cons, if_neg he, if_neg h2]
        cases j with
        | zero => simp [e] at h
        | succ j =>
          simp only [e, List.getElem_cons_succ] at h ⊢
          obtain ⟨hb, p, hp, h1, h3⟩ := pairs_right i (x :: a) b j (by simp [e] at hj; exact hj) h
          exact ⟨hlen, p, hp, h1, by simpa using h3⟩
termination_by _ a b => a.length + b.length
/-- All are at the first place or above it. -/
theorem pairs_ge (i : Nat) (a b : List ByteArray) : ∀ x ∈ pairs i a b, x = -1 ∨ (i : Int) ≤ x := by
  intro x hx
  obtain ⟨j, hj, rfl⟩ := List.mem_iff_getElem.1 hx
  by_cases h : (pairs i a b)[j] = -1
  · exact Or.inl h
  · obtain ⟨_, p, _, h1, _⟩ := pairs_right i a b j hj h
    exact Or.inr (by omega)
/-- They rise. -/
def Rises : Int → List Int → Prop
  | _, [] => True
  | m, x :: l => if x = -1 then Rises m l else m < x ∧ Rises x l
theorem rises_of_ge : ∀ (l : List Int) (m : Int), Rises m l → ∀ m', m' ≤ m → Rises m' l
  | [], _, _, _, _ => trivial
  | x :: l, m, h, m', hm => by
    simp only [Rises] at h ⊢
    by_cases c : x = -1
    · rw [if_pos c] at h ⊢
      exact rises_of_ge l m h m' hm
    · rw [if_neg c] at h ⊢
      exact ⟨by omega, h.2⟩
theorem rises_none : ∀ (n : Nat) (m : Int), Rises m (List.replicate n (-1))
  | 0, _ => trivial
  | n + 1, m => by
    rw [List.replicate_succ]
    simp only [Rises, if_true]
    exact rises_none n m
theorem pairs_rises : ∀ (i : Nat) (a b : List ByteArray) (m : Int), m < i → Rises m (pairs i a b)
  | i, [], b, m, hm => by rw [pairs_nil]; exact rises_none _ _
  | i, x :: a, [], m, hm => by rw [pairs_cons_nil]; trivial
  | i, x :: a, y :: b, m, hm => by
    rw [pairs_cons]
    split
    · simp only [Rises]
      rw [if_neg (by omega)]
      exact ⟨hm, pairs_rises (i + 1) a b _ (by omega)⟩
    · split
      · exact pairs_rises (i + 1) a (y :: b) m (by omega)
      · simp only [Rises, if_true]
        exact pairs_rises i (x :: a) b m hm
termination_by _ a b => a.length + b.length
theorem lcsLen_comm (a b : List ByteArray) : lcsLen a b = lcsLen b a := by
  unfold lcsLen
  rw [lcs_comm a b]
  by_cases h : linesOk 300 a = true ∧ linesOk 300 b = true
  · rw [if_pos h, if_pos h.symm]
  · rw [if_neg h, if_neg (fun h' => h h'.symm)]
theorem FnAligned : laws_FnAligned.Pure := by
  intro l hl
  refine Ev.rounds (r := true) ?_
  simp only [laws_FnAligned.f]
  refine Ev.bnd0 (laws_big_eq l) ?_
  by_cases hb : decide ((l.length : Int) > 1048576) = true
  · exact Ev.pos hb (Ev.now _)
  refine Ev.neg hb ?_
  obtain ⟨a, b, hd, oa, ob⟩ := spec_DrawNear_ev l (by omega)
  have sa := allOk_sized oa
  have sb := allOk_sized ob
  have la := linesOk_len oa
  have lb := linesOk_len ob
  have hal : alignL a b = pairs 0 a b := by rw [alignL, if_pos ⟨oa, ob⟩]
  have hll : lcsLen a b = (lcs a b : Int) := by rw [lcsLen, if_pos ⟨oa, ob⟩]
  refine Ev.bnd hd (Ev.bnd (impl_Align_ev a b sa sb) ?_)
  rw [hal]
  have hpl := pairs_length 0 a b
  have hpc := pairs_count 0 a b
  have hle := lcs_le_left a b
  have key : ∀ (n j c : Nat) (m : Int), j + n = b.length → Rises m ((pairs 0 a b).drop j) → (c : Int) + (((pairs 0 a b).drop j).filter (fun x => decide (x ≠ -1))).length = lcs a b → Ev (fun k => laws_FnAligned.l0 k a b (pairs 0 a b) (c : Int) m (j : Int)) true := by
    intro n
    induction n with
    | zero =>
      intro j c m hj hr hc
      refine Ev.succ ?_
      simp only [laws_FnAligned.l0]
      rw [List.drop_eq_nil_of_le (by omega)] at hc
      have hc' : (c : Int) = lcsLen a b := by rw [hll]; simpa using hc
      refine Ev.neg (by omega) (Ev.pos (by omega) (Ev.bnd (spec_LcsLen_ev a b sa sb) (Ev.pos hc' (Ev.bnd (impl_LcsLen_ev a b sa sb) (Ev.pos hc'.symm (Ev.bnd (impl_LcsLen_ev b a sb sa) (Ev.some_ ?_)))))))
      rw [hc', lcsLen_comm b a]
      exact beq_self_eq_true _
    | succ n ih =>
      intro j c m hj hr hc
      have hjl : j < (pairs 0 a b).length := by omega
      refine Ev.succ ?_
      simp only [laws_FnAligned.l0]
      rw [drop_cons' _ j hjl] at hr hc
      have hrd : rd (pairs 0 a b) (j : Int) = (pairs 0 a b)[j] := by simp [rd, List.getD, hjl]
      rw [hrd, up1 j (by omega)]
      refine Ev.pos (by omega) (Ev.pos (by omega) ?_)
      simp only [Rises] at hr
      by_cases h : (pairs 0 a b)[j] = -1
      · rw [if_pos h] at hr
        rw [List.filter_cons, if_neg (by simp [h])] at hc
        exact Ev.pos h (ih (j + 1) c m (by omega) hr hc)
      · rw [if_neg h] at hr
        rw [List.filter_cons, if_pos (by simp [h]), List.length_cons] at hc
        obtain ⟨hb', p, hp, h1, h2⟩ := pairs_right 0 a b j hjl h
        have hcl : c ≤ 1000 := by omega
        rw [up1 c (by omega)]
        rw [Nat.zero_add] at h1
        rw [h1] at hr ⊢
        rw [rdOf_nat _ _ _ hp, rdOf_nat _ _ _ hb']
        exact Ev.neg (by omega) (Ev.neg (by omega) (Ev.neg (by omega) (Ev.neg (by omega) (Ev.pos (by omega) (Ev.pos (by omega) (Ev.pos (by omega) (Ev.pos ((toList_iff _ _).2 h2) (ih (j + 1) (c + 1) _ (by omega) hr.2 (by omega)))))))))
  exact key b.length 0 0 (-1) (by omega) (pairs_rises 0 a b _ (by omega)) (by rw [List.drop_zero, hpc]; omega)

end Go.Proofs.Ytnimljoagcokaaa.Pure
