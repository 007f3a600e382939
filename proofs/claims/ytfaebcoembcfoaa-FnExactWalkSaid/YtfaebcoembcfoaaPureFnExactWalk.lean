/- The program's Walk returns what the reference's returns, for all records and sets. -/
import Derived.Test.YtfaebcoembcfoaaPFnExactWalkx6
import Derived.Test.YtfaebcoembcfoaaGen
namespace Go.Proofs.Ytfaebcoembcfoaa.Pure
open Go.RowKit Go.Proofs.Ytfaebcoembcfoaa.PFnExactWalk Go.Proofs.YtfaebcoembcfoaaW.PrintWords Go.Proofs.YtfaebcoembcfoaaW.PrintLast Go.Proofs.YtfaebcoembcfoaaG

/-! the laws' marks as texts -/
def mtGo : Nat → Int → ByteArray → ByteArray
  | 0, _, s => (⟨#[109]⟩ : ByteArray) ++ s
  | f + 1, n, s => if n > 0 then mtGo f (n / 10) (strOfNums [48 + n % 10] ++ s) else (⟨#[109]⟩ : ByteArray) ++ s
def mt (n : Int) : ByteArray := if n ≤ 0 then (⟨#[109, 48]⟩ : ByteArray) else mtGo 13 n (⟨#[]⟩ : ByteArray)
def FitsT : Nat → Int → Prop
  | 0, n => n ≤ 0
  | f + 1, n => FitsT f (n / 10)
theorem fitsT {n : Int} (h : n ≤ 1000000000000) : FitsT 13 n := by
  simp only [FitsT]
  omega
theorem laws_markText_l0 : ∀ (f : Nat) (n : Int) (s : ByteArray), FitsT f n → n ≤ 1000000000000 → s.size + f < 1000 → Ev (fun k => laws_markText.l0 k n s) (mtGo f n s) := by
  intro f
  induction f with
  | zero =>
    intro n s hf hn hs
    simp only [FitsT] at hf
    refine Ev.succ ?_
    simp only [laws_markText.l0]
    exact Ev.neg (by omega) (Ev.pos (by omega) (Ev.some_ rfl))
  | succ f ih =>
    intro n s hf hn hs
    simp only [FitsT] at hf
    refine Ev.succ ?_
    simp only [laws_markText.l0]
    by_cases h : n > 0
    · rw [Int.tmod_eq_emod_of_nonneg (show 0 ≤ n by omega), Int.tdiv_eq_ediv_of_nonneg (show 0 ≤ n by omega)]
      rw [show wrap64 (48 + n % 10) = 48 + n % 10 from w64 (by omega) (by omega), show wrap64 (n / 10) = n / 10 from w64 (by omega) (by omega), show (48 + n % 10) % 256 = 48 + n % 10 from by omega]
      have hz : (strOfNums [48 + n % 10]).size = 1 := by rw [strOfNums_size]; rfl
      refine Ev.pos h (Ev.bnd0 rfl (Ev.pos (by omega) ?_))
      have := ih (n / 10) (strOfNums [48 + n % 10] ++ s) hf (by omega) (by rw [size_append]; omega)
      simp only [mtGo]
      rw [if_pos h]
      exact this
    · simp only [mtGo]
      rw [if_neg h]
      exact Ev.neg h (Ev.pos (by omega) (Ev.some_ rfl))
theorem laws_markText_ev (n : Int) (hn : n ≤ 1000000000000) : Ev (fun k => laws_markText.f k n) (mt n) := by
  simp only [laws_markText.f]
  unfold mt
  by_cases h : n ≤ 0
  · rw [if_pos h]
    exact Ev.pos h (Ev.now _)
  · rw [if_neg h]
    exact Ev.neg h (laws_markText_l0 13 n _ (fitsT hn) hn (by decide))
def mkR (m : Int) (j : Nat) : S61 := ⟨m + 3 * j, m + 3 * j + 1, mt (m + 3 * j + 2)⟩
theorem rdR_nat (l : List S61) (i : Nat) (h : i < l.length) : rd_T61 l (i : Int) = l[i] := by
  simp [rd_T61, List.getD, List.getElem?_eq_getElem h]
theorem rdR_set (l : List S61) (i : Nat) (v : S61) (h : i < l.length) : rd_T61 (l.set ((i : Int)).toNat v) (i : Int) = v := by
  rw [rdR_nat _ i (by rw [List.length_set]; exact h)]
  simp
theorem laws_eqRecS_refl (l : List S61) (hl : l.length ≤ 1048576) : Ev (fun k => laws_eqRecS.f k l l) true := by
  simp only [laws_eqRecS.f]
  refine Ev.pos (by first | rfl | trivial) ?_
  have key : ∀ (n i : Nat), i + n = l.length → Ev (fun k => laws_eqRecS.l0 k l l (i : Int)) true := by
    intro n
    induction n with
    | zero =>
      intro i hi
      refine Ev.succ ?_
      simp only [laws_eqRecS.l0]
      exact Ev.neg (by omega) (Ev.now _)
    | succ n ih =>
      intro i hi
      refine Ev.succ ?_
      simp only [laws_eqRecS.l0]
      rw [up1 i (by omega)]
      refine Ev.pos (by omega) (Ev.pos (by omega) (Ev.pos (by omega) (Ev.bnd0 (a := true) ?_ (Ev.pos rfl (ih (i + 1) (by omega))))))
      unfold laws_eqRec.f
      rw [if_pos rfl, if_pos rfl, if_pos rfl]
  exact key l.length 0 (by omega)
theorem laws_markRecS_ev (l : List S61) (m : Int) (hl : l.length ≤ 1048576) (hm0 : 0 ≤ m) (hm : m ≤ 100000000) : ∃ y, Ev (fun k => laws_markRecS.f k l m) (m + 3 * l.length, y) ∧ y.length = l.length ∧ ∀ j, ∀ h : j < y.length, y[j] = mkR m j := by
  simp only [laws_markRecS.f]
  have key : ∀ (n i : Nat) (x : List S61) (c : Int), i + n = l.length → x.length = l.length → c = m + 3 * i → (∀ j, ∀ h : j < x.length, j < i → x[j] = mkR m j) → ∃ y, Ev (fun k => laws_markRecS.l0 k x c (i : Int)) (m + 3 * l.length, y) ∧ y.length = l.length ∧ ∀ j, ∀ h : j < y.length, y[j] = mkR m j := by
    intro n
    induction n with
    | zero =>
      intro i x c hi hx hc hj
      refine ⟨x, Ev.succ ?_, hx, fun j h => hj j h (by omega)⟩
      simp only [laws_markRecS.l0]
      refine Ev.neg (by omega) (Ev.some_ ?_)
      rw [hc, show i = l.length by omega]
    | succ n ih =>
      intro i x c hi hx hc hj
      obtain ⟨y, hy, h1, h2⟩ := ih (i + 1) (((x.set ((i : Int)).toNat ⟨c, (rd_T61 x (i : Int)).f1, (rd_T61 x (i : Int)).f2⟩).set ((i : Int)).toNat ⟨c, c + 1, (rd_T61 x (i : Int)).f2⟩).set ((i : Int)).toNat ⟨c, c + 1, mt (c + 1 + 1)⟩) (c + 1 + 1 + 1) (by omega) (by simp [hx]) (by omega) (by
        intro j h hj2
        by_cases e : j = i
        · subst e
          simp only [Int.toNat_natCast, List.getElem_set_self]
          unfold mkR
          rw [hc, show m + 3 * (j : Int) + 1 + 1 = m + 3 * (j : Int) + 2 by omega]
        · simp only [List.length_set] at h
          simp only [Int.toNat_natCast]
          rw [List.getElem_set_ne (by omega), List.getElem_set_ne (by omega), List.getElem_set_ne (by omega)]
          exact hj j h (by omega))
      refine ⟨y, Ev.succ ?_, h1, h2⟩
      simp only [laws_markRecS.l0]
      refine Ev.pos (by omega) (Ev.pos (by omega) (Ev.bnd0 rfl (Ev.bnd0 rfl ?_)))
      rw [rdR_set x i _ (by omega), rdR_set _ i _ (by rw [List.length_set]; omega), up1 i (by omega), w64 (show -9223372036854775808 ≤ c + 1 by omega) (by omega), w64 (show -9223372036854775808 ≤ c + 1 + 1 by omega) (by omega), w64 (show -9223372036854775808 ≤ c + 1 + 1 + 1 by omega) (by omega)]
      exact Ev.bnd (laws_markText_ev _ (by omega)) hy
  exact key l.length 0 l m (by omega) rfl (by omega) (fun j _ h => absurd h (by omega))
def ofR (x : S60) : S61 := ⟨x.f0, x.f1, x.f2⟩
theorem rdR0_nat (l : List S60) (i : Nat) (h : i < l.length) : rd_T60 l (i : Int) = l[i] := by
  simp [rd_T60, List.getD, List.getElem?_eq_getElem h]
theorem laws_szRecS_ev (l : List S60) (m : Int) (hm0 : 0 ≤ m) (hm : m ≤ 140737488351232) (hl : l.length ≤ 140737488351232) (hx : ∀ x ∈ l, x.f2.size ≤ 140737488351232) : ∃ r, Ev (fun k => laws_szRecS.f k l m) r ∧ (0 ≤ r → (l.length : Int) ≤ m) := by
  have key : ∀ (n i : Nat) (c : Int), i + n = l.length → 0 ≤ c → c ≤ 140737488351232 → ∃ r, Ev (fun k => laws_szRecS.l0 k l c (i : Int)) r := by
    intro n
    induction n with
    | zero =>
      intro i c hi hc0 hc
      refine ⟨c, Ev.succ ?_⟩
      simp only [laws_szRecS.l0]
      exact Ev.neg (by omega) (Ev.now _)
    | succ n ih =>
      intro i c hi hc0 hc
      have hr := rdR0_nat l i (by omega)
      have hs := hx _ (List.getElem_mem (show i < l.length by omega))
      have hw : wrap64 (c - (((rd_T60 l (i : Int)).f2.size : Nat) : Int)) = c - (((l[i]'(by omega)).f2.size : Nat) : Int) := by rw [hr]; exact w64 (by omega) (by omega)
      by_cases h : c - (((l[i]'(by omega)).f2.size : Nat) : Int) < 0
      · refine ⟨-1, Ev.succ ?_⟩
        simp only [laws_szRecS.l0]
        exact Ev.pos (by omega) (Ev.pos (by omega) (Ev.bnd0 (a := -1) (by simp only [laws_szRec.f]; rw [if_pos (by rw [hw]; exact h)]) (Ev.pos (by omega) (Ev.now _))))
      · obtain ⟨r, hev⟩ := ih (i + 1) (c - (((l[i]'(by omega)).f2.size : Nat) : Int)) (by omega) (by omega) (by omega)
        refine ⟨r, Ev.succ ?_⟩
        simp only [laws_szRecS.l0]
        refine Ev.pos (by omega) (Ev.pos (by omega) (Ev.bnd0 (a := c - (((l[i]'(by omega)).f2.size : Nat) : Int)) (by simp only [laws_szRec.f]; rw [if_neg (by rw [hw]; exact h), hw]) (Ev.neg h ?_)))
        rw [up1 i (by omega)]
        exact hev
  simp only [laws_szRecS.f]
  by_cases h : wrap64 (m - (l.length : Int)) < 0
  · exact ⟨-1, Ev.pos h (Ev.now _), fun h => absurd h (by omega)⟩
  · have h1 : ¬ (m - (l.length : Int) < 0) := by rw [w64 (by omega) (by omega)] at h; exact h
    obtain ⟨r, hr⟩ := key l.length 0 (m - (l.length : Int)) (by omega) (by omega) (by omega)
    refine ⟨r, Ev.neg h ?_, fun _ => by omega⟩
    rw [w64 (by omega) (by omega)]
    exact hr
theorem laws_toRecS_ev (l : List S60) (hl : l.length ≤ 1048576) : Ev (fun k => laws_toRecS.f k l) (l.map ofR) := by
  have key : ∀ (n i : Nat) (x : List S61), i + n = l.length → x.length = l.length → (∀ j, j < i → x[j]? = (l.map ofR)[j]?) → Ev (fun k => laws_toRecS.l0 k l x (i : Int)) (l.map ofR) := by
    intro n
    induction n with
    | zero =>
      intro i x hi hx hj
      refine Ev.succ ?_
      simp only [laws_toRecS.l0]
      refine Ev.neg (by omega) (Ev.some_ ?_)
      apply List.ext_getElem?
      intro j
      by_cases h : j < i
      · exact hj j h
      · rw [List.getElem?_eq_none (by omega), List.getElem?_eq_none (by rw [List.length_map]; omega)]
    | succ n ih =>
      intro i x hi hx hj
      refine Ev.succ ?_
      simp only [laws_toRecS.l0]
      refine Ev.pos (by omega) (Ev.pos (by omega) (Ev.bnd0 rfl (Ev.pos (by omega) ?_)))
      rw [up1 i (by omega), Int.toNat_natCast]
      refine ih (i + 1) _ (by omega) (by rw [List.length_set]; exact hx) ?_
      intro j hj'
      by_cases h : j = i
      · subst h
        rw [List.getElem?_set_self (by omega), List.getElem?_map, List.getElem?_eq_getElem (show j < l.length by omega), rdR0_nat l j (by omega)]
        rfl
      · rw [List.getElem?_set_ne (by omega)]
        exact hj j (by omega)
  simp only [laws_toRecS.f]
  exact Ev.pos (by omega) (Ev.pos (by omega) (key l.length 0 _ (by omega) (by simp) (fun j h => absurd h (by omega))))
def ixL (v : Int) : List Int → Int → Int
  | [], _ => -1
  | x :: l, i => if v = x then i else ixL v l (i + 1)
theorem ixL_mem (v : Int) : ∀ (l : List Int) (i : Int), (v ∈ l → ∃ j : Nat, ixL v l i = i + j ∧ j < l.length ∧ l.eraseIdx j = l.erase v) ∧ (v ∉ l → ixL v l i = -1)
  | [], _ => ⟨fun h => absurd h (by simp), fun _ => rfl⟩
  | x :: l, i => by
    by_cases h : v = x
    · subst h
      exact ⟨fun _ => ⟨0, by simp [ixL], by simp, by simp⟩, fun hn => absurd List.mem_cons_self hn⟩
    · obtain ⟨h1, h2⟩ := ixL_mem v l (i + 1)
      have e : ixL v (x :: l) i = ixL v l (i + 1) := by simp only [ixL]; rw [if_neg h]
      rw [e]
      refine ⟨fun hm => ?_, fun hn => h2 (fun hm => hn (List.mem_cons_of_mem _ hm))⟩
      obtain ⟨j, e1, e2, e3⟩ := h1 (by rcases List.mem_cons.1 hm with hm | hm; exact absurd hm h; exact hm)
      refine ⟨j + 1, by rw [e1]; omega, by simp only [List.length_cons]; omega, ?_⟩
      rw [List.eraseIdx_cons_succ, e3, List.erase_cons_tail (by simpa using fun e => h e.symm)]
theorem slices_Index_ev (d : List Int) (v : Int) (hl : d.length ≤ 140737488351232) : Ev (fun k => slices_Index_int_int.f k d v) (ixL v d 0) := by
  simp only [slices_Index_int_int.f]
  have key : ∀ (n i : Nat), i + n = d.length → Ev (fun k => slices_Index_int_int.l0 k d v (d.length : Int) (i : Int)) (ixL v (d.drop i) (i : Int)) := by
    intro n
    induction n with
    | zero =>
      intro i hi
      refine Ev.succ ?_
      simp only [slices_Index_int_int.l0]
      rw [drop_end d i (by omega)]
      exact Ev.neg (by omega) (Ev.now _)
    | succ n ih =>
      intro i hi
      refine Ev.succ ?_
      simp only [slices_Index_int_int.l0]
      rw [drop_rd d i (by omega), up1 i (by omega)]
      by_cases h : v = rd d (i : Int)
      · refine Ev_eq (Ev.pos (by omega) (Ev.pos (by omega) (Ev.pos (by omega) (Ev.pos h (Ev.now _))))) ?_
        simp only [ixL]
        rw [if_pos h]
      · refine Ev_eq (Ev.pos (by omega) (Ev.pos (by omega) (Ev.pos (by omega) (Ev.neg h (ih (i + 1) (by omega)))))) ?_
        simp only [ixL]
        rw [if_neg h]
        rfl
  exact key d.length 0 (by omega)
theorem slices_Contains_ev (d : List Int) (v : Int) (hl : d.length ≤ 140737488351232) : Ev (fun k => slices_Contains_int_int.f k d v) (decide (v ∈ d)) := by
  simp only [slices_Contains_int_int.f]
  refine Ev.bnd (slices_Index_ev d v hl) (Ev.some_ ?_)
  by_cases h : v ∈ d
  · obtain ⟨j, e, _⟩ := (ixL_mem v d 0).1 h
    rw [decide_eq_true (by omega), decide_eq_true h]
  · have e := (ixL_mem v d 0).2 h
    rw [decide_eq_false (by omega), decide_eq_false h]
theorem spec_l07In_ev (d : List Int) (v : Int) (hl : d.length ≤ 140737488351232) : Ev (fun k => spec_l07In.f k d v) (decide (v ∈ d)) := by
  simp only [spec_l07In.f]
  have key : ∀ (n i : Nat), i + n = d.length → Ev (fun k => spec_l07In.l0 k d v (i : Int)) (decide (v ∈ d.drop i)) := by
    intro n
    induction n with
    | zero =>
      intro i hi
      refine Ev.succ ?_
      simp only [spec_l07In.l0]
      rw [drop_end d i (by omega)]
      exact Ev.neg (by omega) (Ev.some_ (by simp))
    | succ n ih =>
      intro i hi
      refine Ev.succ ?_
      simp only [spec_l07In.l0]
      rw [drop_rd d i (by omega), up1 i (by omega)]
      by_cases h : rd d (i : Int) = v
      · refine Ev_eq (Ev.pos (by omega) (Ev.pos (by omega) (Ev.pos h (Ev.now _)))) ?_
        rw [h]
        simp
      · refine Ev_eq (Ev.pos (by omega) (Ev.pos (by omega) (Ev.neg h (ih (i + 1) (by omega))))) ?_
        exact decide_eq_decide.2 ⟨fun hm => List.mem_cons_of_mem _ hm, fun hm => by rcases List.mem_cons.1 hm with hm | hm; exact absurd hm.symm h; exact hm⟩
  have := key d.length 0 (by omega)
  simpa using this
def without (d : List Int) (v : Int) : List Int := d.filter fun x => decide (x ≠ v)
theorem without_length (d : List Int) (v : Int) : (without d v).length ≤ d.length := List.length_filter_le _ _
theorem spec_l07Without_ev (d : List Int) (v : Int) (hl : d.length ≤ 1048576) : Ev (fun k => spec_l07Without.f k d v) (without d v) := by
  simp only [spec_l07Without.f]
  have key : ∀ (n i : Nat) (a : List Int), i + n = d.length → a.length ≤ i → Ev (fun k => spec_l07Without.l0 k d v a (i : Int)) (a ++ without (d.drop i) v) := by
    intro n
    induction n with
    | zero =>
      intro i a hi ha
      refine Ev.succ ?_
      simp only [spec_l07Without.l0]
      rw [drop_end d i (by omega)]
      exact Ev.neg (by omega) (Ev.some_ (by simp [without]))
    | succ n ih =>
      intro i a hi ha
      refine Ev.succ ?_
      simp only [spec_l07Without.l0]
      rw [drop_rd d i (by omega), up1 i (by omega)]
      by_cases h : rd d (i : Int) = v
      · refine Ev_eq (Ev.pos (by omega) (Ev.pos (by omega) (Ev.pos h (ih (i + 1) a (by omega) (by omega))))) ?_
        simp [without, h]
      · refine Ev_eq (Ev.pos (by omega) (Ev.pos (by omega) (Ev.neg h (Ev.pos (by omega) (ih (i + 1) (a ++ [rd d (i : Int)]) (by omega) (by simp; omega)))))) ?_
        simp [without, h]
  have := key d.length 0 [] (by omega) (by simp)
  simpa using this
theorem erase_without (v : Int) : ∀ (d : List Int), d.Nodup → d.erase v = without d v
  | [], _ => rfl
  | x :: l, h => by
    have h1 := List.nodup_cons.1 h
    by_cases e : x = v
    · subst e
      rw [List.erase_cons_head]
      simp only [without, List.filter_cons]
      rw [if_neg (by simp)]
      exact (List.filter_eq_self.2 (fun y hy => by simp; intro e; exact h1.1 (by rw [← e]; exact hy))).symm
    · rw [List.erase_cons_tail (by simpa using e), erase_without v l h1.2]
      simp [without, e]
def seesB (set : List Int) (c : Int) (d : List Int) : Bool := decide (c ∈ set) && d.all fun x => !decide (x ∈ set)
theorem impl_sees_ev (set : List Int) (c : Int) (d : List Int) (hs : set.length ≤ 1048576) (hd : d.length ≤ 1048576) : Ev (fun k => impl_walker_sees.f k c d set) (seesB set c d) := by
  simp only [impl_walker_sees.f]
  refine Ev.bnd (slices_Contains_ev set c (by omega)) ?_
  have key : ∀ (n i : Nat), i + n = d.length → Ev (fun k => impl_walker_sees.l0 k set d (i : Int)) ((d.drop i).all fun x => !decide (x ∈ set)) := by
    intro n
    induction n with
    | zero =>
      intro i hi
      refine Ev.succ ?_
      simp only [impl_walker_sees.l0]
      rw [drop_end d i (by omega)]
      exact Ev.neg (by omega) (Ev.some_ (by simp))
    | succ n ih =>
      intro i hi
      refine Ev.succ ?_
      simp only [impl_walker_sees.l0]
      rw [drop_rd d i (by omega), up1 i (by omega)]
      refine Ev.pos (by omega) (Ev.pos (by omega) (Ev.bnd (slices_Contains_ev set _ (by omega)) ?_))
      by_cases h : rd d (i : Int) ∈ set
      · exact Ev.pos (by simpa using h) (Ev.some_ (by simp [h]))
      · exact Ev.neg (by simpa using h) (Ev_eq (ih (i + 1) (by omega)) (by simp [h]))
  by_cases h : c ∈ set
  · exact Ev.pos (by simpa using h) (Ev_eq (key d.length 0 (by omega)) (by simp [seesB, h]))
  · exact Ev.neg (by simpa using h) (Ev.some_ (by simp [seesB, h]))
/-- What a walk over records gives. -/
def walkR (set : List Int) : List S61 → List ByteArray → Bool → Int → List Int → List ByteArray × Bool
  | [], out, o, _, d => if o = true then ([], false) else if 0 < d.length then ([], false) else (out, true)
  | r :: l, out, o, c, d =>
    if r.f0 = 2 then (if o = true then ([], false) else walkR set l out true r.f1 d) else
    if r.f0 = 3 then (if o = true then (if c = r.f1 then walkR set l out false c d else ([], false)) else ([], false)) else
    if r.f0 = 4 then (if r.f1 ∈ d then ([], false) else walkR set l out o c (d ++ [r.f1])) else
    if r.f0 = 5 then (if r.f1 ∈ d then walkR set l out o c (without d r.f1) else ([], false)) else
    if r.f0 = 1 then (if o = true then walkR set l (if seesB set c d = true then out ++ [r.f2] else out) o c d else ([], false)) else ([], false)
theorem walkR_length (set : List Int) : ∀ (l : List S61) (out : List ByteArray) (o : Bool) (c : Int) (d : List Int), (walkR set l out o c d).1.length ≤ out.length + l.length
  | [], out, o, c, d => by
    simp only [walkR]
    split
    · simp
    · split <;> simp
  | r :: l, out, o, c, d => by
    have ih := fun out' o' c' d' => walkR_length set l out' o' c' d'
    simp only [walkR, List.length_cons]
    repeat' split
    all_goals first | (simp only [List.length_nil]; omega) | (refine Nat.le_trans (ih _ _ _ _) ?_; first | omega | (simp only [List.length_append, List.length_cons, List.length_nil]; omega))
theorem drop_rdR (l : List S61) (i : Nat) (h : i < l.length) : l.drop i = rd_T61 l (i : Int) :: l.drop (i + 1) := by
  rw [List.drop_eq_getElem_cons h, rdR_nat l i h]
theorem spec_Walk_l1_ev (l : List S61) (set : List Int) (hs : set.length ≤ 1048576) (out : List ByteArray) (o : Bool) (c : Int) (d : List Int) (x a b : Int) (f2 : ByteArray) (ho : out.length ≤ 1048576) (hd : d.length ≤ 1048576) (r : List ByteArray × Bool) : ∀ (n j : Nat) (t : Bool), j + n = d.length → Ev (fun k => spec_Walk.l0 k l set (if (t && (d.drop j).all fun x => !decide (x ∈ set)) = true then out ++ [f2] else out) o c d (wrap64 (x + 1))) r → Ev (fun k => spec_Walk.l1 k l set out o c d x t (j : Int) a b f2) r := by
  intro n
  induction n with
  | zero =>
    intro j t hj h
    refine Ev.succ ?_
    simp only [spec_Walk.l1]
    rw [drop_end d j (by omega)] at h
    refine Ev.neg (by omega) ?_
    cases t with
    | true => exact Ev.pos rfl (Ev.pos (by omega) (by simpa using h))
    | false => exact Ev.neg (by simp) (by simpa using h)
  | succ n ih =>
    intro j t hj h
    refine Ev.succ ?_
    simp only [spec_Walk.l1]
    refine Ev.pos (by omega) ?_
    cases t with
    | false => exact Ev.neg (by simp) (by simpa using h)
    | true =>
      refine Ev.pos rfl (Ev.pos (by omega) (Ev.bnd (spec_l07In_ev set _ (by omega)) ?_))
      rw [up1 j (by omega)]
      refine ih (j + 1) _ (by omega) ?_
      rw [drop_rd d j (by omega)] at h
      simpa [Bool.and_assoc] using h
theorem spec_Walk_ev (l : List S61) (set : List Int) (hl : l.length ≤ 1048576) (hs : set.length ≤ 1048576) : Ev (fun k => spec_Walk.f k l set) (if 4000 < l.length then ([], false) else walkR set l [] false 0 []) := by
  have key : ∀ (n i : Nat) (out : List ByteArray) (o : Bool) (c : Int) (d : List Int), i + n = l.length → out.length ≤ i → d.length ≤ i → Ev (fun k => spec_Walk.l0 k l set out o c d (i : Int)) (walkR set (l.drop i) out o c d) := by
    intro n
    induction n with
    | zero =>
      intro i out o c d hi ho hd
      refine Ev.succ ?_
      simp only [spec_Walk.l0]
      rw [List.drop_eq_nil_of_le (by omega)]
      refine Ev.neg (by omega) ?_
      simp only [walkR]
      by_cases h : o = true
      · refine Ev_eq ?_ (if_pos h).symm
        exact Ev.pos h (Ev.now _)
      · refine Ev_eq ?_ (if_neg h).symm
        refine Ev.neg h ?_
        by_cases h2 : 0 < d.length
        · refine Ev_eq ?_ (if_pos h2).symm
          exact Ev.pos (by omega) (Ev.now _)
        · refine Ev_eq ?_ (if_neg h2).symm
          exact Ev.neg (by omega) (Ev.now _)
    | succ n ih =>
      intro i out o c d hi ho hd
      refine Ev.succ ?_
      simp only [spec_Walk.l0]
      rw [drop_rdR l i (by omega), up1 i (by omega)]
      refine Ev.pos (by omega) (Ev.pos (by omega) ?_)
      obtain ⟨r, hr⟩ : ∃ r, rd_T61 l (i : Int) = r := ⟨_, rfl⟩
      rw [hr]
      simp only [walkR]
      by_cases h2 : r.f0 = 2
      · refine Ev_eq ?_ (if_pos h2).symm
        refine Ev.pos h2 ?_
        by_cases h : o = true
        · refine Ev_eq ?_ (if_pos h).symm
          exact Ev.pos h (Ev.now _)
        · refine Ev_eq ?_ (if_neg h).symm
          exact Ev.neg h (ih (i + 1) _ _ _ _ (by omega) (by omega) (by omega))
      refine Ev_eq ?_ (if_neg h2).symm
      refine Ev.neg h2 ?_
      by_cases h3 : r.f0 = 3
      · refine Ev_eq ?_ (if_pos h3).symm
        refine Ev.pos h3 ?_
        by_cases h : o = true
        · refine Ev_eq ?_ (if_pos h).symm
          refine Ev.pos h ?_
          by_cases h4 : c = r.f1
          · refine Ev_eq ?_ (if_pos h4).symm
            exact Ev.pos h4 (ih (i + 1) _ _ _ _ (by omega) (by omega) (by omega))
          · refine Ev_eq ?_ (if_neg h4).symm
            exact Ev.neg h4 (Ev.now _)
        · refine Ev_eq ?_ (if_neg h).symm
          exact Ev.neg h (Ev.now _)
      refine Ev_eq ?_ (if_neg h3).symm
      refine Ev.neg h3 ?_
      by_cases h4 : r.f0 = 4
      · refine Ev_eq ?_ (if_pos h4).symm
        refine Ev.pos h4 (Ev.bnd (spec_l07In_ev d _ (by omega)) ?_)
        by_cases h : r.f1 ∈ d
        · refine Ev_eq ?_ (if_pos h).symm
          exact Ev.pos (by simpa using h) (Ev.now _)
        · refine Ev_eq ?_ (if_neg h).symm
          exact Ev.neg (by simpa using h) (Ev.pos (by omega) (ih (i + 1) _ _ _ _ (by omega) (by omega) (by simp; omega)))
      refine Ev_eq ?_ (if_neg h4).symm
      refine Ev.neg h4 ?_
      by_cases h5 : r.f0 = 5
      · refine Ev_eq ?_ (if_pos h5).symm
        refine Ev.pos h5 (Ev.bnd (spec_l07In_ev d _ (by omega)) ?_)
        by_cases h : r.f1 ∈ d
        · refine Ev_eq ?_ (if_pos h).symm
          exact Ev.pos (by simpa using h) (Ev.bnd (spec_l07Without_ev d _ (by omega)) (ih (i + 1) _ _ _ _ (by omega) (by omega) (by have := without_length d r.f1; omega)))
        · refine Ev_eq ?_ (if_neg h).symm
          exact Ev.neg (by simpa using h) (Ev.now _)
      refine Ev_eq ?_ (if_neg h5).symm
      refine Ev.neg h5 ?_
      by_cases h1 : r.f0 = 1
      · refine Ev_eq ?_ (if_pos h1).symm
        refine Ev.pos h1 ?_
        by_cases h : o = true
        · refine Ev_eq ?_ (if_pos h).symm
          refine Ev.pos h (Ev.bnd (spec_l07In_ev set _ (by omega)) (spec_Walk_l1_ev l set hs out o c d (i : Int) _ _ _ (by omega) (by omega) _ d.length 0 _ (by omega) ?_))
          rw [up1 i (by omega), List.drop_zero]
          exact ih (i + 1) _ _ _ _ (by omega) (by split; (simp only [List.length_append, List.length_cons, List.length_nil]; omega); omega) (by omega)
        · refine Ev_eq ?_ (if_neg h).symm
          exact Ev.neg h (Ev.now _)
      · refine Ev_eq ?_ (if_neg h1).symm
        exact Ev.neg h1 (Ev.now _)
  simp only [spec_Walk.f]
  refine Ev.bnd0 rfl ?_
  by_cases h : 4000 < l.length
  · refine Ev_eq ?_ (if_pos h).symm
    exact Ev.pos (by omega) (Ev.now _)
  · refine Ev_eq ?_ (if_neg h).symm
    exact Ev.neg (by omega) (key l.length 0 [] false 0 [] (by omega) (by simp) (by simp))
/-- What the walker's mark gives. -/
def markR (o : Bool) (c : Int) (d : List Int) (kind v : Int) : Bool × Bool × Int × List Int :=
  if kind = 2 then (if o = true then (false, o, c, d) else (true, true, v, d)) else
  if kind = 3 then (if o = true then (if c = v then (true, false, c, d) else (false, o, c, d)) else (false, o, c, d)) else
  if kind = 4 then (if v ∈ d then (false, o, c, d) else (true, o, c, d ++ [v])) else
  if kind = 5 then (if v ∈ d then (true, o, c, d.erase v) else (false, o, c, d)) else
  if kind = 1 then (o, o, c, d) else (false, o, c, d)
theorem impl_mark_ev (o : Bool) (c : Int) (d : List Int) (kind v : Int) (hd : d.length ≤ 1048576) : Ev (fun k => impl_walker_mark.f k o c d kind v) (markR o c d kind v) := by
  simp only [impl_walker_mark.f]
  refine Ev.bnd (slices_Index_ev d v (by omega)) ?_
  have hm := ixL_mem v d 0
  unfold markR
  by_cases h2 : kind = 2
  · refine Ev_eq ?_ (if_pos h2).symm
    refine Ev.pos h2 ?_
    by_cases h : o = true
    · refine Ev_eq ?_ (if_pos h).symm
      exact Ev.pos h (Ev.now _)
    · refine Ev_eq ?_ (if_neg h).symm
      exact Ev.neg h (Ev.now _)
  refine Ev_eq ?_ (if_neg h2).symm
  refine Ev.neg h2 ?_
  by_cases h3 : kind = 3
  · refine Ev_eq ?_ (if_pos h3).symm
    refine Ev.pos h3 ?_
    by_cases h : o = true
    · refine Ev_eq ?_ (if_pos h).symm
      refine Ev.pos h ?_
      by_cases h4 : c = v
      · refine Ev_eq ?_ (if_pos h4).symm
        exact Ev.pos h4 (Ev.now _)
      · refine Ev_eq ?_ (if_neg h4).symm
        exact Ev.neg h4 (Ev.now _)
    · refine Ev_eq ?_ (if_neg h).symm
      exact Ev.neg h (Ev.now _)
  refine Ev_eq ?_ (if_neg h3).symm
  refine Ev.neg h3 ?_
  by_cases h4 : kind = 4
  · refine Ev_eq ?_ (if_pos h4).symm
    refine Ev.pos h4 ?_
    by_cases h : v ∈ d
    · refine Ev_eq ?_ (if_pos h).symm
      obtain ⟨j, e, _⟩ := hm.1 h
      exact Ev.pos (by omega) (Ev.now _)
    · refine Ev_eq ?_ (if_neg h).symm
      have e := hm.2 h
      exact Ev.neg (by omega) (Ev.now _)
  refine Ev_eq ?_ (if_neg h4).symm
  refine Ev.neg h4 ?_
  by_cases h5 : kind = 5
  · refine Ev_eq ?_ (if_pos h5).symm
    refine Ev.pos h5 ?_
    by_cases h : v ∈ d
    · refine Ev_eq ?_ (if_pos h).symm
      obtain ⟨j, e, e2, e3⟩ := hm.1 h
      have ej : (ixL v d 0).toNat = j := by omega
      exact Ev.neg (by omega) (Ev.pos (by omega) (Ev.some_ (by rw [ej, e3])))
    · refine Ev_eq ?_ (if_neg h).symm
      have e := hm.2 h
      exact Ev.pos (by omega) (Ev.now _)
  refine Ev_eq ?_ (if_neg h5).symm
  refine Ev.neg h5 ?_
  by_cases h1 : kind = 1
  · refine Ev_eq ?_ (if_pos h1).symm
    exact Ev.pos h1 (Ev.now _)
  · refine Ev_eq ?_ (if_neg h1).symm
    exact Ev.neg h1 (Ev.now _)
theorem impl_Walk_ev (l : List S61) (set : List Int) (hl : l.length ≤ 1048576) (hs : set.length ≤ 1048576) : Ev (fun k => impl_Walk.f k l set) (if 4000 < l.length then ([], false) else walkR set l [] false 0 []) := by
  have key : ∀ (n i : Nat) (out : List ByteArray) (o : Bool) (c : Int) (d : List Int), i + n = l.length → out.length ≤ i → d.length ≤ i → d.Nodup → Ev (fun k => impl_Walk.l0 k l set out o c d (i : Int)) (walkR set (l.drop i) out o c d) := by
    intro n
    induction n with
    | zero =>
      intro i out o c d hi ho hd hn
      refine Ev.succ ?_
      simp only [impl_Walk.l0]
      rw [List.drop_eq_nil_of_le (by omega)]
      refine Ev.neg (by omega) ?_
      simp only [walkR]
      by_cases h : o = true
      · refine Ev_eq ?_ (if_pos h).symm
        exact Ev.pos h (Ev.now _)
      · refine Ev_eq ?_ (if_neg h).symm
        refine Ev.neg h ?_
        by_cases h2 : 0 < d.length
        · refine Ev_eq ?_ (if_pos h2).symm
          exact Ev.pos (by omega) (Ev.now _)
        · refine Ev_eq ?_ (if_neg h2).symm
          exact Ev.neg (by omega) (Ev.now _)
    | succ n ih =>
      intro i out o c d hi ho hd hn
      refine Ev.succ ?_
      simp only [impl_Walk.l0]
      rw [drop_rdR l i (by omega), up1 i (by omega)]
      obtain ⟨r, hr⟩ : ∃ r, rd_T61 l (i : Int) = r := ⟨_, rfl⟩
      rw [hr]
      refine Ev.pos (by omega) (Ev.pos (by omega) (Ev.pos (by omega) (Ev.bnd (impl_mark_ev o c d r.f0 r.f1 (by omega)) ?_)))
      generalize hmk : markR o c d r.f0 r.f1 = m
      simp only [walkR]
      by_cases h2 : r.f0 = 2
      · refine Ev_eq ?_ (if_pos h2).symm
        by_cases h : o = true
        · refine Ev_eq ?_ (if_pos h).symm
          obtain rfl : m = (false, o, c, d) := by rw [← hmk]; simp [markR, h2, h]
          exact Ev.neg (by simp) (Ev.now _)
        · refine Ev_eq ?_ (if_neg h).symm
          obtain rfl : m = (true, true, r.f1, d) := by rw [← hmk]; simp [markR, h2, h]
          exact Ev.pos rfl (Ev.neg (by omega) (ih (i + 1) _ _ _ _ (by omega) (by omega) (by show d.length ≤ i + 1; omega) hn))
      refine Ev_eq ?_ (if_neg h2).symm
      by_cases h3 : r.f0 = 3
      · refine Ev_eq ?_ (if_pos h3).symm
        by_cases h : o = true
        · refine Ev_eq ?_ (if_pos h).symm
          by_cases h4 : c = r.f1
          · refine Ev_eq ?_ (if_pos h4).symm
            obtain rfl : m = (true, false, c, d) := by rw [← hmk]; simp [markR, h3, h, ← h4]
            exact Ev.pos rfl (Ev.neg (by omega) (ih (i + 1) _ _ _ _ (by omega) (by omega) (by show d.length ≤ i + 1; omega) hn))
          · refine Ev_eq ?_ (if_neg h4).symm
            obtain rfl : m = (false, o, c, d) := by rw [← hmk]; simp [markR, h3, h, h4]
            exact Ev.neg (by simp) (Ev.now _)
        · refine Ev_eq ?_ (if_neg h).symm
          obtain rfl : m = (false, o, c, d) := by rw [← hmk]; simp [markR, h3, h]
          exact Ev.neg (by simp) (Ev.now _)
      refine Ev_eq ?_ (if_neg h3).symm
      by_cases h4 : r.f0 = 4
      · refine Ev_eq ?_ (if_pos h4).symm
        by_cases h : r.f1 ∈ d
        · refine Ev_eq ?_ (if_pos h).symm
          obtain rfl : m = (false, o, c, d) := by rw [← hmk]; simp [markR, h4, h]
          exact Ev.neg (by simp) (Ev.now _)
        · refine Ev_eq ?_ (if_neg h).symm
          obtain rfl : m = (true, o, c, d ++ [r.f1]) := by rw [← hmk]; simp [markR, h4, h]
          exact Ev.pos rfl (Ev.neg (by omega) (ih (i + 1) _ _ _ _ (by omega) (by omega) (by simp; omega) (List.nodup_append.2 ⟨hn, by simp, fun a ha b hb e => h (by rw [List.mem_singleton.1 hb] at e; rw [← e]; exact ha)⟩)))
      refine Ev_eq ?_ (if_neg h4).symm
      by_cases h5 : r.f0 = 5
      · refine Ev_eq ?_ (if_pos h5).symm
        by_cases h : r.f1 ∈ d
        · refine Ev_eq ?_ (if_pos h).symm
          obtain rfl : m = (true, o, c, d.erase r.f1) := by rw [← hmk]; simp [markR, h5, h]
          dsimp only
          rw [erase_without _ _ hn]
          exact Ev.pos rfl (Ev.neg (by omega) (ih (i + 1) _ _ _ _ (by omega) (by omega) (by have := without_length d r.f1; omega) (hn.filter _)))
        · refine Ev_eq ?_ (if_neg h).symm
          obtain rfl : m = (false, o, c, d) := by rw [← hmk]; simp [markR, h5, h]
          exact Ev.neg (by simp) (Ev.now _)
      refine Ev_eq ?_ (if_neg h5).symm
      by_cases h1 : r.f0 = 1
      · refine Ev_eq ?_ (if_pos h1).symm
        obtain rfl : m = (o, o, c, d) := by rw [← hmk]; simp [markR, h1]
        by_cases h : o = true
        · refine Ev_eq ?_ (if_pos h).symm
          refine Ev.pos h (Ev.pos h1 (Ev.bnd (impl_sees_ev set c d hs (by omega)) ?_))
          by_cases hb : seesB set c d = true
          · rw [if_pos hb]
            exact Ev.pos hb (Ev.pos (by omega) (ih (i + 1) _ _ _ _ (by omega) (by simp; omega) (by show d.length ≤ i + 1; omega) hn))
          · rw [if_neg hb]
            exact Ev.neg hb (ih (i + 1) _ _ _ _ (by omega) (by omega) (by show d.length ≤ i + 1; omega) hn)
        · refine Ev_eq ?_ (if_neg h).symm
          exact Ev.neg h (Ev.now _)
      · refine Ev_eq ?_ (if_neg h1).symm
        obtain rfl : m = (false, o, c, d) := by rw [← hmk]; simp [markR, h1, h2, h3, h4, h5]
        exact Ev.neg (by simp) (Ev.now _)
  simp only [impl_Walk.f]
  by_cases h : 4000 < l.length
  · refine Ev_eq ?_ (if_pos h).symm
    exact Ev.pos (by omega) (Ev.now _)
  · refine Ev_eq ?_ (if_neg h).symm
    exact Ev.neg (by omega) (key l.length 0 [] false 0 [] (by omega) (by simp) (by simp) List.nodup_nil)
theorem laws_toIntS_l0 (l : List Int) (hl : l.length ≤ 140737488351232) : ∀ (n i : Nat) (x : List Int), i + n = l.length → x.length = l.length → (∀ j, j < i → x[j]? = l[j]?) → Ev (fun k => laws_toIntS.l0 k l x (i : Int)) l := by
  intro n
  induction n with
  | zero =>
    intro i x hi hx hj
    refine Ev.succ ?_
    simp only [laws_toIntS.l0]
    refine Ev.neg (by omega) (Ev.some_ ?_)
    apply List.ext_getElem?
    intro j
    by_cases h : j < i
    · exact hj j h
    · rw [List.getElem?_eq_none (by omega), List.getElem?_eq_none (by omega)]
  | succ n ih =>
    intro i x hi hx hj
    refine Ev.succ ?_
    simp only [laws_toIntS.l0]
    refine Ev.pos (by omega) (Ev.pos (by omega) (Ev.pos (by omega) ?_))
    have e : wrap64 ((i : Int) + 1) = ((i + 1 : Nat) : Int) := by rw [w64 (by omega) (by omega)]; omega
    have e2 : ((i : Int)).toNat = i := by omega
    rw [e, e2]
    refine ih (i + 1) _ (by omega) (by rw [List.length_set]; exact hx) ?_
    intro j hj'
    by_cases h : j = i
    · subst h
      rw [List.getElem?_set_self (by omega)]
      simp [rd, List.getD, List.getElem?_eq_getElem (show j < l.length by omega)]
    · rw [List.getElem?_set_ne (by omega)]
      exact hj j (by omega)
theorem laws_toIntS_ev (l : List Int) (hl : l.length ≤ 35184372088832) : Ev (fun k => laws_toIntS.f k l) l := by
  simp only [laws_toIntS.f]
  refine Ev.pos (by omega) (Ev.pos (by omega) ?_)
  exact laws_toIntS_l0 l (by omega) l.length 0 _ (by omega) (by simp) (fun j h => absurd h (by omega))
theorem laws_eqIntS_refl (l : List Int) (hl : l.length ≤ 140737488351232) : Ev (fun k => laws_eqIntS.f k l l) true := by
  simp only [laws_eqIntS.f]
  refine Ev.pos (by first | rfl | trivial) ?_
  have key : ∀ (n i : Nat), i + n = l.length → Ev (fun k => laws_eqIntS.l0 k l l (i : Int)) true := by
    intro n
    induction n with
    | zero =>
      intro i hi
      refine Ev.succ ?_
      simp only [laws_eqIntS.l0]
      exact Ev.neg (by omega) (Ev.now _)
    | succ n ih =>
      intro i hi
      refine Ev.succ ?_
      simp only [laws_eqIntS.l0]
      have e : wrap64 ((i : Int) + 1) = ((i + 1 : Nat) : Int) := by rw [w64 (by omega) (by omega)]; omega
      rw [e]
      exact Ev.pos (by omega) (Ev.pos (by omega) (Ev.pos (by omega) (Ev.pos (by first | rfl | trivial) (ih (i + 1) (by omega)))))
  exact key l.length 0 (by omega)
theorem laws_markIntS_ev (l : List Int) (m : Int) (hl : l.length ≤ 140737488351232) (hm0 : 0 ≤ m) (hm : m ≤ 140737488351232) : Ev (fun k => laws_markIntS.f k l m) (m + l.length, markL (fun x => x) m l.length) := by
  simp only [laws_markIntS.f]
  have key : ∀ (n i : Nat) (x : List Int) (c : Int), i + n = l.length → x.length = l.length → c = m + i → (∀ j, j < i → x[j]? = (markL (fun x => x) m l.length)[j]?) → Ev (fun k => laws_markIntS.l0 k x c (i : Int)) (m + l.length, markL (fun x => x) m l.length) := by
    intro n
    induction n with
    | zero =>
      intro i x c hi hx hc hj
      refine Ev.succ ?_
      simp only [laws_markIntS.l0]
      refine Ev.neg (by omega) (Ev.some_ ?_)
      have : x = markL (fun x => x) m l.length := by
        apply List.ext_getElem?
        intro j
        by_cases h : j < i
        · exact hj j h
        · rw [List.getElem?_eq_none (by omega), List.getElem?_eq_none (by rw [markL_length]; omega)]
      rw [this, hc, show i = l.length by omega]
    | succ n ih =>
      intro i x c hi hx hc hj
      refine Ev.succ ?_
      simp only [laws_markIntS.l0]
      refine Ev.pos (by omega) (Ev.pos (by omega) ?_)
      have e : wrap64 ((i : Int) + 1) = ((i + 1 : Nat) : Int) := by rw [w64 (by omega) (by omega)]; omega
      have e1 : wrap64 (c + 1) = c + 1 := w64 (by omega) (by omega)
      have e2 : ((i : Int)).toNat = i := by omega
      rw [e, e1, e2]
      refine ih (i + 1) _ _ (by omega) (by rw [List.length_set]; exact hx) (by omega) ?_
      intro j hj'
      by_cases h : j = i
      · subst h
        rw [List.getElem?_set_self (by omega), markL_get _ _ _ _ (by omega), hc]
      · rw [List.getElem?_set_ne (by omega)]
        exact hj j (by omega)
  exact key l.length 0 l m (by omega) rfl (by omega) (fun j h => absurd h (by omega))
theorem laws_eqStringS_refl (l : List ByteArray) (hl : l.length ≤ 140737488351232) : Ev (fun k => laws_eqStringS.f k l l) true := by
  simp only [laws_eqStringS.f]
  refine Ev.pos (by first | rfl | trivial) ?_
  have key : ∀ (n i : Nat), i + n = l.length → Ev (fun k => laws_eqStringS.l0 k l l (i : Int)) true := by
    intro n
    induction n with
    | zero =>
      intro i hi
      refine Ev.succ ?_
      simp only [laws_eqStringS.l0]
      exact Ev.neg (by omega) (Ev.now _)
    | succ n ih =>
      intro i hi
      refine Ev.succ ?_
      simp only [laws_eqStringS.l0]
      have e : wrap64 ((i : Int) + 1) = ((i + 1 : Nat) : Int) := by rw [w64 (by omega) (by omega)]; omega
      rw [e]
      exact Ev.pos (by omega) (Ev.pos (by omega) (Ev.pos (by omega) (Ev.pos (by first | rfl | trivial) (ih (i + 1) (by omega)))))
  exact key l.length 0 (by omega)
theorem laws_markStringS_ev (l : List ByteArray) (m : Int) (hl : l.length ≤ 100000000) (hm0 : 0 ≤ m) (hm : m ≤ 100000000) : Ev (fun k => laws_markStringS.f k l m) (m + l.length, markL mt m l.length) := by
  simp only [laws_markStringS.f]
  have key : ∀ (n i : Nat) (x : List ByteArray) (c : Int), i + n = l.length → x.length = l.length → c = m + i → (∀ j, j < i → x[j]? = (markL mt m l.length)[j]?) → Ev (fun k => laws_markStringS.l0 k x c (i : Int)) (m + l.length, markL mt m l.length) := by
    intro n
    induction n with
    | zero =>
      intro i x c hi hx hc hj
      refine Ev.succ ?_
      simp only [laws_markStringS.l0]
      refine Ev.neg (by omega) (Ev.some_ ?_)
      have : x = markL mt m l.length := by
        apply List.ext_getElem?
        intro j
        by_cases h : j < i
        · exact hj j h
        · rw [List.getElem?_eq_none (by omega), List.getElem?_eq_none (by rw [markL_length]; omega)]
      rw [this, hc, show i = l.length by omega]
    | succ n ih =>
      intro i x c hi hx hc hj
      refine Ev.succ ?_
      simp only [laws_markStringS.l0]
      refine Ev.pos (by omega) (Ev.bnd (laws_markText_ev _ (by omega)) (Ev.pos (by omega) ?_))
      have e : wrap64 ((i : Int) + 1) = ((i + 1 : Nat) : Int) := by rw [w64 (by omega) (by omega)]; omega
      have e1 : wrap64 (c + 1) = c + 1 := w64 (by omega) (by omega)
      have e2 : ((i : Int)).toNat = i := by omega
      rw [e, e1, e2]
      refine ih (i + 1) _ _ (by omega) (by rw [List.length_set]; exact hx) (by omega) ?_
      intro j hj'
      by_cases h : j = i
      · subst h
        rw [List.getElem?_set_self (by omega), markL_get _ _ _ _ (by omega), hc]
      · rw [List.getElem?_set_ne (by omega)]
        exact hj j (by omega)
  exact key l.length 0 l m (by omega) rfl (by omega) (fun j h => absurd h (by omega))
theorem laws_heldStringS_ev (m : Int) (n0 : Nat) (hl : n0 ≤ 100000000) (hm0 : 0 ≤ m) (hm : m ≤ 100000000) : Ev (fun k => laws_heldStringS.f k (markL mt m n0) m) (m + n0) := by
  simp only [laws_heldStringS.f]
  have key : ∀ (n i : Nat) (c : Int), i + n = n0 → c = m + i → Ev (fun k => laws_heldStringS.l0 k (markL mt m n0) c (i : Int)) (m + n0) := by
    intro n
    induction n with
    | zero =>
      intro i c hi hc
      refine Ev.succ ?_
      simp only [laws_heldStringS.l0]
      exact Ev.neg (by rw [markL_length]; omega) (Ev.some_ (by omega))
    | succ n ih =>
      intro i c hi hc
      refine Ev.succ ?_
      simp only [laws_heldStringS.l0]
      have e : wrap64 ((i : Int) + 1) = ((i + 1 : Nat) : Int) := by rw [w64 (by omega) (by omega)]; omega
      have e1 : wrap64 (c + 1) = c + 1 := w64 (by omega) (by omega)
      rw [e, e1]
      refine Ev.pos (by rw [markL_length]; omega) (Ev.pos (by omega) (Ev.bnd (laws_markText_ev _ (by omega)) (Ev.pos ?_ (ih (i + 1) _ (by omega) (by omega)))))
      have hlt : i < (markL mt m n0).length := by rw [markL_length]; omega
      have := markL_get mt m n0 i (by omega)
      rw [List.getElem?_eq_getElem hlt] at this
      rw [rdOf_nat _ _ _ hlt, Option.some.inj this, hc]
  exact key n0 0 m (by omega) (by omega)
theorem FnExactWalk : laws_FnExactWalk.Pure := by
  intro l s hl hs
  refine Ev.rounds (r := true) ?_
  simp only [laws_FnExactWalk.f]
  by_cases hb : (s.length : Int) > 1048576
  · exact Ev.pos hb (Ev.now _)
  refine Ev.neg hb ?_
  obtain ⟨r, hr, hrp⟩ := laws_szRecS_ev l 1048576 (by omega) (by omega) (by omega) (fun x hx => by have := (hl.2 x hx).2.2; omega)
  refine Ev.bnd hr ?_
  by_cases h : r < 0
  · exact Ev.pos h (Ev.now _)
  have hn : l.length ≤ 1048576 := by have := hrp (by omega); omega
  have hsn : s.length ≤ 1048576 := by omega
  have hm : (l.map ofR).length ≤ 1048576 := by rw [List.length_map]; exact hn
  obtain ⟨R, hR⟩ : ∃ R, (if 4000 < (l.map ofR).length then ([], false) else walkR s (l.map ofR) [] false 0 []) = R := ⟨_, rfl⟩
  have hRl : R.1.length ≤ 1048576 := by
    rw [← hR]
    split
    · simp
    · refine Nat.le_trans (walkR_length _ _ _ _ _ _) ?_
      simpa using hn
  have hT := laws_toRecS_ev l hn
  have hI := laws_toIntS_ev s (by omega)
  have hS := spec_Walk_ev (l.map ofR) s hm hsn
  have hW := impl_Walk_ev (l.map ofR) s hm hsn
  rw [hR] at hS hW
  obtain ⟨y, hy, hy1, hy2⟩ := laws_markRecS_ev (l.map ofR) 1 hm (by omega) (by omega)
  refine Ev.neg h (Ev.bnd hT (Ev.bnd hI (Ev.bnd hS (Ev.bnd hT (Ev.bnd hI (Ev.bnd hW (Ev.bnd (laws_eqStringS_refl _ (by omega)) (Ev.pos rfl (Ev.succ ?_)))))))))
  simp only [laws_FnExactWalk.j0]
  refine Ev.neg (by simp) (Ev.bnd hT (Ev.bnd (laws_eqRecS_refl _ hm) (Ev.pos rfl (Ev.bnd hI (Ev.bnd (laws_eqIntS_refl _ (by omega)) (Ev.pos rfl (Ev.bnd hy (Ev.bnd (laws_markIntS_ev s _ (by omega) (by omega) (by omega)) (Ev.neg (by omega) (Ev.bnd (laws_eqStringS_refl _ (by omega)) (Ev.pos rfl (Ev.succ ?_))))))))))))
  simp only [laws_FnExactWalk.j1]
  refine Ev.neg (by simp) (Ev.bnd (laws_markStringS_ev _ 1 (by omega) (by omega) (by omega)) (Ev.bnd (laws_heldStringS_ev 1 _ (by omega) (by omega) (by omega)) (Ev.neg (by omega) (Ev.pos (by first | rfl | trivial) (Ev.bnd hT (Ev.bnd hI (Ev.bnd hW (Ev.bnd (laws_eqStringS_refl _ (by omega)) (Ev.pos rfl (Ev.succ ?_))))))))))
  simp only [laws_FnExactWalk.j2]
  exact Ev.neg (by simp) (Ev.bnd (laws_heldStringS_ev 1 _ (by omega) (by omega) (by omega)) (Ev.neg (by omega) (Ev.pos (by first | rfl | trivial) (Ev.now _))))

end Go.Proofs.Ytfaebcoembcfoaa.Pure
