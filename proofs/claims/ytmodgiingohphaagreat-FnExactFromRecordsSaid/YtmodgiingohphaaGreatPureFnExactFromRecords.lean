/- The program's FromRecords returns what the reference's returns, for all graphs and records; it writes into no argument and keeps nothing of one, its answer owns its memory. -/
import Derived.Test.YtmodgiingohphaaGreatPFnExactFromRecordsx21
import Derived.Test.YtmodgiingohphaaGreatGen
namespace Go.Proofs.YtmodgiingohphaaGreat.Pure
open Go.RowKit Go.Proofs.YtmodgiingohphaaGreat.PFnExactFromRecords Go.Proofs.YtmodgiingohphaaGreatW.PrintWords Go.Proofs.YtmodgiingohphaaGreatW.PrintLast Go.Proofs.YtmodgiingohphaaGreatG

theorem spec_l01In_eq (a b c : Int) : spec_l01In.f a b c = some (decide (b ≤ a ∧ a ≤ c)) := by
  unfold spec_l01In.f
  by_cases h : a ≥ b
  · rw [if_pos h]; simp [h]
  · rw [if_neg h]; simp; omega
/-! graphs: lists that ascend -/
def asc (n : Int) : Option Int → List Int → Bool
  | _, [] => true
  | none, v :: l => decide (0 ≤ v ∧ v ≤ n - 1) && asc n (some v) l
  | some p, v :: l => decide (0 ≤ v ∧ v ≤ n - 1) && decide (p < v) && asc n (some v) l
def prevOf (l : List Int) (i : Nat) : Option Int := if i = 0 then none else some (rd l ((i : Int) - 1))
theorem prevOf_succ (l : List Int) (i : Nat) : prevOf l (i + 1) = some (rd l (i : Int)) := by
  unfold prevOf
  rw [if_neg (by omega)]
  congr 2
  omega
theorem asc_step (l : List Int) (n : Int) (i : Nat) (h : i < l.length) : asc n (prevOf l i) (l.drop i) = (decide (0 ≤ rd l (i : Int) ∧ rd l (i : Int) ≤ n - 1) && (decide (i = 0) || decide (rd l ((i : Int) - 1) < rd l (i : Int))) && asc n (prevOf l (i + 1)) (l.drop (i + 1))) := by
  rw [prevOf_succ, drop_rd l i h]
  by_cases h0 : i = 0
  · subst h0
    simp [prevOf, asc]
  · have : prevOf l i = some (rd l ((i : Int) - 1)) := by rw [prevOf, if_neg h0]
    rw [this]
    simp [asc, h0]
def gAll : Nat → List (List Int) → Bool
  | _, [] => true
  | v, r :: ps => decide (r.length ≤ 4) && asc (v : Int) none r && gAll (v + 1) ps
/-- A right graph. -/
def graphOk (ps : List (List Int)) : Bool := decide (ps.length ≤ 40) && gAll 0 ps
theorem rdL_nat (l : List (List Int)) (i : Nat) (h : i < l.length) : rd_L1 l (i : Int) = l[i] := by
  simp [rd_L1, List.getD, List.getElem?_eq_getElem h]
theorem spec_l05Rise_ev (l : List Int) (n : Int) (hl : l.length ≤ 140737488351232) (hn : -4611686018427387904 ≤ n) (hn1 : n ≤ 4611686018427387904) : Ev (fun k => spec_l05Rise.f k l n) (asc n none l) := by
  simp only [spec_l05Rise.f]
  have key : ∀ (m i : Nat), i + m = l.length → Ev (fun k => spec_l05Rise.l0 k l n (i : Int)) (asc n (prevOf l i) (l.drop i)) := by
    intro m
    induction m with
    | zero =>
      intro i hi
      refine Ev.succ ?_
      simp only [spec_l05Rise.l0]
      refine Ev.neg (by omega) (Ev.some_ ?_)
      rw [drop_end l i (by omega)]
      cases prevOf l i <;> rfl
    | succ m ih =>
      intro i hi
      refine Ev.succ ?_
      simp only [spec_l05Rise.l0]
      have ih' := ih (i + 1) (by omega)
      rw [asc_step l n i (by omega)]
      rw [show wrap64 (n - 1) = n - 1 from w64 (by omega) (by omega), up1 i (by omega)]
      refine Ev.pos (by omega) (Ev.pos (by omega) (Ev.bnd0 (spec_l01In_eq _ _ _) ?_))
      by_cases hv : 0 ≤ rd l (i : Int) ∧ rd l (i : Int) ≤ n - 1
      · refine Ev.pos (by simpa using hv) ?_
        by_cases h0 : (i : Int) > 0
        · rw [show wrap64 ((i : Int) - 1) = (i : Int) - 1 from w64 (by omega) (by omega)]
          refine Ev.pos h0 (Ev.pos (by omega) (Ev.pos (by omega) ?_))
          by_cases h1 : rd l ((i : Int) - 1) ≥ rd l (i : Int)
          · refine Ev.pos h1 (Ev.some_ ?_)
            have h2 : ¬ (rd l ((i : Int) - 1) < rd l (i : Int)) := by omega
            have h3 : ¬ (i = 0) := by omega
            simp [h2, h3]
          · refine Ev.neg h1 (Ev_eq ih' ?_)
            have h2 : rd l ((i : Int) - 1) < rd l (i : Int) := by omega
            simp [hv, h2]
        · refine Ev.neg h0 (Ev_eq ih' ?_)
          rw [show decide (0 ≤ rd l (i : Int) ∧ rd l (i : Int) ≤ n - 1) = true from decide_eq_true hv, show decide (i = 0) = true from decide_eq_true (by omega)]
          rfl
      · refine Ev.neg (by simpa using hv) (Ev.some_ ?_)
        rw [show decide (0 ≤ rd l (i : Int) ∧ rd l (i : Int) ≤ n - 1) = false from by simpa using hv]
        rfl
  exact key l.length 0 (by omega)
theorem spec_GraphOk_ev (l : List (List Int)) (hl : l.length ≤ 140737488351232) (hx : ∀ x ∈ l, x.length ≤ 140737488351232) : Ev (fun k => spec_GraphOk.f k l) (graphOk l) := by
  simp only [spec_GraphOk.f]
  by_cases h40 : (l.length : Int) > 40
  · refine Ev.pos h40 (Ev.some_ ?_)
    simp [graphOk]; omega
  refine Ev.neg h40 ?_
  have key : ∀ (m i : Nat), i + m = l.length → Ev (fun k => spec_GraphOk.l0 k l (i : Int)) (gAll i (l.drop i)) := by
    intro m
    induction m with
    | zero =>
      intro i hi
      refine Ev.succ ?_
      simp only [spec_GraphOk.l0]
      refine Ev.neg (by omega) (Ev.some_ ?_)
      rw [drop_end l i (by omega)]
      rfl
    | succ m ih =>
      intro i hi
      refine Ev.succ ?_
      simp only [spec_GraphOk.l0]
      have ih' := ih (i + 1) (by omega)
      have hr := rdL_nat l i (by omega)
      rw [hr, up1 i (by omega), List.drop_eq_getElem_cons (show i < l.length by omega)]
      simp only [gAll]
      refine Ev.pos (by omega) (Ev.pos (by omega) ?_)
      by_cases h4 : ((l[i]'(by omega)).length : Int) > 4
      · refine Ev.pos h4 (Ev.some_ ?_)
        rw [show decide ((l[i]'(by omega)).length ≤ 4) = false from by simp; omega]
        rfl
      · refine Ev.neg h4 (Ev.bnd (spec_l05Rise_ev _ _ (hx _ (List.getElem_mem _)) (by omega) (by omega)) ?_)
        rw [show decide ((l[i]'(by omega)).length ≤ 4) = true from by simp; omega]
        by_cases ha : asc (i : Int) none (l[i]'(by omega)) = true
        · refine Ev.pos ha (Ev_eq ih' ?_)
          rw [ha]; rfl
        · refine Ev.neg ha (Ev.some_ ?_)
          rw [Bool.eq_false_iff.2 ha]; rfl
  refine Ev_eq (key l.length 0 (by omega)) ?_
  simp only [graphOk, List.drop_zero]
  rw [show decide (l.length ≤ 40) = true from by simp; omega]
  rfl
theorem spec_LineOk_ev (s : ByteArray) (hs : s.size ≤ 140737488351232) : Ev (fun k => spec_LineOk.f k s) (lineOk s) := by
  simp only [spec_LineOk.f]
  have key : ∀ (n i : Nat), i + n = s.size → Ev (fun k => spec_LineOk.l0 k s (i : Int)) (decide ((10 : Int) ∉ (bytesOf s).drop i ∧ s.size ≤ 60)) := by
    intro n
    induction n with
    | zero =>
      intro i hi
      refine Ev.succ ?_
      simp only [spec_LineOk.l0]
      refine Ev.neg (by omega) (Ev.some_ ?_)
      rw [drop_end _ _ (by rw [bytesOf_length]; omega)]
      simp
      omega
    | succ n ih =>
      intro i hi
      refine Ev.succ ?_
      simp only [spec_LineOk.l0]
      refine Ev.pos (by omega) (Ev.pos (by omega) ?_)
      rw [up1 i (by omega), drop_bt s i (by omega)]
      by_cases h : bt s (i : Int) = 10
      · exact Ev.pos h (Ev.some_ (by simp [h]))
      · refine Ev.neg h (Ev_eq (ih (i + 1) (by omega)) ?_)
        have : ((10 : Int) ∉ bt s (i : Int) :: (bytesOf s).drop (i + 1)) ↔ ((10 : Int) ∉ (bytesOf s).drop (i + 1)) := by
          rw [List.mem_cons]
          constructor
          · intro h1 h2; exact h1 (.inr h2)
          · intro h1 h2
            rcases h2 with h2 | h2
            · exact h h2.symm
            · exact h1 h2
        simp only [this]
  exact key s.size 0 (by omega)
theorem impl_inRange_eq (a b c : Int) : impl_inRange.f a b c = some (decide (b ≤ a ∧ a ≤ c)) := by
  unfold impl_inRange.f
  by_cases h : a ≥ b
  · rw [if_pos h]; simp [h]
  · rw [if_neg h]; simp; omega
theorem impl_ascends_ev (l : List Int) (n : Int) (hl : l.length ≤ 140737488351232) (hn : -4611686018427387904 ≤ n) (hn1 : n ≤ 4611686018427387904) : Ev (fun k => impl_ascends.f k l n) (asc n none l) := by
  simp only [impl_ascends.f]
  have key : ∀ (m i : Nat), i + m = l.length → Ev (fun k => impl_ascends.l0 k l n l (l.length : Int) (i : Int)) (asc n (prevOf l i) (l.drop i)) := by
    intro m
    induction m with
    | zero =>
      intro i hi
      refine Ev.succ ?_
      simp only [impl_ascends.l0]
      refine Ev.neg (by omega) (Ev.some_ ?_)
      rw [drop_end l i (by omega)]
      cases prevOf l i <;> rfl
    | succ m ih =>
      intro i hi
      refine Ev.succ ?_
      simp only [impl_ascends.l0]
      have ih' := ih (i + 1) (by omega)
      rw [asc_step l n i (by omega)]
      rw [show wrap64 (n - 1) = n - 1 from w64 (by omega) (by omega), up1 i (by omega)]
      refine Ev.pos (by omega) (Ev.pos (by omega) (Ev.pos (by omega) (Ev.bnd0 (impl_inRange_eq _ _ _) ?_)))
      by_cases hv : 0 ≤ rd l (i : Int) ∧ rd l (i : Int) ≤ n - 1
      · refine Ev.pos (by simpa using hv) ?_
        by_cases h0 : (i : Int) > 0
        · rw [show wrap64 ((i : Int) - 1) = (i : Int) - 1 from w64 (by omega) (by omega)]
          refine Ev.pos h0 (Ev.pos (by omega) (Ev.pos (by omega) ?_))
          by_cases h1 : rd l (i : Int) ≤ rd l ((i : Int) - 1)
          · refine Ev.pos h1 (Ev.some_ ?_)
            have h2 : ¬ (rd l ((i : Int) - 1) < rd l (i : Int)) := by omega
            have h3 : ¬ (i = 0) := by omega
            simp [h2, h3]
          · refine Ev.neg h1 (Ev_eq ih' ?_)
            have h2 : rd l ((i : Int) - 1) < rd l (i : Int) := by omega
            simp [hv, h2]
        · refine Ev.neg h0 (Ev_eq ih' ?_)
          rw [show decide (0 ≤ rd l (i : Int) ∧ rd l (i : Int) ≤ n - 1) = true from decide_eq_true hv, show decide (i = 0) = true from decide_eq_true (by omega)]
          rfl
      · refine Ev.neg (by simpa using hv) (Ev.some_ ?_)
        rw [show decide (0 ≤ rd l (i : Int) ∧ rd l (i : Int) ≤ n - 1) = false from by simpa using hv]
        rfl
  exact key l.length 0 (by omega)
theorem impl_GraphOk_ev (l : List (List Int)) (hl : l.length ≤ 140737488351232) (hx : ∀ x ∈ l, x.length ≤ 140737488351232) : Ev (fun k => impl_GraphOk.f k l) (graphOk l) := by
  simp only [impl_GraphOk.f]
  have key : ∀ (m i : Nat), i + m = l.length → Ev (fun k => impl_GraphOk.l0 k l l (l.length : Int) (i : Int)) (decide (l.length ≤ 40) && gAll i (l.drop i)) := by
    intro m
    induction m with
    | zero =>
      intro i hi
      refine Ev.succ ?_
      simp only [impl_GraphOk.l0]
      refine Ev.neg (by omega) (Ev.some_ ?_)
      rw [drop_end l i (by omega)]
      simp [gAll]
      omega
    | succ m ih =>
      intro i hi
      refine Ev.succ ?_
      simp only [impl_GraphOk.l0]
      have ih' := ih (i + 1) (by omega)
      have hr := rdL_nat l i (by omega)
      rw [hr, up1 i (by omega), List.drop_eq_getElem_cons (show i < l.length by omega)]
      simp only [gAll]
      refine Ev.pos (by omega) (Ev.pos (by omega) (Ev.pos (by omega) ?_))
      by_cases h4 : ((l[i]'(by omega)).length : Int) > 4
      · refine Ev.pos h4 (Ev.some_ ?_)
        rw [show decide ((l[i]'(by omega)).length ≤ 4) = false from by simp; omega]
        simp
      · refine Ev.neg h4 (Ev.bnd (impl_ascends_ev _ _ (hx _ (List.getElem_mem _)) (by omega) (by omega)) ?_)
        rw [show decide ((l[i]'(by omega)).length ≤ 4) = true from by simp; omega]
        by_cases ha : asc (i : Int) none (l[i]'(by omega)) = true
        · refine Ev.pos ha (Ev_eq ih' ?_)
          rw [ha]; rfl
        · refine Ev.neg ha (Ev.some_ ?_)
          rw [Bool.eq_false_iff.2 ha]
          simp
  exact key l.length 0 (by omega)
theorem impl_LineOk_eq (s : ByteArray) : impl_LineOk.f s = some (lineOk s) := by
  simp only [impl_LineOk.f]
  by_cases h : (s.size : Int) ≤ 60
  · rw [if_pos h]
    simp only [strings_Contains.f]
    rw [if_pos (by rfl)]
    simp only [Option.bind_some]
    congr 1
    have h1 := indexByte_mem 10 s.data.toList
    have h2 := byte_mem s 10
    simp only [lineOk]
    rw [← decide_not]
    congr 1
    rw [show (⟨#[10]⟩ : ByteArray).data.toList.headD 0 = (10 : UInt8) from rfl, h1, h2]
    simp only [eq_iff_iff]
    constructor
    · intro h3; exact ⟨h3, by omega⟩
    · intro h3; exact h3.1
  · rw [if_neg h]
    congr 1
    simp only [lineOk]
    symm
    rw [decide_eq_false_iff_not]
    omega
/-! ancestors -/
def row (ps : List (List Int)) (v : Nat) : List Int := ps.getD v []
/-- u is v, or an ancestor of it. -/
inductive Anc (ps : List (List Int)) : Nat → Nat → Prop
  | refl (v : Nat) : Anc ps v v
  | step {v p u : Nat} : (p : Int) ∈ row ps v → Anc ps p u → Anc ps v u
/-- Parents are smaller, and there. -/
def Down (ps : List (List Int)) : Prop := ∀ v, v < ps.length → ∀ p ∈ row ps v, 0 ≤ p ∧ p < (v : Int)
theorem asc_bound : ∀ (l : List Int) (n : Int) (o : Option Int), asc n o l = true → ∀ p ∈ l, 0 ≤ p ∧ p ≤ n - 1
  | [], _, _, _ => by simp
  | x :: l, n, o, h => by
    intro p hp
    have hx : 0 ≤ x ∧ x ≤ n - 1 := by
      cases o <;> simp [asc] at h <;> omega
    have hl : asc n (some x) l = true := by
      cases o <;> simp [asc] at h
      · exact h.2
      · exact h.2
    rcases List.mem_cons.1 hp with rfl | hp
    · exact hx
    · exact asc_bound l n (some x) hl p hp
theorem gAll_get : ∀ (ps : List (List Int)) (v : Nat), gAll v ps = true → ∀ i (h : i < ps.length), (ps[i]).length ≤ 4 ∧ asc ((v + i : Nat) : Int) none ps[i] = true
  | r :: ps, v, h, 0, _ => by
    simp [gAll] at h
    simpa using h.1
  | r :: ps, v, h, i + 1, hi => by
    have h2 : gAll (v + 1) ps = true := by
      simp [gAll] at h
      exact h.2
    have := gAll_get ps (v + 1) h2 i (by simpa using hi)
    have e : v + 1 + i = v + (i + 1) := by omega
    rw [e] at this
    simpa using this
theorem row_get (ps : List (List Int)) (v : Nat) (h : v < ps.length) : row ps v = ps[v] := by
  simp [row, List.getD, List.getElem?_eq_getElem h]
theorem graphOk_down {ps : List (List Int)} (h : graphOk ps = true) : Down ps := by
  intro v hv p hp
  simp only [graphOk, Bool.and_eq_true, decide_eq_true_eq] at h
  have := (gAll_get ps 0 h.2 v hv).2
  rw [row_get ps v hv] at hp
  have := asc_bound _ _ _ this p hp
  omega
theorem graphOk_len {ps : List (List Int)} (h : graphOk ps = true) : ps.length ≤ 40 := by
  simp only [graphOk, Bool.and_eq_true, decide_eq_true_eq] at h
  exact h.1
/-! spec.l05Set: which versions are in the closure of one of a list -/
def gB (x : List Bool) (u : Nat) : Bool := x.getD u false
theorem gB_set (x : List Bool) (i u : Nat) (h : i < x.length) : gB (x.set i true) u = (gB x u || decide (u = i)) := by
  unfold gB
  by_cases hu : u = i
  · subst hu
    simp [List.getD, List.getElem?_set_self h]
  · simp [List.getD, List.getElem?_set_ne (Ne.symm hu), hu]
/-- What an array of marks tells: every mark is an ancestor of one of a list. -/
def Sound (ps : List (List Int)) (S : List Int) (x : List Bool) : Prop := ∀ u, gB x u = true → ∃ s : Nat, (s : Int) ∈ S ∧ s < ps.length ∧ Anc ps s u
def Holds (ps : List (List Int)) (S : List Int) (x : List Bool) : Prop := ∀ s : Nat, (s : Int) ∈ S → s < ps.length → gB x s = true
def Closed (ps : List (List Int)) (x : List Bool) (v : Nat) : Prop := ∀ y, v ≤ y → y < ps.length → gB x y = true → ∀ p : Nat, (p : Int) ∈ row ps y → gB x p = true
theorem marks_all {ps : List (List Int)} {S : List Int} {x : List Bool} (hd : Down ps) (h1 : Sound ps S x) (h2 : Holds ps S x) (h3 : Closed ps x 0) (u : Nat) : gB x u = true ↔ ∃ s : Nat, (s : Int) ∈ S ∧ s < ps.length ∧ Anc ps s u := by
  refine ⟨h1 u, ?_⟩
  rintro ⟨s, hs, hl, ha⟩
  have key : ∀ {v w : Nat}, Anc ps v w → v < ps.length → gB x v = true → gB x w = true := by
    intro v w h
    induction h with
    | refl => intro _ h; exact h
    | step hp _ ih =>
      intro hv hb
      have := hd _ hv _ hp
      exact ih (by omega) (h3 _ (Nat.zero_le _) hv hb _ hp)
  exact key ha hl (h2 s hs hl)
theorem rdB_nat (x : List Bool) (i : Nat) : rdOf false x (i : Int) = gB x i := rfl
theorem Anc.trans {ps : List (List Int)} {a b c : Nat} (h : Anc ps a b) (k : Anc ps b c) : Anc ps a c := by
  induction h with
  | refl => exact k
  | step hp _ ih => exact Anc.step hp (ih k)
section
variable (ps : List (List Int)) (S : List Int) (hd : Down ps) (hn : ps.length ≤ 1000000) (hS : S.length ≤ 140737488351232) (hx : ∀ r ∈ ps, r.length ≤ 1000000)
include hd hn hx
theorem spec_l05Set_l2 (v : Nat) (hv : v < ps.length) (Q : List Bool → Prop) (hQ : ∀ z : List Bool, z.length = ps.length → Sound ps S z → Holds ps S z → Closed ps z v → ∃ r, Ev (fun k => spec_l05Set.l1 k ps z ((v : Int) - 1)) r ∧ Q r) :
    ∀ (n i : Nat) (x : List Bool), i + n = (row ps v).length → x.length = ps.length → Sound ps S x → Holds ps S x → Closed ps x (v + 1) → gB x v = true → (∀ j (h : j < (row ps v).length), j < i → gB x ((row ps v)[j]).toNat = true) → ∃ r, Ev (fun k => spec_l05Set.l2 k ps x (v : Int) (i : Int)) r ∧ Q r := by
  have hrow := rdL_nat ps v hv
  have hrg := row_get ps v hv
  have hrl : (row ps v).length ≤ 1000000 := by rw [hrg]; exact hx _ (List.getElem_mem _)
  intro n
  induction n with
  | zero =>
    intro i x hi hl h1 h2 h3 hb hj
    obtain ⟨r, hr, hq⟩ := hQ x hl h1 h2 (by
      intro y hy hyl hyb p hp
      by_cases e : y = v
      · subst e
        obtain ⟨j, hjl, hje⟩ := List.getElem_of_mem hp
        have := hj j hjl (by omega)
        rw [hje] at this
        simpa using this
      · exact h3 y (by omega) hyl hyb p hp)
    refine ⟨r, Ev.succ ?_, hq⟩
    simp only [spec_l05Set.l2]
    rw [hrow, ← hrg]
    refine Ev.pos (by omega) (Ev.pos (by omega) (Ev.neg (by omega) ?_))
    rw [w64 (by omega) (by omega)]
    exact hr
  | succ n ih =>
    intro i x hi hl h1 h2 h3 hb hj
    have hp := hd v hv _ (List.getElem_mem (show i < (row ps v).length by omega))
    have hrd : rd (row ps v) (i : Int) = (row ps v)[i]'(by omega) := rd_nat _ _ _
    obtain ⟨p, hpe⟩ := Int.eq_ofNat_of_zero_le hp.1
    have hmem : (p : Int) ∈ row ps v := by rw [← hpe]; exact List.getElem_mem _
    have hpl : p < x.length := by omega
    obtain ⟨r, hr, hq⟩ := ih (i + 1) (x.set p true) (by omega) (by rw [List.length_set]; exact hl) (by
        intro u hu
        rw [gB_set x p u hpl] at hu
        simp only [Bool.or_eq_true, decide_eq_true_eq] at hu
        rcases hu with hu | rfl
        · exact h1 u hu
        · obtain ⟨s, hs, hsl, ha⟩ := h1 v hb
          exact ⟨s, hs, hsl, ha.trans (Anc.step hmem (Anc.refl _))⟩) (by
        intro s hs hsl
        rw [gB_set x p s hpl, h2 s hs hsl]
        rfl) (by
        intro y hy hyl hyb q hq
        rw [gB_set x p y hpl] at hyb
        rw [gB_set x p q hpl]
        have : ¬ (y = p) := by omega
        simp only [this, decide_false, Bool.or_false] at hyb
        rw [h3 y hy hyl hyb q hq]
        rfl) (by rw [gB_set x p v hpl, hb]; rfl) (by
        intro j hjl hji
        rw [gB_set x p _ hpl]
        by_cases e : j = i
        · subst e
          rw [hpe]
          simp
        · rw [hj j hjl (by omega)]
          rfl)
    refine ⟨r, Ev.succ ?_, hq⟩
    simp only [spec_l05Set.l2]
    rw [hrow, ← hrg, hrd, hpe, up1 i (by omega), rdB_nat, Int.toNat_natCast]
    exact Ev.pos (by omega) (Ev.pos (by omega) (Ev.pos (by omega) (Ev.pos (by omega) (Ev.pos hb (Ev.pos (by omega) (Ev.pos (by omega) (Ev.pos (by omega) hr)))))))
theorem spec_l05Set_l1 : ∀ (v : Nat) (x : List Bool), v ≤ ps.length → x.length = ps.length → Sound ps S x → Holds ps S x → Closed ps x v → ∃ r, Ev (fun k => spec_l05Set.l1 k ps x ((v : Int) - 1)) r ∧ (r.length = ps.length ∧ ∀ u, gB r u = true ↔ ∃ s : Nat, (s : Int) ∈ S ∧ s < ps.length ∧ Anc ps s u) := by
  intro v
  induction v with
  | zero =>
    intro x _ hl h1 h2 h3
    refine ⟨x, Ev.succ ?_, hl, marks_all hd h1 h2 h3⟩
    simp only [spec_l05Set.l1]
    exact Ev.neg (by omega) (Ev.now _)
  | succ v ih =>
    intro x hv hl h1 h2 h3
    have e : (((v + 1 : Nat) : Int) - 1) = (v : Int) := by omega
    rw [e]
    by_cases hb : gB x v = true
    · obtain ⟨r, hr, hq⟩ := spec_l05Set_l2 ps S hd hn hx v (by omega) _ (fun z hzl a b c => ih z (by omega) hzl a b c) (row ps v).length 0 x (by omega) hl h1 h2 h3 hb (fun j _ h => absurd h (by omega))
      refine ⟨r, Ev.succ ?_, hq⟩
      simp only [spec_l05Set.l1]
      exact Ev.pos (by omega) hr
    · obtain ⟨r, hr, hq⟩ := ih x (by omega) hl h1 h2 (by
        intro y hy hyl hyb p hp
        by_cases e : y = v
        · subst e; exact absurd hyb hb
        · exact h3 y (by omega) hyl hyb p hp)
      refine ⟨r, Ev.succ ?_, hq⟩
      simp only [spec_l05Set.l1]
      refine Ev.pos (by omega) (Ev.succ ?_)
      simp only [spec_l05Set.l2]
      rw [rdL_nat ps v (by omega), rdB_nat, show wrap64 ((v : Int) - 1) = (v : Int) - 1 from w64 (by omega) (by omega)]
      refine Ev.pos (by omega) (Ev.pos (by omega) ?_)
      by_cases hz : ((0 : Int) < ((ps[v]'(by omega)).length : Int))
      · exact Ev.pos hz (Ev.pos (by omega) (Ev.neg hb hr))
      · exact Ev.neg hz hr
include hS
theorem spec_l05Set_ev : ∃ r, Ev (fun k => spec_l05Set.f k ps S) r ∧ (r.length = ps.length ∧ ∀ u, gB r u = true ↔ ∃ s : Nat, (s : Int) ∈ S ∧ s < ps.length ∧ Anc ps s u) := by
  have key : ∀ (n i : Nat) (x : List Bool), i + n = S.length → x.length = ps.length → Sound ps S x → (∀ s : Nat, (s : Int) ∈ S.take i → s < ps.length → gB x s = true) → ∃ r, Ev (fun k => spec_l05Set.l0 k ps S x (i : Int)) r ∧ (r.length = ps.length ∧ ∀ u, gB r u = true ↔ ∃ s : Nat, (s : Int) ∈ S ∧ s < ps.length ∧ Anc ps s u) := by
    intro n
    induction n with
    | zero =>
      intro i x hi hl h1 h2
      obtain ⟨r, hr, hq⟩ := spec_l05Set_l1 ps S hd hn hx ps.length x (Nat.le_refl _) hl h1 (fun s hs hsl => h2 s (by rw [List.take_of_length_le (by omega)]; exact hs) hsl) (fun y hy hyl => absurd hyl (by omega))
      refine ⟨r, Ev.succ ?_, hq⟩
      simp only [spec_l05Set.l0]
      refine Ev.neg (by omega) ?_
      rw [w64 (by omega) (by omega)]
      exact hr
    | succ n ih =>
      intro i x hi hl h1 h2
      have hrd : rd S (i : Int) = S[i]'(by omega) := rd_nat _ _ _
      have htk : S.take (i + 1) = S.take i ++ [S[i]'(by omega)] := List.take_succ_eq_append_getElem (by omega)
      by_cases hv : 0 ≤ S[i]'(by omega) ∧ S[i]'(by omega) ≤ (ps.length : Int) - 1
      · obtain ⟨s, hse⟩ := Int.eq_ofNat_of_zero_le hv.1
        have hmem : (s : Int) ∈ S := by rw [← hse]; exact List.getElem_mem _
        have hsl : s < x.length := by omega
        obtain ⟨r, hr, hq⟩ := ih (i + 1) (x.set s true) (by omega) (by rw [List.length_set]; exact hl) (by
          intro u hu
          rw [gB_set x s u hsl] at hu
          simp only [Bool.or_eq_true, decide_eq_true_eq] at hu
          rcases hu with hu | rfl
          · exact h1 u hu
          · exact ⟨u, hmem, by omega, Anc.refl _⟩) (by
          intro t ht htl
          rw [gB_set x s t hsl]
          rw [htk] at ht
          rcases List.mem_append.1 ht with ht | ht
          · rw [h2 t ht htl]; rfl
          · have : t = s := by have := List.mem_singleton.1 ht; omega
            simp [this])
        refine ⟨r, Ev.succ ?_, hq⟩
        simp only [spec_l05Set.l0]
        rw [hrd, w64 (by omega) (by omega), up1 i (by omega)]
        refine Ev.pos (by omega) (Ev.pos (by omega) (Ev.bnd0 (spec_l01In_eq _ _ _) (Ev.pos (by simpa using hv) ?_)))
        rw [hse, Int.toNat_natCast]
        exact Ev.pos (by omega) (Ev.pos (by omega) hr)
      · obtain ⟨r, hr, hq⟩ := ih (i + 1) x (by omega) hl h1 (by
          intro t ht htl
          rw [htk] at ht
          rcases List.mem_append.1 ht with ht | ht
          · exact h2 t ht htl
          · have := List.mem_singleton.1 ht
            exact absurd ⟨by omega, by omega⟩ hv)
        refine ⟨r, Ev.succ ?_, hq⟩
        simp only [spec_l05Set.l0]
        rw [hrd, w64 (by omega) (by omega), up1 i (by omega)]
        exact Ev.pos (by omega) (Ev.pos (by omega) (Ev.bnd0 (spec_l01In_eq _ _ _) (Ev.neg (by simpa using hv) hr)))
  have hz : ∀ u, gB (List.replicate ps.length false) u = false := by
    intro u
    simp only [gB, List.getD, List.getElem?_replicate]
    split <;> rfl
  obtain ⟨r, hr, hq⟩ := key S.length 0 (List.replicate ps.length false) (by omega) (by simp) (fun u hu => by rw [hz] at hu; cases hu) (fun s hs => by simp at hs)
  refine ⟨r, ?_, hq⟩
  simp only [spec_l05Set.f]
  refine Ev.pos (by omega) (Ev.pos (by omega) ?_)
  rw [Int.toNat_natCast]
  exact hr
end
theorem impl_set_has_eq (c : Nat) (hc : c < 2 ^ 64) (u : Int) : impl_set_has.f (c : Int) u = some (decide (0 ≤ u ∧ u ≤ 63) && c.testBit u.toNat) := by
  simp only [impl_set_has.f]
  rw [impl_inRange_eq]
  simp only [Option.bind_some]
  by_cases h : 0 ≤ u ∧ u ≤ 63
  · rw [if_pos (by simpa using h), wrapu64 _ (by omega) (by omega), if_pos (by omega)]
    obtain ⟨v, rfl⟩ := Int.eq_ofNat_of_zero_le h.1
    congr 1
    have e : shr .u64 (c : Int) (v : Int) = ((c / 2 ^ v : Nat) : Int) := by
      unfold shr
      have e : min ((v : Int)).toNat IntKind.u64.bits = v := by simp [IntKind.bits]; omega
      rw [e]
      simp
    rw [e]
    have hlt : c / 2 ^ v < 2 ^ 64 := Nat.lt_of_le_of_lt (Nat.div_le_self _ _) hc
    have := and64 (c / 2 ^ v) 1 hlt (by decide)
    rw [show ((1 : Nat) : Int) = 1 from rfl] at this
    rw [this, Nat.and_one_is_mod]
    rw [show decide (0 ≤ (v : Int) ∧ (v : Int) ≤ 63) = true from decide_eq_true h, Bool.true_and, Int.toNat_natCast, Nat.testBit_eq_decide_div_mod_eq]
    by_cases hm : c / 2 ^ v % 2 = 1
    · simp [hm]
    · have : c / 2 ^ v % 2 = 0 := by omega
      simp [this]
  · rw [if_neg (by simpa using h)]
    rw [show decide (0 ≤ u ∧ u ≤ 63) = false from by simpa using h]
    rfl
/-! impl's closures, as bits -/
/-- All are words of 64 bits. -/
def Words (x : List Int) : Prop := ∀ v, v < x.length → 0 ≤ rd x (v : Int) ∧ rd x (v : Int) < 18446744073709551616
def wd (x : List Int) (v : Nat) : Nat := (rd x (v : Int)).toNat
theorem wd_lt {x : List Int} (h : Words x) {v : Nat} (hv : v < x.length) : wd x v < 2 ^ 64 := by
  have := h v hv
  unfold wd
  omega
theorem wd_cast {x : List Int} (h : Words x) {v : Nat} (hv : v < x.length) : rd x (v : Int) = (wd x v : Int) := by
  have := h v hv
  unfold wd
  omega
theorem impl_unionOf_ev (x : List Int) (hx : Words x) (l : List Int) (hl : l.length ≤ 140737488351232) (hp : ∀ p ∈ l, 0 ≤ p ∧ p < (x.length : Int)) :
    ∃ s : Nat, Ev (fun k => impl_unionOf.f k x l) (s : Int) ∧ s < 2 ^ 64 ∧ ∀ u, s.testBit u = true ↔ ∃ p : Nat, (p : Int) ∈ l ∧ (wd x p).testBit u = true := by
  simp only [impl_unionOf.f]
  have key : ∀ (n i s : Nat), i + n = l.length → s < 2 ^ 64 → ∃ r : Nat, Ev (fun k => impl_unionOf.l0 k x (s : Int) l (l.length : Int) (i : Int)) (r : Int) ∧ r < 2 ^ 64 ∧ ∀ u, r.testBit u = true ↔ (s.testBit u = true ∨ ∃ p : Nat, (p : Int) ∈ l.drop i ∧ (wd x p).testBit u = true) := by
    intro n
    induction n with
    | zero =>
      intro i s hi hs
      refine ⟨s, Ev.succ ?_, hs, fun u => ?_⟩
      · simp only [impl_unionOf.l0]
        exact Ev.neg (by omega) (Ev.now _)
      · rw [drop_end l i (by omega)]
        simp
    | succ n ih =>
      intro i s hi hs
      have hrd : rd l (i : Int) = l[i]'(by omega) := rd_nat _ _ _
      have hpi := hp _ (List.getElem_mem (show i < l.length by omega))
      obtain ⟨p, hpe⟩ := Int.eq_ofNat_of_zero_le hpi.1
      rw [hpe] at hpi
      have hlt := wd_lt hx (show p < x.length by omega)
      obtain ⟨r, hr, hr1, hr2⟩ := ih (i + 1) (s ||| wd x p) (by omega) (or_lt hs hlt)
      refine ⟨r, Ev.succ ?_, hr1, fun u => ?_⟩
      · simp only [impl_unionOf.l0]
        rw [hrd, hpe, wd_cast hx (show p < x.length by omega), or64 _ _ hs hlt, up1 i (by omega)]
        exact Ev.pos (by omega) (Ev.pos (by omega) (Ev.pos (by omega) (Ev.pos (by omega) (Ev.pos (by omega) hr))))
      · rw [hr2 u, Nat.testBit_or, List.drop_eq_getElem_cons (show i < l.length by omega), hpe]
        simp only [Bool.or_eq_true, List.mem_cons]
        constructor
        · rintro ((h | h) | ⟨q, hq, h⟩)
          · exact .inl h
          · exact .inr ⟨p, .inl rfl, h⟩
          · exact .inr ⟨q, .inr hq, h⟩
        · rintro (h | ⟨q, hq | hq, h⟩)
          · exact .inl (.inl h)
          · have : q = p := by omega
            exact .inl (.inr (this ▸ h))
          · exact .inr ⟨q, hq, h⟩
  obtain ⟨r, hr, hr1, hr2⟩ := key l.length 0 0 (by omega) (by decide)
  exact ⟨r, hr, hr1, fun u => by simpa using hr2 u⟩
theorem anc_iff (ps : List (List Int)) (v u : Nat) : Anc ps v u ↔ (u = v ∨ ∃ p : Nat, (p : Int) ∈ row ps v ∧ Anc ps p u) := by
  constructor
  · intro h
    cases h with
    | refl => exact .inl rfl
    | step hp ha => exact .inr ⟨_, hp, ha⟩
  · rintro (rfl | ⟨p, hp, ha⟩)
    · exact Anc.refl _
    · exact Anc.step hp ha
/-- Word v is the closure of version v. -/
def Clo (ps : List (List Int)) (x : List Int) (n : Nat) : Prop := ∀ v, v < n → ∀ u, (wd x v).testBit u = true ↔ Anc ps v u
theorem rd_set (x : List Int) (i : Nat) (a : Int) (v : Nat) (h : i < x.length) : rd (x.set i a) (v : Int) = if v = i then a else rd x (v : Int) := by
  by_cases e : v = i
  · subst e
    simp [rd, List.getD, List.getElem?_set_self h]
  · simp [rd, List.getD, List.getElem?_set_ne (Ne.symm e), e]
theorem impl_closures_ev (ps : List (List Int)) (hd : Down ps) (hn : ps.length ≤ 60) (hr : ∀ r ∈ ps, r.length ≤ 1000000) : ∃ x, Ev (fun k => impl_closures.f k ps) x ∧ x.length = ps.length ∧ Words x ∧ Clo ps x ps.length := by
  simp only [impl_closures.f]
  have key : ∀ (n i : Nat) (x : List Int), i + n = ps.length → x.length = ps.length → Words x → Clo ps x i → ∃ y, Ev (fun k => impl_closures.l0 k x ps (ps.length : Int) (i : Int)) y ∧ y.length = ps.length ∧ Words y ∧ Clo ps y ps.length := by
    intro n
    induction n with
    | zero =>
      intro i x hi hl hw hc
      refine ⟨x, Ev.succ ?_, hl, hw, by rw [show ps.length = i by omega]; exact hc⟩
      simp only [impl_closures.l0]
      exact Ev.neg (by omega) (Ev.now _)
    | succ n ih =>
      intro i x hi hl hw hc
      have hrow := rdL_nat ps i (by omega)
      have hrg := row_get ps i (by omega)
      obtain ⟨s, hs, hs1, hs2⟩ := impl_unionOf_ev x hw (ps[i]'(by omega)) (by have := hr _ (List.getElem_mem (show i < ps.length by omega)); omega) (fun p hp => by
        have := hd i (by omega) p (by rw [hrg]; exact hp)
        omega)
      have h2 : 2 ^ i < 2 ^ 64 := two_pow_lt (by omega)
      have hor := or_lt hs1 h2
      obtain ⟨y, hy, hy1⟩ := ih (i + 1) (x.set i ((s ||| 2 ^ i : Nat) : Int)) (by omega) (by rw [List.length_set]; exact hl) (by
        intro v hv
        rw [List.length_set] at hv
        rw [rd_set x i _ v (by omega)]
        split
        · omega
        · exact hw v hv) (by
        intro v hv u
        unfold wd
        rw [rd_set x i _ v (by omega)]
        by_cases e : v = i
        · subst e
          rw [if_pos rfl, Int.toNat_natCast, Nat.testBit_or, anc_iff]
          simp only [Bool.or_eq_true, Nat.testBit_two_pow, decide_eq_true_eq]
          rw [hs2 u]
          constructor
          · rintro (⟨p, hp, h⟩ | h)
            · rw [← hrg] at hp
              have := hd v (by omega) _ hp
              exact .inr ⟨p, hp, (hc p (by omega) u).1 h⟩
            · exact .inl h.symm
          · rintro (h | ⟨p, hp, h⟩)
            · exact .inr h.symm
            · have := hd v (by omega) _ hp
              rw [hrg] at hp
              exact .inl ⟨p, hp, (hc p (by omega) u).2 h⟩
        · rw [if_neg e]
          exact hc v (by omega) u)
      refine ⟨y, Ev.succ ?_, hy1⟩
      simp only [impl_closures.l0]
      rw [hrow, up1 i (by omega), wrapu64 _ (by omega) (by omega), shl64_one i (by omega)]
      refine Ev.pos (by omega) (Ev.pos (by omega) (Ev.pos (by omega) (Ev.bnd hs (Ev.pos (by omega) (Ev.pos (by omega) ?_)))))
      rw [or64 _ _ hs1 h2, Int.toNat_natCast]
      exact hy
  obtain ⟨y, hy, hy1⟩ := key ps.length 0 (List.replicate ps.length 0) (by omega) (by simp) (fun v hv => by
    rw [List.length_replicate] at hv
    simp [rd, List.getD, hv]) (fun v hv => absurd hv (by omega))
  refine ⟨y, ?_, hy1⟩
  refine Ev.pos (by omega) (Ev.pos (by omega) ?_)
  rw [Int.toNat_natCast]
  exact hy
/-! impl.setOf: the numbers of a list below 64, as bits -/
def setStep (s : Nat) (v : Int) : Nat := if 0 ≤ v ∧ v ≤ 63 then s ||| 2 ^ v.toNat else s
def setN (l : List Int) : Nat := l.foldl setStep 0
theorem setStep_lt {s : Nat} (v : Int) (h : s < 2 ^ 64) : setStep s v < 2 ^ 64 := by
  unfold setStep
  split
  · exact or_lt h (two_pow_lt (by omega))
  · exact h
theorem setFold_lt : ∀ (l : List Int) (s : Nat), s < 2 ^ 64 → l.foldl setStep s < 2 ^ 64
  | [], _, h => h
  | v :: l, _, h => setFold_lt l _ (setStep_lt v h)
theorem setN_lt (l : List Int) : setN l < 2 ^ 64 := setFold_lt l 0 (by decide)
theorem impl_setOf_l0 (l : List Int) (hl : l.length ≤ 140737488351232) : ∀ (n i s : Nat), i + n = l.length → s < 2 ^ 64 → Ev (fun k => impl_setOf.l0 k (s : Int) l (l.length : Int) (i : Int)) (((l.drop i).foldl setStep s : Nat) : Int) := by
  intro n
  induction n with
  | zero =>
    intro i s hi hs
    refine Ev.succ ?_
    simp only [impl_setOf.l0]
    have e : l.drop i = [] := List.drop_eq_nil_iff.2 (by omega)
    exact Ev.neg (by omega) (Ev.some_ (by rw [e]; rfl))
  | succ n ih =>
    intro i s hi hs
    refine Ev.succ ?_
    simp only [impl_setOf.l0]
    have hd := drop_rd l i (by omega)
    refine Ev.pos (by omega) (Ev.pos (by omega) (Ev.pos (by omega) (Ev.bnd0 (impl_inRange_eq _ _ _) ?_)))
    rw [show wrap64 ((i : Int) + 1) = ((i + 1 : Nat) : Int) from by rw [w64 (by omega) (by omega)]; omega, hd, List.foldl_cons]
    by_cases hv : 0 ≤ rd l (i : Int) ∧ rd l (i : Int) ≤ 63
    · refine Ev.pos (by simpa using hv) ?_
      obtain ⟨v, hv'⟩ := Int.eq_ofNat_of_zero_le hv.1
      rw [hv'] at hv ⊢
      rw [wrapu64 _ (by omega) (by omega), shl64_one v (by omega), or64 _ _ hs (two_pow_lt (by omega))]
      refine Ev.pos (by omega) ?_
      have hst : setStep s (v : Int) = s ||| 2 ^ v := by rw [setStep, if_pos hv]; rfl
      rw [hst]
      exact ih (i + 1) _ (by omega) (or_lt hs (two_pow_lt (by omega)))
    · refine Ev.neg (by simpa using hv) ?_
      have hst : setStep s (rd l (i : Int)) = s := by rw [setStep, if_neg hv]
      rw [hst]
      exact ih (i + 1) _ (by omega) hs
theorem impl_setOf_ev (l : List Int) (hl : l.length ≤ 140737488351232) : Ev (fun k => impl_setOf.f k l) (setN l : Int) := by
  simp only [impl_setOf.f]
  exact impl_setOf_l0 l hl l.length 0 0 (by omega) (by decide)
/-- What a weave that may be tried bears. -/
def Fine (p : List (List Int)) (b : List S55) : Prop := p.length ≤ 1048576 ∧ (∀ x ∈ p, x.length ≤ 1048576) ∧ b.length ≤ 1048576 ∧ ∀ x ∈ b, x.f0.size ≤ 1048576 ∧ x.f3.length ≤ 1048576
theorem setN_bit : ∀ (l : List Int) (s u : Nat), (l.foldl setStep s).testBit u = true ↔ (s.testBit u = true ∨ (u ≤ 63 ∧ (u : Int) ∈ l))
  | [], s, u => by simp
  | v :: l, s, u => by
    rw [List.foldl_cons, setN_bit l (setStep s v) u]
    unfold setStep
    split
    · rename_i h
      obtain ⟨w, rfl⟩ := Int.eq_ofNat_of_zero_le h.1
      rw [Nat.testBit_or, Int.toNat_natCast, Nat.testBit_two_pow]
      simp only [Bool.or_eq_true, decide_eq_true_eq, List.mem_cons]
      constructor
      · rintro ((h1 | h1) | ⟨h1, h2⟩)
        · exact .inl h1
        · exact .inr ⟨by omega, .inl (by omega)⟩
        · exact .inr ⟨h1, .inr h2⟩
      · rintro (h1 | ⟨h1, h2 | h2⟩)
        · exact .inl (.inl h1)
        · exact .inl (.inr (by omega))
        · exact .inr ⟨h1, h2⟩
    · rename_i h
      simp only [List.mem_cons]
      constructor
      · rintro (h1 | ⟨h1, h2⟩)
        · exact .inl h1
        · exact .inr ⟨h1, .inr h2⟩
      · rintro (h1 | ⟨h1, h2 | h2⟩)
        · exact .inl h1
        · exact absurd ⟨by omega, by omega⟩ h
        · exact .inr ⟨h1, h2⟩
/-! right weaves -/
theorem rdW_nat (l : List S55) (i : Nat) (h : i < l.length) : rd_T55 l (i : Int) = l[i] := by
  simp [rd_T55, List.getD, List.getElem?_eq_getElem h]
theorem impl_isPlace_eq (a : Int) (n : Nat) (hn : n ≤ 140737488351232) : impl_isPlace.f a (n : Int) = some (decide (0 ≤ a ∧ a ≤ (n : Int) - 1)) := by
  simp only [impl_isPlace.f]
  rw [w64 (by omega) (by omega), impl_inRange_eq]
  rfl
theorem rows4 {ps : List (List Int)} (h : graphOk ps = true) : ∀ r ∈ ps, r.length ≤ 1000000 := by
  intro r hr
  simp only [graphOk, Bool.and_eq_true, decide_eq_true_eq] at h
  obtain ⟨i, hi, rfl⟩ := List.getElem_of_mem hr
  have := (gAll_get ps 0 h.2 i hi).1
  omega
/-- Is a body live where the versions of p are? -/
def liveB (p : Nat → Bool) (ins : Int) (dels : List Int) : Bool := decide (0 ≤ ins) && p ins.toNat && dels.all fun d => !(decide (0 ≤ d) && p d.toNat)
open Classical in
/-- The versions that are ancestors of one of a list, or one of it. -/
noncomputable def pS (ps : List (List Int)) (S : List Int) (u : Nat) : Bool := decide (∃ s : Nat, (s : Int) ∈ S ∧ s < ps.length ∧ Anc ps s u)
open Classical in
theorem pS_iff (ps : List (List Int)) (S : List Int) (u : Nat) : pS ps S u = true ↔ ∃ s : Nat, (s : Int) ∈ S ∧ s < ps.length ∧ Anc ps s u := by
  unfold pS
  exact decide_eq_true_iff
theorem bool_ext {f g : Nat → Bool} (h : ∀ u, f u = true ↔ g u = true) : f = g := funext fun u => by rw [Bool.eq_iff_iff]; exact h u
theorem gB_out {x : List Bool} {u : Nat} (h : x.length ≤ u) : gB x u = false := by
  simp [gB, List.getD, List.getElem?_eq_none h]
theorem spec_l06Live_ev (s : ByteArray) (ins ord : Int) (dels : List Int) (x : List Bool) (hx : x.length ≤ 1000000) (hd : dels.length ≤ 140737488351232) : Ev (fun k => spec_l06Live.f k s ins ord dels x) (liveB (gB x) ins dels) := by
  have key : ∀ (n i : Nat), i + n = dels.length → Ev (fun k => spec_l06Live.l0 k x (i : Int) s ins ord dels) ((dels.drop i).all fun d => !(decide (0 ≤ d) && gB x d.toNat)) := by
    intro n
    induction n with
    | zero =>
      intro i hi
      refine Ev.succ ?_
      simp only [spec_l06Live.l0]
      rw [drop_end dels i (by omega)]
      exact Ev.neg (by omega) (Ev.some_ rfl)
    | succ n ih =>
      intro i hi
      have hrd : rd dels (i : Int) = dels[i]'(by omega) := rd_nat _ _ _
      refine Ev.succ ?_
      simp only [spec_l06Live.l0]
      rw [hrd, w64 (by omega) (by omega), up1 i (by omega), List.drop_eq_getElem_cons (show i < dels.length by omega), List.all_cons]
      refine Ev.pos (by omega) (Ev.pos (by omega) (Ev.bnd0 (spec_l01In_eq _ _ _) ?_))
      by_cases h : 0 ≤ dels[i]'(by omega) ∧ dels[i]'(by omega) ≤ (x.length : Int) - 1
      · refine Ev.pos (by simpa using h) (Ev.pos (by omega) (Ev.pos (by omega) ?_))
        obtain ⟨d, hde⟩ := Int.eq_ofNat_of_zero_le h.1
        rw [hde, rdB_nat, Int.toNat_natCast]
        by_cases hb : gB x d = true
        · exact Ev.pos hb (Ev.some_ (by rw [hb]; simp))
        · refine Ev.neg hb ?_
          rw [Bool.eq_false_iff.2 hb, Bool.and_false, Bool.not_false, Bool.true_and]
          exact ih (i + 1) (by omega)
      · refine Ev.neg (by simpa using h) ?_
        have e : (decide (0 ≤ dels[i]'(by omega)) && gB x (dels[i]'(by omega)).toNat) = false := by
          by_cases c : 0 ≤ dels[i]'(by omega)
          · rw [gB_out (by omega), Bool.and_false]
          · rw [decide_eq_false c, Bool.false_and]
        rw [e, Bool.not_false, Bool.true_and]
        exact ih (i + 1) (by omega)
  have k0 := key dels.length 0 (by omega)
  rw [List.drop_zero] at k0
  simp only [spec_l06Live.f]
  rw [w64 (by omega) (by omega)]
  refine Ev.bnd0 (spec_l01In_eq _ _ _) ?_
  unfold liveB
  by_cases h : 0 ≤ ins ∧ ins ≤ (x.length : Int) - 1
  · refine Ev.pos (by simpa using h) (Ev.pos (by omega) (Ev.pos (by omega) (Ev.succ ?_)))
    simp only [spec_l06Live.j0]
    obtain ⟨d, hde⟩ := Int.eq_ofNat_of_zero_le h.1
    rw [hde, rdB_nat, Int.toNat_natCast, decide_eq_true (show (0 : Int) ≤ (d : Int) by omega), Bool.true_and]
    rw [hde] at k0
    by_cases hb : gB x d = true
    · rw [hb, Bool.true_and]
      exact Ev.neg (by simp) k0
    · rw [Bool.eq_false_iff.2 hb, Bool.false_and]
      exact Ev.pos (by simp) (Ev.now _)
  · refine Ev.neg (by simpa using h) (Ev.succ ?_)
    simp only [spec_l06Live.j0]
    refine Ev.pos trivial (Ev.some_ ?_)
    by_cases c : 0 ≤ ins
    · rw [gB_out (by omega), Bool.and_false, Bool.false_and]
    · rw [decide_eq_false c, Bool.false_and, Bool.false_and]
theorem impl_isLive_ev (s : ByteArray) (ins ord : Int) (dels : List Int) (c : Nat) (hc : c < 2 ^ 64) (hd : dels.length ≤ 140737488351232) : Ev (fun k => impl_Body_isLive.f k s ins ord dels (c : Int)) (liveB c.testBit ins dels) := by
  have big : ∀ u, 63 < u → c.testBit u = false := fun u hu => Nat.testBit_lt_two_pow (Nat.lt_of_lt_of_le hc (Nat.pow_le_pow_right (by decide) (by omega)))
  simp only [impl_Body_isLive.f]
  refine Ev.bnd0 (impl_set_has_eq c hc _) ?_
  unfold liveB
  by_cases h : (decide (0 ≤ ins ∧ ins ≤ 63) && c.testBit ins.toNat) = true
  · refine Ev.pos h (Ev.bnd (impl_setOf_ev dels hd) (Ev.some_ ?_))
    rw [and64 _ _ (setN_lt _) hc]
    have h' := h
    simp only [Bool.and_eq_true, decide_eq_true_eq] at h'
    rw [decide_eq_true h'.1.1, h'.2, Bool.true_and, Bool.true_and, Bool.eq_iff_iff, beq_iff_eq, List.all_eq_true]
    constructor
    · intro h0 d hd0
      by_cases c0 : 0 ≤ d
      · obtain ⟨u, rfl⟩ := Int.eq_ofNat_of_zero_le c0
        rw [Int.toNat_natCast]
        by_cases hu : u ≤ 63
        · have hz : setN dels &&& c = 0 := by omega
          have hb : (setN dels &&& c).testBit u = false := by rw [hz, Nat.zero_testBit]
          have hsn : (setN dels).testBit u = true := (setN_bit dels 0 u).2 (.inr ⟨hu, hd0⟩)
          rw [Nat.testBit_and, hsn, Bool.true_and] at hb
          simp [hb]
        · simp [big u (by omega)]
      · simp [c0]
    · intro h0
      have hz : setN dels &&& c = 0 := by
        apply Nat.eq_of_testBit_eq
        intro u
        rw [Nat.zero_testBit, Nat.testBit_and, Bool.and_eq_false_iff]
        by_cases hs : (setN dels).testBit u = true
        · rcases (setN_bit dels 0 u).1 hs with h1 | ⟨h1, h2⟩
          · simp at h1
          · have := h0 _ h2
            simp only [Int.toNat_natCast, Bool.not_eq_true', Bool.and_eq_false_iff, decide_eq_false_iff_not] at this
            rcases this with h3 | h3
            · omega
            · exact .inr h3
        · exact .inl (Bool.eq_false_iff.2 hs)
      omega
  · refine Ev.neg h (Ev.some_ ?_)
    by_cases c0 : 0 ≤ ins
    · have h1 : c.testBit ins.toNat = false := by
        by_cases hu : ins ≤ 63
        · rw [decide_eq_true (show 0 ≤ ins ∧ ins ≤ 63 from ⟨c0, hu⟩), Bool.true_and] at h
          exact Bool.eq_false_iff.2 h
        · exact big _ (by omega)
      rw [h1, Bool.and_false, Bool.false_and]
    · rw [decide_eq_false c0, Bool.false_and, Bool.false_and]
/-- The places of the live ones. -/
def placesL (p : Nat → Bool) : List S55 → Nat → List Int
  | [], _ => []
  | b :: bs, i => (if liveB p b.f1 b.f3 = true then [(i : Int)] else []) ++ placesL p bs (i + 1)
theorem spec_l06Places_ev (ps : List (List Int)) (bs : List S55) (x : List Bool) (hb : bs.length ≤ 1048576) (hbx : ∀ b ∈ bs, b.f3.length ≤ 1048576) (hx : x.length ≤ 1000000) : Ev (fun k => spec_l06Places.f k ps bs x) (placesL (gB x) bs 0) := by
  have key : ∀ (n i : Nat) (acc : List Int), i + n = bs.length → acc.length ≤ i → Ev (fun k => spec_l06Places.l0 k x acc (i : Int) ps bs) (acc ++ placesL (gB x) (bs.drop i) i) := by
    intro n
    induction n with
    | zero =>
      intro i acc hi ha
      refine Ev.succ ?_
      simp only [spec_l06Places.l0]
      rw [drop_end bs i (by omega)]
      exact Ev.neg (by omega) (Ev.some_ (by simp [placesL]))
    | succ n ih =>
      intro i acc hi ha
      refine Ev.succ ?_
      simp only [spec_l06Places.l0]
      have hm := hbx _ (List.getElem_mem (show i < bs.length by omega))
      rw [rdW_nat bs i (by omega), up1 i (by omega), List.drop_eq_getElem_cons (show i < bs.length by omega)]
      refine Ev.pos (by omega) (Ev.pos (by omega) (Ev.bnd (spec_l06Live_ev _ _ _ _ x hx (by omega)) ?_))
      simp only [placesL]
      by_cases c : liveB (gB x) (bs[i]'(by omega)).f1 (bs[i]'(by omega)).f3 = true
      · rw [if_pos c, ← List.append_assoc]
        exact Ev.pos c (Ev.pos (by omega) (ih (i + 1) _ (by omega) (by simp; omega)))
      · rw [if_neg c, List.nil_append]
        exact Ev.neg c (ih (i + 1) _ (by omega) (by omega))
  simp only [spec_l06Places.f]
  have := key bs.length 0 [] (by omega) (by simp)
  simpa using this
theorem impl_liveIn_ev (ps : List (List Int)) (bs : List S55) (c : Nat) (hc : c < 2 ^ 64) (hb : bs.length ≤ 1048576) (hbx : ∀ b ∈ bs, b.f3.length ≤ 1048576) : Ev (fun k => impl_Weave_liveIn.f k ps bs (c : Int)) (placesL c.testBit bs 0) := by
  have key : ∀ (n i : Nat) (acc : List Int), i + n = bs.length → acc.length ≤ i → Ev (fun k => impl_Weave_liveIn.l0 k (c : Int) acc bs (bs.length : Int) (i : Int)) (acc ++ placesL c.testBit (bs.drop i) i) := by
    intro n
    induction n with
    | zero =>
      intro i acc hi ha
      refine Ev.succ ?_
      simp only [impl_Weave_liveIn.l0]
      rw [drop_end bs i (by omega)]
      exact Ev.neg (by omega) (Ev.some_ (by simp [placesL]))
    | succ n ih =>
      intro i acc hi ha
      refine Ev.succ ?_
      simp only [impl_Weave_liveIn.l0]
      have hm := hbx _ (List.getElem_mem (show i < bs.length by omega))
      rw [rdW_nat bs i (by omega), up1 i (by omega), List.drop_eq_getElem_cons (show i < bs.length by omega)]
      refine Ev.pos (by omega) (Ev.pos (by omega) (Ev.pos (by omega) (Ev.bnd (impl_isLive_ev _ _ _ _ c hc (by omega)) ?_)))
      simp only [placesL]
      by_cases c1 : liveB c.testBit (bs[i]'(by omega)).f1 (bs[i]'(by omega)).f3 = true
      · rw [if_pos c1, ← List.append_assoc]
        exact Ev.pos c1 (Ev.pos (by omega) (ih (i + 1) _ (by omega) (by simp; omega)))
      · rw [if_neg c1, List.nil_append]
        exact Ev.neg c1 (ih (i + 1) _ (by omega) (by omega))
  simp only [impl_Weave_liveIn.f]
  have := key bs.length 0 [] (by omega) (by simp)
  simpa using this
/-- One body, where so many of each version were before it. -/
noncomputable def bodyOk (ps : List (List Int)) (born : List Int) (b : S55) : Bool :=
  lineOk b.f0 && decide (0 ≤ b.f1 ∧ b.f1 ≤ (ps.length : Int) - 1) && decide (b.f2 = rd born b.f1) && asc (ps.length : Int) none b.f3 && b.f3.all fun d => liveB (pS ps (row ps d.toNat)) b.f1 b.f3
def bornOf (born : List Int) (b : S55) : List Int := born.set b.f1.toNat (rd born b.f1 + 1)
noncomputable def endOk (ps : List (List Int)) (bs : List S55) (born : List Int) : Nat → Nat → Bool
  | 0, _ => true
  | n + 1, v => decide (rd born (v : Int) ≤ 80) && decide ((placesL (pS ps [(v : Int)]) bs 0).length ≤ 80) && endOk ps bs born n (v + 1)
noncomputable def bodiesGo (ps : List (List Int)) (all : List S55) : List S55 → List Int → Bool
  | [], born => endOk ps all born ps.length 0
  | b :: bs, born => bodyOk ps born b && bodiesGo ps all bs (bornOf born b)
noncomputable def weaveOk (ps : List (List Int)) (bs : List S55) : Bool := graphOk ps && decide (bs.length ≤ 300) && bodiesGo ps bs bs (List.replicate ps.length 0)
def Born (born : List Int) (i : Nat) : Prop := ∀ v : Nat, v < born.length → 0 ≤ rd born (v : Int) ∧ rd born (v : Int) ≤ (i : Int)
theorem Born.step {born : List Int} {i : Nat} (h : Born born i) (b : S55) (h0 : 0 ≤ b.f1) (h1 : b.f1 < born.length) : Born (bornOf born b) (i + 1) := by
  obtain ⟨u, hu⟩ := Int.eq_ofNat_of_zero_le h0
  have hul : u < born.length := by omega
  intro v hv
  unfold bornOf at hv ⊢
  rw [List.length_set] at hv
  rw [hu, Int.toNat_natCast, rd_set born u _ v hul]
  have a := h u hul
  have b := h v hv
  split <;> omega
theorem spec_bornOf (born : List Int) (b : S55) : (bornOf born b).length = born.length := by unfold bornOf; rw [List.length_set]
/-- The proper ancestors of each. -/
def ProperL (ps : List (List Int)) (x : List (List Bool)) (n : Nat) : Prop := x.length = n ∧ ∀ (i : Nat) (h : i < x.length), (x[i]).length = ps.length ∧ gB x[i] = pS ps (row ps i)
theorem rdP_nat (l : List (List Bool)) (i : Nat) (h : i < l.length) : rd_L8 l (i : Int) = l[i] := by
  simp [rd_L8, List.getD, List.getElem?_eq_getElem h]
theorem go_bad (ps : List (List Int)) (bs : List S55) {b : S55} {l : List S55} {born : List Int} (h : bodyOk ps born b = false) : bodiesGo ps bs (b :: l) born = false := by
  rw [bodiesGo, h, Bool.false_and]
theorem born0 (n : Nat) : Born (List.replicate n 0) 0 := by
  intro v hv
  rw [rd_nat _ v hv]
  simp
section
variable (ps : List (List Int)) (bs : List S55) (hg : graphOk ps = true) (hf : Fine ps bs) (h3 : bs.length ≤ 300)
include hg hf h3
theorem spec_closure_ev (v : Nat) : ∃ r, Ev (fun k => spec_l06Closure.f k ps bs (v : Int)) r ∧ r.length = ps.length ∧ gB r = pS ps [(v : Int)] := by
  have _ := hf
  have _ := h3
  have hd := graphOk_down hg
  have hn := graphOk_len hg
  obtain ⟨r, hr, hrl, hru⟩ := spec_l05Set_ev ps [(v : Int)] hd (by omega) (by simp) (rows4 hg)
  refine ⟨r, ?_, hrl, bool_ext fun u => (hru u).trans (pS_iff ps _ u).symm⟩
  simp only [spec_l06Closure.f]
  exact Ev.bnd hr (Ev.now _)
theorem spec_end (born : List Int) (hb : born.length = ps.length) : ∀ (m v : Nat), v + m = ps.length → Ev (fun k => spec_WeaveOk.l3 k (ps.length : Int) born (v : Int) ps bs) (endOk ps bs born m v) := by
  have hn := graphOk_len hg
  intro m
  induction m with
  | zero =>
    intro v hv
    refine Ev.succ ?_
    simp only [spec_WeaveOk.l3]
    exact Ev.neg (by omega) (Ev.some_ rfl)
  | succ m ih =>
    intro v hv
    refine Ev.succ ?_
    simp only [spec_WeaveOk.l3]
    rw [up1 v (by omega), endOk]
    refine Ev.pos (by omega) (Ev.pos (by omega) (Ev.pos (by omega) ?_))
    by_cases c : rd born (v : Int) > 80
    · exact Ev.pos c (Ev.some_ (by rw [decide_eq_false (by omega)]; simp))
    · refine Ev.neg c ?_
      obtain ⟨r, hr, hrl, hre⟩ := spec_closure_ev ps bs hg hf h3 v
      refine Ev.bnd hr (Ev.bnd (spec_l06Places_ev ps bs r hf.2.2.1 (fun b hb => (hf.2.2.2 b hb).2) (by omega)) ?_)
      rw [hre, decide_eq_true (show rd born (v : Int) ≤ 80 by omega), Bool.true_and]
      by_cases c2 : ((placesL (pS ps [(v : Int)]) bs 0).length : Int) > 80
      · exact Ev.pos c2 (Ev.some_ (by rw [decide_eq_false (by omega)]; simp))
      · rw [decide_eq_true (by omega), Bool.true_and]
        exact Ev.neg c2 (ih (v + 1) (by omega))
theorem spec_dels (P : List (List Bool)) (hP : ProperL ps P ps.length) (born : List Int) (i : Nat) (b : S55) (hb : ∀ d ∈ b.f3, 0 ≤ d ∧ d ≤ (ps.length : Int) - 1) (hl : b.f3.length ≤ 1048576) (hi : i < 1000) (R : Bool) (hR : Ev (fun k => spec_WeaveOk.l1 k (ps.length : Int) born P ((i + 1 : Nat) : Int) ps bs) R) :
    ∀ (m j : Nat), j + m = b.f3.length → Ev (fun k => spec_WeaveOk.l2 k (ps.length : Int) born P (i : Int) (j : Int) ps bs b.f0 b.f1 b.f2 b.f3) (((b.f3.drop j).all fun d => liveB (pS ps (row ps d.toNat)) b.f1 b.f3) && R) := by
  have _ := hf
  have _ := h3
  have hn := graphOk_len hg
  intro m
  induction m with
  | zero =>
    intro j hj
    refine Ev.succ ?_
    simp only [spec_WeaveOk.l2]
    rw [drop_end _ j (by omega), up1 i (by omega)]
    refine Ev.neg (by omega) ?_
    rw [List.all_nil, Bool.true_and]
    exact hR
  | succ m ih =>
    intro j hj
    have hrd : rd b.f3 (j : Int) = (b.f3)[j]'(by omega) := rd_nat _ _ _
    have hd := hb _ (List.getElem_mem (show j < b.f3.length by omega))
    obtain ⟨u, hu⟩ := Int.eq_ofNat_of_zero_le hd.1
    rw [hu] at hd
    have hul : u < P.length := by rw [hP.1]; omega
    have hPu := hP.2 u hul
    refine Ev.succ ?_
    simp only [spec_WeaveOk.l2]
    rw [hrd, hu, rdP_nat P u hul, up1 j (by omega), List.drop_eq_getElem_cons (show j < b.f3.length by omega), List.all_cons, hu, Int.toNat_natCast]
    refine Ev.pos (by omega) (Ev.pos (by omega) (Ev.pos (by omega) (Ev.pos (by omega) (Ev.bnd (spec_l06Live_ev _ _ _ _ _ (by omega) (by omega)) ?_))))
    rw [hPu.2]
    by_cases c : liveB (pS ps (row ps u)) b.f1 b.f3 = true
    · rw [c, Bool.true_and]
      exact Ev.pos (by first | rfl | trivial) (ih (j + 1) (by omega))
    · rw [Bool.eq_false_iff.2 c, Bool.false_and, Bool.false_and]
      exact Ev.neg (by simp) (Ev.now _)
theorem spec_bodies (P : List (List Bool)) (hP : ProperL ps P ps.length) : ∀ (m i : Nat) (born : List Int), i + m = bs.length → born.length = ps.length → Born born i → Ev (fun k => spec_WeaveOk.l1 k (ps.length : Int) born P (i : Int) ps bs) (bodiesGo ps bs (bs.drop i) born) := by
  have hn := graphOk_len hg
  intro m
  induction m with
  | zero =>
    intro i born hi hl hb
    refine Ev.succ ?_
    simp only [spec_WeaveOk.l1]
    rw [drop_end bs i (by omega)]
    exact Ev.neg (by omega) (spec_end ps bs hg hf h3 born hl ps.length 0 (by omega))
  | succ m ih =>
    intro i born hi hl hb
    have hm := hf.2.2.2 _ (List.getElem_mem (show i < bs.length by omega))
    refine Ev.succ ?_
    simp only [spec_WeaveOk.l1]
    rw [rdW_nat bs i (by omega), List.drop_eq_getElem_cons (show i < bs.length by omega), w64 (show -9223372036854775808 ≤ (ps.length : Int) - 1 by omega) (by omega)]
    generalize hbe : bs[i]'(by omega) = b at hm ⊢
    refine Ev.pos (by omega) (Ev.pos (by omega) (Ev.bnd (spec_LineOk_ev b.f0 (by omega)) ?_))
    by_cases c1 : lineOk b.f0 = true
    · refine Ev.pos c1 (Ev.bnd0 (spec_l01In_eq _ _ _) ?_)
      by_cases c2 : 0 ≤ b.f1 ∧ b.f1 ≤ (ps.length : Int) - 1
      · refine Ev.pos (by simpa using c2) (Ev.pos c2.1 (Ev.pos (by omega) ?_))
        by_cases c3 : b.f2 = rd born b.f1
        · refine Ev.pos c3 (Ev.bnd (spec_l05Rise_ev b.f3 (ps.length : Int) (by omega) (by omega) (by omega)) (Ev.succ ?_))
          simp only [spec_WeaveOk.j3]
          by_cases c4 : asc (ps.length : Int) none b.f3 = true
          · refine Ev.neg (by simp [c4]) (Ev.pos c2.1 (Ev.pos (by omega) ?_))
            obtain ⟨u, hu⟩ := Int.eq_ofNat_of_zero_le c2.1
            have hbu := hb u (by omega)
            rw [← hu] at hbu
            rw [w64 (by omega) (by omega)]
            have key := spec_dels ps bs hg hf h3 P hP (bornOf born b) i b (asc_bound _ _ _ c4) hm.2 (by omega) _ (ih (i + 1) (bornOf born b) (by omega) (by rw [spec_bornOf]; exact hl) (hb.step b c2.1 (by omega))) b.f3.length 0 (by omega)
            refine Ev_eq key ?_
            rw [bodiesGo, bodyOk, c1, decide_eq_true c2, decide_eq_true c3, c4, List.drop_zero]
            simp
          · exact Ev.pos (by simp [Bool.eq_false_iff.2 c4]) (Ev.some_ (go_bad ps bs (by simp [bodyOk, Bool.eq_false_iff.2 c4])).symm)
        · refine Ev.neg c3 (Ev.succ ?_)
          simp only [spec_WeaveOk.j3]
          exact Ev.pos trivial (Ev.some_ (go_bad ps bs (by simp [bodyOk, c3])).symm)
      · refine Ev.neg (by simpa using c2) (Ev.succ ?_)
        simp only [spec_WeaveOk.j3]
        exact Ev.pos trivial (Ev.some_ (go_bad ps bs (by rw [bodyOk, decide_eq_false c2]; simp)).symm)
    · refine Ev.neg c1 (Ev.succ ?_)
      simp only [spec_WeaveOk.j3]
      exact Ev.pos trivial (Ev.some_ (go_bad ps bs (by simp [bodyOk, Bool.eq_false_iff.2 c1])).symm)
theorem spec_proper : ∀ (m v : Nat) (P : List (List Bool)), v + m = ps.length → ProperL ps P v → Ev (fun k => spec_WeaveOk.l0 k (ps.length : Int) (List.replicate ps.length 0) P (v : Int) ps bs) (bodiesGo ps bs bs (List.replicate ps.length 0)) := by
  have hn := graphOk_len hg
  have hd := graphOk_down hg
  intro m
  induction m with
  | zero =>
    intro v P hv hP
    refine Ev.succ ?_
    simp only [spec_WeaveOk.l0]
    refine Ev.neg (by omega) ?_
    have := spec_bodies ps bs hg hf h3 P (by have e : v = ps.length := (by omega); exact e ▸ hP) bs.length 0 (List.replicate ps.length 0) (by omega) (by simp) (born0 _)
    simpa using this
  | succ m ih =>
    intro v P hv hP
    have h4 := rows4 hg _ (List.getElem_mem (show v < ps.length by omega))
    refine Ev.succ ?_
    simp only [spec_WeaveOk.l0]
    obtain ⟨r, hr, hrl, hru⟩ := spec_l05Set_ev ps (ps[v]'(by omega)) hd (by omega) (by omega) (rows4 hg)
    rw [rdL_nat ps v (by omega), up1 v (by omega)]
    have hPl := hP.1
    refine Ev.pos (by omega) (Ev.pos (by omega) (Ev.pos (by omega) (Ev.bnd hr (Ev.pos (by omega) (ih (v + 1) (P ++ [r]) (by omega) ⟨by simp [hPl], fun i h => ?_⟩)))))
    by_cases c : i < P.length
    · rw [List.getElem_append_left c]
      exact hP.2 i c
    · have e : i = v := by simp at h; omega
      subst e
      have eg : (P ++ [r])[i] = r := by
        rw [List.getElem_append_right (by omega)]
        simp [hPl]
      rw [eg]
      refine ⟨hrl, bool_ext fun u => ?_⟩
      rw [hru u, pS_iff, row_get ps i (by omega)]
end
theorem spec_WeaveOk_ev (ps : List (List Int)) (bs : List S55) (hf : Fine ps bs) : Ev (fun k => spec_WeaveOk.f k ps bs) (weaveOk ps bs) := by
  have hf1 := hf.1
  simp only [spec_WeaveOk.f]
  unfold weaveOk
  refine Ev.bnd (spec_GraphOk_ev ps (by omega) (fun x hx => by have := hf.2.1 x hx; omega)) ?_
  by_cases hg : graphOk ps = true
  · refine Ev.pos hg (Ev.succ ?_)
    simp only [spec_WeaveOk.j0]
    by_cases h3 : bs.length ≤ 300
    · refine Ev.neg (by simp; omega) (Ev.pos (by omega) (Ev.pos (by omega) ?_))
      rw [Int.toNat_natCast, hg, decide_eq_true h3, Bool.true_and, Bool.true_and]
      exact spec_proper ps bs hg hf h3 ps.length 0 [] (by omega) ⟨rfl, fun i h => absurd h (by simp)⟩
    · exact Ev.pos (by simp; omega) (Ev.some_ (by rw [decide_eq_false h3]; simp))
  · refine Ev.neg hg (Ev.succ ?_)
    simp only [spec_WeaveOk.j0]
    exact Ev.pos trivial (Ev.some_ (by rw [Bool.eq_false_iff.2 hg]; simp))
section
variable (ps : List (List Int)) (bs : List S55) (hg : graphOk ps = true) (hf : Fine ps bs) (h3 : bs.length ≤ 300) (x : List Int) (hxl : x.length = ps.length) (hw : Words x) (hc : Clo ps x ps.length)
include hg hf h3 hxl hw hc
theorem clo_bits (v : Nat) (hv : v < ps.length) : (wd x v).testBit = pS ps [(v : Int)] := by
  have _ := hg
  have _ := hf
  have _ := h3
  have _ := hxl
  have _ := hw
  refine bool_ext fun u => ?_
  rw [hc v hv u, pS_iff]
  constructor
  · intro h; exact ⟨v, by simp, hv, h⟩
  · rintro ⟨s, hs, _, ha⟩
    have : s = v := by have := List.mem_singleton.1 hs; omega
    exact this ▸ ha
theorem union_bits (l : List Int) (hl : l.length ≤ 140737488351232) (hp : ∀ p ∈ l, 0 ≤ p ∧ p < (ps.length : Int)) : ∃ s : Nat, Ev (fun k => impl_unionOf.f k x l) (s : Int) ∧ s < 2 ^ 64 ∧ s.testBit = pS ps l := by
  have _ := hg
  have _ := hf
  have _ := h3
  obtain ⟨s, hs, hs1, hs2⟩ := impl_unionOf_ev x hw l hl (fun p h => by have := hp p h; omega)
  refine ⟨s, hs, hs1, bool_ext fun u => ?_⟩
  rw [hs2 u, pS_iff]
  constructor
  · rintro ⟨p, hp1, hp2⟩
    have := hp _ hp1
    exact ⟨p, hp1, by omega, (hc p (by omega) u).1 hp2⟩
  · rintro ⟨p, hp1, hp2, ha⟩
    exact ⟨p, hp1, (hc p hp2 u).2 ha⟩
theorem impl_end (born : List Int) (hb : born.length = ps.length) : ∀ (m v : Nat), v + m = ps.length → Ev (fun k => impl_bodiesOk.l2 k born x (x.length : Int) (v : Int) ps bs) (endOk ps bs born m v) := by
  have hn := graphOk_len hg
  intro m
  induction m with
  | zero =>
    intro v hv
    refine Ev.succ ?_
    simp only [impl_bodiesOk.l2]
    exact Ev.neg (by omega) (Ev.some_ rfl)
  | succ m ih =>
    intro v hv
    refine Ev.succ ?_
    simp only [impl_bodiesOk.l2]
    rw [up1 v (by omega), endOk, wd_cast hw (show v < x.length by omega)]
    refine Ev.pos (by omega) (Ev.pos (by omega) (Ev.pos (by omega) (Ev.pos (by omega) ?_)))
    by_cases c : rd born (v : Int) > 80
    · exact Ev.pos c (Ev.some_ (by rw [decide_eq_false (by omega)]; simp))
    · refine Ev.neg c (Ev.bnd (impl_liveIn_ev ps bs (wd x v) (wd_lt hw (by omega)) hf.2.2.1 (fun b hb => (hf.2.2.2 b hb).2)) ?_)
      rw [clo_bits ps bs hg hf h3 x hxl hw hc v (by omega), decide_eq_true (show rd born (v : Int) ≤ 80 by omega), Bool.true_and]
      by_cases c2 : ((placesL (pS ps [(v : Int)]) bs 0).length : Int) > 80
      · exact Ev.pos c2 (Ev.some_ (by rw [decide_eq_false (by omega)]; simp))
      · rw [decide_eq_true (by omega), Bool.true_and]
        exact Ev.neg c2 (ih (v + 1) (by omega))
theorem impl_dels (born : List Int) (i : Nat) (b : S55) (hb : ∀ d ∈ b.f3, 0 ≤ d ∧ d ≤ (ps.length : Int) - 1) (hl : b.f3.length ≤ 1048576) (hi : i < 1000) (R : Bool) (hR : Ev (fun k => impl_bodiesOk.l0 k x born bs (bs.length : Int) ((i + 1 : Nat) : Int) ps bs) R) :
    ∀ (m j : Nat), j + m = b.f3.length → Ev (fun k => impl_bodiesOk.l1 k x born bs (bs.length : Int) (i : Int) b.f3 (b.f3.length : Int) (j : Int) ps bs b.f0 b.f1 b.f2 b.f3) (((b.f3.drop j).all fun d => liveB (pS ps (row ps d.toNat)) b.f1 b.f3) && R) := by
  have hn := graphOk_len hg
  have hdn := graphOk_down hg
  intro m
  induction m with
  | zero =>
    intro j hj
    refine Ev.succ ?_
    simp only [impl_bodiesOk.l1]
    rw [drop_end _ j (by omega), up1 i (by omega)]
    refine Ev.neg (by omega) ?_
    rw [List.all_nil, Bool.true_and]
    exact hR
  | succ m ih =>
    intro j hj
    have hrd : rd b.f3 (j : Int) = (b.f3)[j]'(by omega) := rd_nat _ _ _
    have hd := hb _ (List.getElem_mem (show j < b.f3.length by omega))
    obtain ⟨u, hu⟩ := Int.eq_ofNat_of_zero_le hd.1
    rw [hu] at hd
    have hul : u < ps.length := by omega
    have h4 := rows4 hg _ (List.getElem_mem hul)
    obtain ⟨s, hs, hs1, hs2⟩ := union_bits ps bs hg hf h3 x hxl hw hc (ps[u]'hul) (by omega) (fun p hp => by have := hdn u hul p (by rw [row_get ps u hul]; exact hp); omega)
    refine Ev.succ ?_
    simp only [impl_bodiesOk.l1]
    rw [hrd, hu, rdL_nat ps u hul, up1 j (by omega), List.drop_eq_getElem_cons (show j < b.f3.length by omega), List.all_cons, hu, Int.toNat_natCast]
    refine Ev.pos (by omega) (Ev.pos (by omega) (Ev.pos (by omega) (Ev.pos (by omega) (Ev.pos (by omega) (Ev.bnd hs (Ev.bnd (impl_isLive_ev _ _ _ _ s hs1 (by omega)) ?_))))))
    rw [hs2, ← row_get ps u hul]
    by_cases c : liveB (pS ps (row ps u)) b.f1 b.f3 = true
    · rw [c, Bool.true_and]
      exact Ev.pos (by first | rfl | trivial) (ih (j + 1) (by omega))
    · rw [Bool.eq_false_iff.2 c, Bool.false_and, Bool.false_and]
      exact Ev.neg (by simp) (Ev.now _)
theorem impl_bodies : ∀ (m i : Nat) (born : List Int), i + m = bs.length → born.length = ps.length → Born born i → Ev (fun k => impl_bodiesOk.l0 k x born bs (bs.length : Int) (i : Int) ps bs) (bodiesGo ps bs (bs.drop i) born) := by
  have hn := graphOk_len hg
  intro m
  induction m with
  | zero =>
    intro i born hi hl hb
    refine Ev.succ ?_
    simp only [impl_bodiesOk.l0]
    rw [drop_end bs i (by omega)]
    exact Ev.neg (by omega) (impl_end ps bs hg hf h3 x hxl hw hc born hl ps.length 0 (by omega))
  | succ m ih =>
    intro i born hi hl hb
    have hm := hf.2.2.2 _ (List.getElem_mem (show i < bs.length by omega))
    have hbad : ∀ {b : S55} {l : List S55}, bodyOk ps born b = false → bodiesGo ps bs (b :: l) born = false := fun h => by rw [bodiesGo, h, Bool.false_and]
    refine Ev.succ ?_
    simp only [impl_bodiesOk.l0]
    rw [rdW_nat bs i (by omega), List.drop_eq_getElem_cons (show i < bs.length by omega)]
    generalize hbe : bs[i]'(by omega) = b at hm ⊢
    refine Ev.pos (by omega) (Ev.pos (by omega) (Ev.pos (by omega) (Ev.bnd0 (impl_LineOk_eq b.f0) ?_)))
    by_cases c1 : lineOk b.f0 = true
    · refine Ev.pos c1 (Ev.bnd0 (impl_isPlace_eq _ x.length (by omega)) ?_)
      rw [hxl]
      by_cases c2 : 0 ≤ b.f1 ∧ b.f1 ≤ (ps.length : Int) - 1
      · refine Ev.pos (by simpa using c2) (Ev.pos c2.1 (Ev.pos (by omega) ?_))
        by_cases c3 : b.f2 = rd born b.f1
        · refine Ev.pos c3 (Ev.bnd (impl_ascends_ev b.f3 (ps.length : Int) (by omega) (by omega) (by omega)) (Ev.succ ?_))
          simp only [impl_bodiesOk.j1]
          by_cases c4 : asc (ps.length : Int) none b.f3 = true
          · refine Ev.neg (by simp [c4]) (Ev.pos c2.1 (Ev.pos (by omega) ?_))
            obtain ⟨u, hu⟩ := Int.eq_ofNat_of_zero_le c2.1
            have hbu := hb u (by omega)
            rw [← hu] at hbu
            rw [w64 (by omega) (by omega)]
            have key := impl_dels ps bs hg hf h3 x hxl hw hc (bornOf born b) i b (asc_bound _ _ _ c4) hm.2 (by omega) _ (ih (i + 1) (bornOf born b) (by omega) (by rw [spec_bornOf]; exact hl) (hb.step b c2.1 (by omega))) b.f3.length 0 (by omega)
            refine Ev_eq key ?_
            rw [bodiesGo, bodyOk, c1, decide_eq_true c2, decide_eq_true c3, c4, List.drop_zero]
            simp
          · exact Ev.pos (by simp [Bool.eq_false_iff.2 c4]) (Ev.some_ (hbad (by simp [bodyOk, Bool.eq_false_iff.2 c4])).symm)
        · refine Ev.neg c3 (Ev.succ ?_)
          simp only [impl_bodiesOk.j1]
          exact Ev.pos trivial (Ev.some_ (hbad (by simp [bodyOk, c3])).symm)
      · refine Ev.neg (by simpa using c2) (Ev.succ ?_)
        simp only [impl_bodiesOk.j1]
        exact Ev.pos trivial (Ev.some_ (hbad (by rw [bodyOk, decide_eq_false c2]; simp)).symm)
    · refine Ev.neg c1 (Ev.succ ?_)
      simp only [impl_bodiesOk.j1]
      exact Ev.pos trivial (Ev.some_ (hbad (by simp [bodyOk, Bool.eq_false_iff.2 c1])).symm)
end
theorem impl_WeaveOk_ev (ps : List (List Int)) (bs : List S55) (hf : Fine ps bs) : Ev (fun k => impl_WeaveOk.f k ps bs) (weaveOk ps bs) := by
  have hf1 := hf.1
  simp only [impl_WeaveOk.f]
  unfold weaveOk
  by_cases h3 : bs.length ≤ 300
  · refine Ev.pos (by omega) (Ev.bnd (impl_GraphOk_ev ps (by omega) (fun x hx => by have := hf.2.1 x hx; omega)) ?_)
    by_cases hg : graphOk ps = true
    · refine Ev.pos hg ?_
      have hd := graphOk_down hg
      have hn := graphOk_len hg
      obtain ⟨x, hx1, hxl, hw, hc⟩ := impl_closures_ev ps hd (by omega) (rows4 hg)
      refine Ev.bnd hx1 (Ev.bnd ?_ (Ev.now _))
      simp only [impl_bodiesOk.f]
      refine Ev.pos (by omega) (Ev.pos (by omega) ?_)
      rw [Int.toNat_natCast, hxl, hg, decide_eq_true h3, Bool.true_and, Bool.true_and]
      have := impl_bodies ps bs hg hf h3 x hxl hw hc bs.length 0 (List.replicate ps.length 0) (by omega) (by simp) (born0 _)
      simpa using this
    · exact Ev.neg hg (Ev.some_ (by rw [Bool.eq_false_iff.2 hg]; simp))
  · exact Ev.neg (by omega) (Ev.some_ (by rw [decide_eq_false h3]; simp))
/-! versions of a right weave -/
def isV (ps : List (List Int)) (v : Int) : Bool := decide (0 ≤ v ∧ v ≤ (ps.length : Int) - 1)
def inB (l : List Int) (d : Int) : Bool := decide (d ∈ l)
theorem inB_drop {l : List Int} {i : Nat} (h : i < l.length) (d : Int) : inB (l.drop i) d = (decide (rd l (i : Int) = d) || inB (l.drop (i + 1)) d) := by
  rw [rd_nat l i h]
  unfold inB
  rw [List.drop_eq_getElem_cons h, Bool.eq_iff_iff]
  simp only [decide_eq_true_eq, Bool.or_eq_true, List.mem_cons]
  constructor
  · rintro (h | h)
    · exact .inl h.symm
    · exact .inr h
  · rintro (h | h)
    · exact .inl h.symm
    · exact .inr h
theorem spec_l07In_ev (l : List Int) (d : Int) (hl : l.length ≤ 1048576) : Ev (fun k => spec_l07In.f k l d) (inB l d) := by
  have key : ∀ (n i : Nat), i + n = l.length → Ev (fun k => spec_l07In.l0 k l d (i : Int)) (inB (l.drop i) d) := by
    intro n
    induction n with
    | zero =>
      intro i hi
      refine Ev.succ ?_
      simp only [spec_l07In.l0]
      rw [drop_end l i (by omega)]
      exact Ev.neg (by omega) (Ev.some_ (by simp [inB]))
    | succ n ih =>
      intro i hi
      refine Ev.succ ?_
      simp only [spec_l07In.l0]
      rw [inB_drop (by omega), up1 i (by omega)]
      refine Ev.pos (by omega) (Ev.pos (by omega) ?_)
      by_cases c : rd l (i : Int) = d
      · exact Ev.pos c (Ev.some_ (by simp [c]))
      · exact Ev.neg c (Ev_eq (ih (i + 1) (by omega)) (by simp [c]))
  simp only [spec_l07In.f]
  exact key l.length 0 (by omega)
theorem slices_Contains_ev (l : List Int) (d : Int) (hl : l.length ≤ 1048576) : Ev (fun k => slices_Contains_int_int.f k l d) (inB l d) := by
  have key : ∀ (n i : Nat), i + n = l.length → ∃ r : Int, Ev (fun k => slices_Index_int_int.l0 k l d (l.length : Int) (i : Int)) r ∧ decide (r ≥ 0) = inB (l.drop i) d := by
    intro n
    induction n with
    | zero =>
      intro i hi
      refine ⟨-1, Ev.succ ?_, ?_⟩
      · simp only [slices_Index_int_int.l0]
        exact Ev.neg (by omega) (Ev.now _)
      · rw [drop_end l i (by omega)]
        simp [inB]
    | succ n ih =>
      intro i hi
      obtain ⟨r, hr, he⟩ := ih (i + 1) (by omega)
      rw [inB_drop (show i < l.length by omega)]
      by_cases c : rd l (i : Int) = d
      · refine ⟨(i : Int), Ev.succ ?_, by simp [c]⟩
        simp only [slices_Index_int_int.l0]
        exact Ev.pos (by omega) (Ev.pos (by omega) (Ev.pos (by omega) (Ev.pos c.symm (Ev.now _))))
      · refine ⟨r, Ev.succ ?_, by simp [c, he]⟩
        simp only [slices_Index_int_int.l0]
        rw [up1 i (by omega)]
        exact Ev.pos (by omega) (Ev.pos (by omega) (Ev.pos (by omega) (Ev.neg (fun h => c h.symm) hr)))
  obtain ⟨r, hr, he⟩ := key l.length 0 (by omega)
  simp only [slices_Contains_int_int.f, slices_Index_int_int.f]
  exact Ev.bnd hr (Ev.some_ (by rw [he]; rfl))
/-! records: what a body's marks are, on both sides -/
def recM (t : Int) (d : Int) : S48 := ⟨t, d, (⟨#[]⟩ : ByteArray)⟩
def midL (a b : Int) : List S48 := if a = b then [] else (if a ≥ 0 then [recM 3 a] else []) ++ (if b ≥ 0 then [recM 2 b] else [])
def tailL (d1 d2 : List Int) : List S48 := (d2.filter fun d => !inB d1 d).map (recM 4)
def headL (d1 d2 : List Int) : List S48 := (d1.reverse.filter fun d => !inB d2 d).map (recM 5)
def marksL (i1 : Int) (d1 : List Int) (i2 : Int) (d2 : List Int) : List S48 := headL d1 d2 ++ (midL i1 i2 ++ tailL d1 d2)
theorem spec_l07Marks_ev (s1 : ByteArray) (i1 o1 : Int) (d1 : List Int) (s2 : ByteArray) (i2 o2 : Int) (d2 : List Int) (h1 : d1.length ≤ 1048576) (h2 : d2.length ≤ 1048576) : Ev (fun k => spec_l07Marks.f k s1 i1 o1 d1 s2 i2 o2 d2) (marksL i1 d1 i2 d2) := by
  have key1 : ∀ (n i : Nat) (acc : List S48), i + n = d2.length → acc.length ≤ 2000000 + i → Ev (fun k => spec_l07Marks.l1 k acc (i : Int) s1 i1 o1 d1 s2 i2 o2 d2) (acc ++ tailL d1 (d2.drop i)) := by
    intro n
    induction n with
    | zero =>
      intro i acc hi ha
      refine Ev.succ ?_
      simp only [spec_l07Marks.l1]
      rw [drop_end d2 i (by omega)]
      exact Ev.neg (by omega) (Ev.some_ (by simp [tailL]))
    | succ n ih =>
      intro i acc hi ha
      refine Ev.succ ?_
      simp only [spec_l07Marks.l1]
      have e := rd_nat d2 i (by omega)
      rw [up1 i (by omega), List.drop_eq_getElem_cons (show i < d2.length by omega), ← e]
      unfold tailL
      rw [List.filter_cons]
      refine Ev.pos (by omega) (Ev.pos (by omega) (Ev.bnd (spec_l07In_ev d1 _ h1) ?_))
      by_cases c : inB d1 (rd d2 (i : Int)) = true
      · rw [if_neg (by simp [c])]
        exact Ev.pos c (ih (i + 1) acc (by omega) (by omega))
      · rw [if_pos (by simp [c])]
        refine Ev.neg c (Ev.pos (by omega) ?_)
        exact Ev_eq (ih (i + 1) _ (by omega) (by simp; omega)) (by simp [tailL, recM])
  have hj : ∀ acc : List S48, acc.length ≤ 2000000 → Ev (fun k => spec_l07Marks.j1 k acc s1 i1 o1 d1 s2 i2 o2 d2) (acc ++ tailL d1 d2) := by
    intro acc ha
    refine Ev.succ ?_
    simp only [spec_l07Marks.j1]
    exact key1 d2.length 0 acc (by omega) (by omega)
  have key0 : ∀ (n : Nat) (acc : List S48), n ≤ d1.length → acc.length + n ≤ 1048576 → Ev (fun k => spec_l07Marks.l0 k acc ((n : Int) - 1) s1 i1 o1 d1 s2 i2 o2 d2) (acc ++ headL (d1.take n) d2 ++ (midL i1 i2 ++ tailL d1 d2)) := by
    intro n
    induction n with
    | zero =>
      intro acc hn ha
      refine Ev.succ ?_
      simp only [spec_l07Marks.l0]
      refine Ev.neg (by omega) ?_
      have e0 : headL (d1.take 0) d2 = [] := by simp [headL]
      rw [e0, List.append_nil]
      unfold midL
      by_cases c : i1 = i2
      · rw [if_pos c]
        exact Ev.pos c (Ev_eq (hj acc (by omega)) (by simp))
      · rw [if_neg c]
        refine Ev.neg c ?_
        by_cases a1 : i1 ≥ 0
        · rw [if_pos a1]
          refine Ev.pos a1 (Ev.pos (by omega) (Ev.bnd0 rfl ?_))
          by_cases a2 : i2 ≥ 0
          · rw [if_pos a2]
            exact Ev.pos a2 (Ev.pos (by simp; omega) (Ev_eq (hj _ (by simp; omega)) (by simp [recM])))
          · rw [if_neg a2]
            exact Ev.neg a2 (Ev_eq (hj _ (by simp; omega)) (by simp [recM]))
        · rw [if_neg a1]
          refine Ev.neg a1 ?_
          by_cases a2 : i2 ≥ 0
          · rw [if_pos a2]
            exact Ev.pos a2 (Ev.pos (by omega) (Ev_eq (hj _ (by simp; omega)) (by simp [recM])))
          · rw [if_neg a2]
            exact Ev.neg a2 (Ev_eq (hj _ (by omega)) (by simp))
    | succ n ih =>
      intro acc hn ha
      refine Ev.succ ?_
      simp only [spec_l07Marks.l0]
      have e := rd_nat d1 n (by omega)
      have ex : (((n + 1 : Nat) : Int) - 1) = (n : Int) := by omega
      have ey : headL (d1.take (n + 1)) d2 = (if (!inB d2 (rd d1 (n : Int))) = true then [recM 5 (rd d1 (n : Int))] else []) ++ headL (d1.take n) d2 := by
        unfold headL
        rw [List.take_succ_eq_append_getElem (show n < d1.length by omega), List.reverse_append, ← e, List.reverse_singleton, List.singleton_append, List.filter_cons]
        split <;> simp
      rw [ex, ey, show wrap64 ((n : Int) - 1) = (n : Int) - 1 from w64 (by omega) (by omega)]
      refine Ev.pos (by omega) (Ev.pos (by omega) (Ev.pos (by omega) (Ev.bnd (spec_l07In_ev d2 _ h2) ?_)))
      by_cases c : inB d2 (rd d1 (n : Int)) = true
      · rw [if_neg (by simp [c]), List.nil_append]
        exact Ev.pos c (ih acc (by omega) (by omega))
      · rw [if_pos (by simp [c])]
        refine Ev.neg c (Ev.pos (by omega) ?_)
        exact Ev_eq (ih _ (by omega) (by simp; omega)) (by simp [recM])
  simp only [spec_l07Marks.f]
  rw [w64 (by omega) (by omega)]
  exact Ev_eq (key0 d1.length [] (by omega) (by simp; omega)) (by simp [marksL])
theorem impl_marks_ev (i1 : Int) (d1 : List Int) (i2 : Int) (d2 : List Int) (h1 : d1.length ≤ 1048576) (h2 : d2.length ≤ 1048576) : Ev (fun k => impl_marks.f k i1 d1 i2 d2) (marksL i1 d1 i2 d2) := by
  have key1 : ∀ (n i : Nat) (acc : List S48), i + n = d2.length → acc.length ≤ 2000000 + i → Ev (fun k => impl_marks.l1 k d1 acc d2 (d2.length : Int) (i : Int)) (acc ++ tailL d1 (d2.drop i)) := by
    intro n
    induction n with
    | zero =>
      intro i acc hi ha
      refine Ev.succ ?_
      simp only [impl_marks.l1]
      rw [drop_end d2 i (by omega)]
      exact Ev.neg (by omega) (Ev.some_ (by simp [tailL]))
    | succ n ih =>
      intro i acc hi ha
      refine Ev.succ ?_
      simp only [impl_marks.l1]
      have e := rd_nat d2 i (by omega)
      rw [up1 i (by omega), List.drop_eq_getElem_cons (show i < d2.length by omega), ← e]
      unfold tailL
      rw [List.filter_cons]
      refine Ev.pos (by omega) (Ev.pos (by omega) (Ev.pos (by omega) (Ev.bnd (slices_Contains_ev d1 _ h1) ?_)))
      by_cases c : inB d1 (rd d2 (i : Int)) = true
      · rw [if_neg (by simp [c])]
        exact Ev.pos c (ih (i + 1) acc (by omega) (by omega))
      · rw [if_pos (by simp [c])]
        refine Ev.neg c (Ev.pos (by omega) ?_)
        exact Ev_eq (ih (i + 1) _ (by omega) (by simp; omega)) (by simp [tailL, recM])
  have h4 : ∀ acc : List S48, acc.length ≤ 2000000 → Ev (fun k => impl_marks.j4 k d1 d2 acc) (acc ++ tailL d1 d2) := by
    intro acc ha
    refine Ev.succ ?_
    simp only [impl_marks.j4]
    exact key1 d2.length 0 acc (by omega) (by omega)
  have h3 : ∀ (acc : List S48) (b : Bool), acc.length ≤ 1999999 → Ev (fun k => impl_marks.j3 k d1 i2 d2 acc b) (acc ++ ((if b = true then [recM 2 i2] else []) ++ tailL d1 d2)) := by
    intro acc b ha
    refine Ev.succ ?_
    simp only [impl_marks.j3]
    by_cases c : b = true
    · rw [if_pos c]
      exact Ev.pos c (Ev.pos (by omega) (Ev_eq (h4 _ (by simp; omega)) (by simp [recM])))
    · rw [if_neg c]
      exact Ev.neg c (Ev_eq (h4 _ (by omega)) (by simp))
  have h2' : ∀ (acc : List S48), acc.length ≤ 1999999 → Ev (fun k => impl_marks.j2 k i1 d1 i2 d2 acc) (acc ++ ((if i1 = i2 then [] else if i2 ≥ 0 then [recM 2 i2] else []) ++ tailL d1 d2)) := by
    intro acc ha
    refine Ev.succ ?_
    simp only [impl_marks.j2]
    by_cases c : i1 = i2
    · rw [if_pos c]
      exact Ev.pos c (Ev_eq (h3 acc false ha) (by simp))
    · rw [if_neg c]
      exact Ev.neg c (Ev_eq (h3 acc _ ha) (by simp))
  have h1' : ∀ (acc : List S48) (b : Bool), acc.length ≤ 1999998 → Ev (fun k => impl_marks.j1 k i1 d1 i2 d2 acc b) (acc ++ ((if b = true then [recM 3 i1] else []) ++ ((if i1 = i2 then [] else if i2 ≥ 0 then [recM 2 i2] else []) ++ tailL d1 d2))) := by
    intro acc b ha
    refine Ev.succ ?_
    simp only [impl_marks.j1]
    by_cases c : b = true
    · rw [if_pos c]
      exact Ev.pos c (Ev.pos (by omega) (Ev_eq (h2' _ (by simp; omega)) (by simp [recM])))
    · rw [if_neg c]
      exact Ev.neg c (Ev_eq (h2' _ (by omega)) (by simp))
  have key0 : ∀ (n : Nat) (acc : List S48), n ≤ d1.length → acc.length + n ≤ 1048576 → Ev (fun k => impl_marks.l0 k i1 d1 i2 d2 acc ((n : Int) - 1)) (acc ++ headL (d1.take n) d2 ++ (midL i1 i2 ++ tailL d1 d2)) := by
    intro n
    induction n with
    | zero =>
      intro acc hn ha
      refine Ev.succ ?_
      simp only [impl_marks.l0]
      refine Ev.neg (by omega) ?_
      have e0 : headL (d1.take 0) d2 = [] := by simp [headL]
      rw [e0, List.append_nil]
      unfold midL
      by_cases c : i1 = i2
      · exact Ev.pos c (Ev_eq (h1' acc false (by omega)) (by simp [c]))
      · exact Ev.neg c (Ev_eq (h1' acc _ (by omega)) (by simp [c]))
    | succ n ih =>
      intro acc hn ha
      refine Ev.succ ?_
      simp only [impl_marks.l0]
      have e := rd_nat d1 n (by omega)
      have ex : (((n + 1 : Nat) : Int) - 1) = (n : Int) := by omega
      have ey : headL (d1.take (n + 1)) d2 = (if (!inB d2 (rd d1 (n : Int))) = true then [recM 5 (rd d1 (n : Int))] else []) ++ headL (d1.take n) d2 := by
        unfold headL
        rw [List.take_succ_eq_append_getElem (show n < d1.length by omega), List.reverse_append, ← e, List.reverse_singleton, List.singleton_append, List.filter_cons]
        split <;> simp
      rw [ex, ey, show wrap64 ((n : Int) - 1) = (n : Int) - 1 from w64 (by omega) (by omega)]
      refine Ev.pos (by omega) (Ev.pos (by omega) (Ev.pos (by omega) (Ev.bnd (slices_Contains_ev d2 _ h2) ?_)))
      by_cases c : inB d2 (rd d1 (n : Int)) = true
      · rw [if_neg (by simp [c]), List.nil_append]
        exact Ev.pos c (ih acc (by omega) (by omega))
      · rw [if_pos (by simp [c])]
        refine Ev.neg c (Ev.pos (by omega) ?_)
        exact Ev_eq (ih _ (by omega) (by simp; omega)) (by simp [recM])
  simp only [impl_marks.f]
  rw [w64 (by omega) (by omega)]
  exact Ev_eq (key0 d1.length [] (by omega) (by simp; omega)) (by simp [marksL])
theorem marksL_length (i1 : Int) (d1 : List Int) (i2 : Int) (d2 : List Int) : (marksL i1 d1 i2 d2).length ≤ d1.length + 2 + d2.length := by
  have a := List.length_filter_le (fun d => !inB d2 d) d1.reverse
  have b := List.length_filter_le (fun d => !inB d1 d) d2
  rw [List.length_reverse] at a
  have c : (midL i1 i2).length ≤ 2 := by
    unfold midL
    split
    · simp
    · split <;> split <;> simp
  simp only [marksL, headL, tailL, List.length_append, List.length_map]
  omega
def recsL (i1 : Int) (d1 : List Int) : List S55 → List S48
  | [] => marksL i1 d1 (-1) []
  | b :: bs => marksL i1 d1 b.f1 b.f3 ++ (⟨1, 0, b.f0⟩ :: recsL b.f1 b.f3 bs)
theorem spec_l07Records_ev (ps : List (List Int)) (bs : List S55) (hf : Fine ps bs) : Ev (fun k => spec_l07Records.f k ps bs) (recsL (-1) [] bs) := by
  have hb := hf.2.2.1
  have key : ∀ (n i : Nat) (acc : List S48) (s : ByteArray) (i1 o1 : Int) (d1 : List Int), i + n = bs.length → acc.length ≤ 2097155 * i → d1.length ≤ 1048576 → Ev (fun k => spec_l07Records.l0 k acc (i : Int) ps bs s i1 o1 d1) (acc ++ recsL i1 d1 (bs.drop i)) := by
    intro n
    induction n with
    | zero =>
      intro i acc s i1 o1 d1 hi ha hd
      have hm := marksL_length i1 d1 (-1) []
      refine Ev.succ ?_
      simp only [spec_l07Records.l0]
      rw [drop_end bs i (by omega)]
      simp only [List.length_nil] at hm
      exact Ev.neg (by omega) (Ev.bnd (spec_l07Marks_ev s i1 o1 d1 _ (-1) 0 [] hd (by simp)) (Ev.pos (by omega) (Ev.now _)))
    | succ n ih =>
      intro i acc s i1 o1 d1 hi ha hd
      have hx := (hf.2.2.2 _ (List.getElem_mem (show i < bs.length by omega))).2
      have hm := marksL_length i1 d1 (bs[i]'(by omega)).f1 (bs[i]'(by omega)).f3
      refine Ev.succ ?_
      simp only [spec_l07Records.l0]
      rw [rdW_nat bs i (by omega), up1 i (by omega), List.drop_eq_getElem_cons (show i < bs.length by omega)]
      refine Ev.pos (by omega) (Ev.pos (by omega) (Ev.bnd (spec_l07Marks_ev s i1 o1 d1 _ _ _ _ hd hx) (Ev.pos (by omega) (Ev.bnd0 rfl (Ev.pos (by rw [List.length_append]; omega) ?_)))))
      exact Ev_eq (ih (i + 1) _ _ _ _ _ (by omega) (by simp only [List.length_append, List.length_cons, List.length_nil]; omega) hx) (by simp [recsL])
  simp only [spec_l07Records.f]
  exact Ev_eq (key bs.length 0 [] _ (-1) 0 [] (by omega) (by simp) (by simp)) (by simp)
theorem impl_records_ev (ps : List (List Int)) (bs : List S55) (hf : Fine ps bs) : Ev (fun k => impl_records.f k ps bs) (recsL (-1) [] bs) := by
  have hb := hf.2.2.1
  have key : ∀ (n i : Nat) (acc : List S48) (i1 : Int) (d1 : List Int), i + n = bs.length → acc.length ≤ 2097155 * i → d1.length ≤ 1048576 → Ev (fun k => impl_records.l0 k acc i1 d1 bs (bs.length : Int) (i : Int)) (acc ++ recsL i1 d1 (bs.drop i)) := by
    intro n
    induction n with
    | zero =>
      intro i acc i1 d1 hi ha hd
      have hm := marksL_length i1 d1 (-1) []
      refine Ev.succ ?_
      simp only [impl_records.l0]
      rw [drop_end bs i (by omega)]
      simp only [List.length_nil] at hm
      exact Ev.neg (by omega) (Ev.bnd (impl_marks_ev i1 d1 (-1) [] hd (by simp)) (Ev.pos (by omega) (Ev.now _)))
    | succ n ih =>
      intro i acc i1 d1 hi ha hd
      have hx := (hf.2.2.2 _ (List.getElem_mem (show i < bs.length by omega))).2
      have hm := marksL_length i1 d1 (bs[i]'(by omega)).f1 (bs[i]'(by omega)).f3
      refine Ev.succ ?_
      simp only [impl_records.l0]
      rw [rdW_nat bs i (by omega), up1 i (by omega), List.drop_eq_getElem_cons (show i < bs.length by omega)]
      refine Ev.pos (by omega) (Ev.pos (by omega) (Ev.pos (by omega) (Ev.bnd (impl_marks_ev i1 d1 _ _ hd hx) (Ev.pos (by omega) (Ev.bnd0 rfl (Ev.pos (by rw [List.length_append]; omega) ?_))))))
      exact Ev_eq (ih (i + 1) _ _ _ (by omega) (by simp only [List.length_append, List.length_cons, List.length_nil]; omega) hx) (by simp [recsL])
  simp only [impl_records.f]
  exact Ev_eq (key bs.length 0 [] (-1) [] (by omega) (by simp) (by simp)) (by simp)
open Classical in
noncomputable def recordsR (ps : List (List Int)) (bs : List S55) : List S48 × Bool := if weaveOk ps bs = true then (if ((recsL (-1) [] bs).length : Int) > 4000 then ([], false) else (recsL (-1) [] bs, true)) else ([], false)
theorem spec_Records_ev (ps : List (List Int)) (bs : List S55) (hf : Fine ps bs) : Ev (fun k => spec_Records.f k ps bs) (recordsR ps bs) := by
  simp only [spec_Records.f]
  unfold recordsR
  refine Ev.bnd (spec_WeaveOk_ev ps bs hf) ?_
  by_cases c : weaveOk ps bs = true
  · rw [if_pos c]
    refine Ev.pos c (Ev.bnd (spec_l07Records_ev ps bs hf) ?_)
    by_cases d : ((recsL (-1) [] bs).length : Int) > 4000
    · rw [if_pos d, if_pos d]; exact Ev.now _
    · rw [if_neg d, if_neg d]; exact Ev.now _
  · rw [if_neg c]
    exact Ev.neg c (Ev.now _)
/-! the laws' marks as texts -/
def mtGo : Nat → Int → ByteArray → ByteArray
  | 0, _, s => (⟨#[109]⟩ : ByteArray) ++ s
  | f + 1, n, s => if n > 0 then mtGo f (n / 10) (strOfNums [48 + n % 10] ++ s) else (⟨#[109]⟩ : ByteArray) ++ s
def mt (n : Int) : ByteArray := if n ≤ 0 then (⟨#[109, 48]⟩ : ByteArray) else mtGo 13 n (⟨#[]⟩ : ByteArray)
def FitsT : Nat → Int → Prop
  | 0, n => n ≤ 0
  | f + 1, n => FitsT f (n / 10)
theorem fitsT {n : Int} (h : n ≤ 1000000000000) : FitsT 13 n := by
  simp only [FitsT]
  omega
theorem laws_markText_l0 : ∀ (f : Nat) (n : Int) (s : ByteArray), FitsT f n → n ≤ 1000000000000 → s.size + f < 1000 → Ev (fun k => laws_markText.l0 k n s) (mtGo f n s) := by
  intro f
  induction f with
  | zero =>
    intro n s hf hn hs
    simp only [FitsT] at hf
    refine Ev.succ ?_
    simp only [laws_markText.l0]
    exact Ev.neg (by omega) (Ev.pos (by omega) (Ev.some_ rfl))
  | succ f ih =>
    intro n s hf hn hs
    simp only [FitsT] at hf
    refine Ev.succ ?_
    simp only [laws_markText.l0]
    by_cases h : n > 0
    · rw [Int.tmod_eq_emod_of_nonneg (show 0 ≤ n by omega), Int.tdiv_eq_ediv_of_nonneg (show 0 ≤ n by omega)]
      rw [show wrap64 (48 + n % 10) = 48 + n % 10 from w64 (by omega) (by omega), show wrap64 (n / 10) = n / 10 from w64 (by omega) (by omega), show (48 + n % 10) % 256 = 48 + n % 10 from by omega]
      have hz : (strOfNums [48 + n % 10]).size = 1 := by rw [strOfNums_size]; rfl
      refine Ev.pos h (Ev.bnd0 rfl (Ev.pos (by omega) ?_))
      have := ih (n / 10) (strOfNums [48 + n % 10] ++ s) hf (by omega) (by rw [size_append]; omega)
      simp only [mtGo]
      rw [if_pos h]
      exact this
    · simp only [mtGo]
      rw [if_neg h]
      exact Ev.neg h (Ev.pos (by omega) (Ev.some_ rfl))
theorem laws_markText_ev (n : Int) (hn : n ≤ 1000000000000) : Ev (fun k => laws_markText.f k n) (mt n) := by
  simp only [laws_markText.f]
  unfold mt
  by_cases h : n ≤ 0
  · rw [if_pos h]
    exact Ev.pos h (Ev.now _)
  · rw [if_neg h]
    exact Ev.neg h (laws_markText_l0 13 n _ (fitsT hn) hn (by decide))
def mkR (m : Int) (j : Nat) : S48 := ⟨m + 3 * j, m + 3 * j + 1, mt (m + 3 * j + 2)⟩
theorem rdR_nat (l : List S48) (i : Nat) (h : i < l.length) : rd_T48 l (i : Int) = l[i] := by
  simp [rd_T48, List.getD, List.getElem?_eq_getElem h]
theorem rdR_set (l : List S48) (i : Nat) (v : S48) (h : i < l.length) : rd_T48 (l.set ((i : Int)).toNat v) (i : Int) = v := by
  rw [rdR_nat _ i (by rw [List.length_set]; exact h)]
  simp
theorem laws_eqRecS_refl (l : List S48) (hl : l.length ≤ 1048576) : Ev (fun k => laws_eqRecS.f k l l) true := by
  simp only [laws_eqRecS.f]
  refine Ev.pos (by first | rfl | trivial) ?_
  have key : ∀ (n i : Nat), i + n = l.length → Ev (fun k => laws_eqRecS.l0 k l l (i : Int)) true := by
    intro n
    induction n with
    | zero =>
      intro i hi
      refine Ev.succ ?_
      simp only [laws_eqRecS.l0]
      exact Ev.neg (by omega) (Ev.now _)
    | succ n ih =>
      intro i hi
      refine Ev.succ ?_
      simp only [laws_eqRecS.l0]
      rw [up1 i (by omega)]
      refine Ev.pos (by omega) (Ev.pos (by omega) (Ev.pos (by omega) (Ev.bnd0 (a := true) ?_ (Ev.pos rfl (ih (i + 1) (by omega))))))
      unfold laws_eqRec.f
      rw [if_pos rfl, if_pos rfl, if_pos rfl]
  exact key l.length 0 (by omega)
def ofR (x : S52) : S48 := ⟨x.f0, x.f1, x.f2⟩
theorem rdR0_nat (l : List S52) (i : Nat) (h : i < l.length) : rd_T52 l (i : Int) = l[i] := by
  simp [rd_T52, List.getD, List.getElem?_eq_getElem h]
theorem laws_toRecS_ev (l : List S52) (hl : l.length ≤ 1048576) : Ev (fun k => laws_toRecS.f k l) (l.map ofR) := by
  have key : ∀ (n i : Nat) (x : List S48), i + n = l.length → x.length = l.length → (∀ j, j < i → x[j]? = (l.map ofR)[j]?) → Ev (fun k => laws_toRecS.l0 k l x (i : Int)) (l.map ofR) := by
    intro n
    induction n with
    | zero =>
      intro i x hi hx hj
      refine Ev.succ ?_
      simp only [laws_toRecS.l0]
      refine Ev.neg (by omega) (Ev.some_ ?_)
      apply List.ext_getElem?
      intro j
      by_cases h : j < i
      · exact hj j h
      · rw [List.getElem?_eq_none (by omega), List.getElem?_eq_none (by rw [List.length_map]; omega)]
    | succ n ih =>
      intro i x hi hx hj
      refine Ev.succ ?_
      simp only [laws_toRecS.l0]
      refine Ev.pos (by omega) (Ev.pos (by omega) (Ev.bnd0 rfl (Ev.pos (by omega) ?_)))
      rw [up1 i (by omega), Int.toNat_natCast]
      refine ih (i + 1) _ (by omega) (by rw [List.length_set]; exact hx) ?_
      intro j hj'
      by_cases h : j = i
      · subst h
        rw [List.getElem?_set_self (by omega), List.getElem?_map, List.getElem?_eq_getElem (show j < l.length by omega), rdR0_nat l j (by omega)]
        rfl
      · rw [List.getElem?_set_ne (by omega)]
        exact hj j (by omega)
  simp only [laws_toRecS.f]
  exact Ev.pos (by omega) (Ev.pos (by omega) (key l.length 0 _ (by omega) (by simp) (fun j h => absurd h (by omega))))
/-! a list of records run over a state -/
def runL {α β : Type} (step : β → α → Option β) : List α → β → Option β
  | [], s => some s
  | r :: l, s => (step s r).bind (runL step l)
theorem runL_append {α β : Type} (step : β → α → Option β) : ∀ (a b : List α) (s : β), runL step (a ++ b) s = (runL step a s).bind (runL step b)
  | [], _, _ => rfl
  | r :: a, b, s => by
    simp only [List.cons_append, runL]
    cases step s r with
    | none => rfl
    | some t => exact runL_append step a b t
/-- Two lists that rise and hold the same are one. -/
theorem rise_eq : ∀ (a b : List Int), a.Pairwise (· < ·) → b.Pairwise (· < ·) → (∀ x, x ∈ a ↔ x ∈ b) → a = b
  | [], [], _, _, _ => rfl
  | [], y :: b, _, _, h => absurd ((h y).2 (by simp)) (by simp)
  | x :: a, [], _, _, h => absurd ((h x).1 (by simp)) (by simp)
  | x :: a, y :: b, ha, hb, h => by
    obtain ⟨ha1, ha2⟩ := List.pairwise_cons.1 ha
    obtain ⟨hb1, hb2⟩ := List.pairwise_cons.1 hb
    have e : x = y := by
      rcases List.mem_cons.1 ((h x).1 (by simp)) with e | e
      · exact e
      · rcases List.mem_cons.1 ((h y).2 (by simp)) with e2 | e2
        · exact e2.symm
        · have := hb1 x e; have := ha1 y e2; omega
    subst e
    rw [rise_eq a b ha2 hb2 (fun z => ?_)]
    constructor
    · intro hz
      rcases List.mem_cons.1 ((h z).1 (List.mem_cons_of_mem _ hz)) with e | e
      · have := ha1 z hz; omega
      · exact e
    · intro hz
      rcases List.mem_cons.1 ((h z).2 (List.mem_cons_of_mem _ hz)) with e | e
      · have := hb1 z hz; omega
      · exact e
theorem rise_nodup {a : List Int} (h : a.Pairwise (· < ·)) : a.Nodup := h.imp (fun h => by omega)
theorem rise_len : ∀ (l : List Int) (lo hi : Int), l.Pairwise (· < ·) → (∀ x ∈ l, lo ≤ x ∧ x < hi) → lo ≤ hi → (l.length : Int) ≤ hi - lo
  | [], lo, hi, _, _, h => by simp; omega
  | x :: l, lo, hi, hp, hb, h => by
    obtain ⟨h1, h2⟩ := List.pairwise_cons.1 hp
    have hx := hb x (by simp)
    have := rise_len l (x + 1) hi h2 (fun y hy => ⟨by have := h1 y hy; omega, (hb y (List.mem_cons_of_mem _ hy)).2⟩) (by omega)
    simp only [List.length_cons]
    omega
theorem sort_rise {d e : List Int} (hd : d.Nodup) (he : e.Pairwise (· < ·)) (h : ∀ x, x ∈ d ↔ x ∈ e) : d.mergeSort (fun x y => decide (x ≤ y)) = e := by
  have hp := List.mergeSort_perm d (fun x y => decide (x ≤ y))
  have hs : (d.mergeSort (fun x y => decide (x ≤ y))).Pairwise (fun x y => decide (x ≤ y) = true) := List.pairwise_mergeSort (fun a b c h1 h2 => by simp only [decide_eq_true_eq] at *; omega) (fun a b => by simp only [Bool.or_eq_true, decide_eq_true_eq]; omega) d
  have hn : (d.mergeSort (fun x y => decide (x ≤ y))).Nodup := hp.nodup_iff.2 hd
  refine rise_eq _ _ ?_ he (fun x => by rw [hp.mem_iff]; exact h x)
  exact (hs.and hn).imp (fun h => by simp only [decide_eq_true_eq] at h; omega)
/-- A number put into a list that rises. -/
def withL (d : List Int) (x : Int) : List Int := (d.filter fun y => decide (y < x)) ++ [x] ++ (d.filter fun y => decide (y > x))
theorem withL_mem (d : List Int) (x y : Int) : y ∈ withL d x ↔ y = x ∨ y ∈ d := by
  simp only [withL, List.mem_append, List.mem_filter, List.mem_singleton, decide_eq_true_eq]
  constructor
  · rintro ((⟨h, _⟩ | h) | ⟨h, _⟩)
    · exact .inr h
    · exact .inl h
    · exact .inr h
  · rintro (h | h)
    · exact .inl (.inr h)
    · by_cases c : y < x
      · exact .inl (.inl ⟨h, c⟩)
      · by_cases c2 : y = x
        · exact .inl (.inr c2)
        · exact .inr ⟨h, by omega⟩
theorem withL_rise (d : List Int) (x : Int) (h : d.Pairwise (· < ·)) : (withL d x).Pairwise (· < ·) := by
  unfold withL
  rw [List.append_assoc, List.pairwise_append]
  refine ⟨h.filter _, ?_, ?_⟩
  · rw [List.singleton_append, List.pairwise_cons]
    exact ⟨fun y hy => by simp at hy; omega, h.filter _⟩
  · intro a ha b hb
    simp only [List.mem_filter, decide_eq_true_eq] at ha
    simp only [List.singleton_append, List.mem_cons, List.mem_filter, decide_eq_true_eq] at hb
    rcases hb with hb | hb <;> omega
theorem withL_length (d : List Int) (x : Int) : (withL d x).length ≤ 2 * d.length + 1 := by
  have a := List.length_filter_le (fun y => decide (y < x)) d
  have b := List.length_filter_le (fun y => decide (y > x)) d
  simp only [withL, List.length_append, List.length_cons, List.length_nil]
  omega
def ixL (v : Int) : List Int → Int → Int
  | [], _ => -1
  | x :: l, i => if v = x then i else ixL v l (i + 1)
theorem ixL_mem (v : Int) : ∀ (l : List Int) (i : Int), (v ∈ l → ∃ j : Nat, ixL v l i = i + j ∧ j < l.length ∧ l.eraseIdx j = l.erase v) ∧ (v ∉ l → ixL v l i = -1)
  | [], _ => ⟨fun h => absurd h (by simp), fun _ => rfl⟩
  | x :: l, i => by
    by_cases h : v = x
    · subst h
      exact ⟨fun _ => ⟨0, by simp [ixL], by simp, by simp⟩, fun hn => absurd List.mem_cons_self hn⟩
    · obtain ⟨h1, h2⟩ := ixL_mem v l (i + 1)
      have e : ixL v (x :: l) i = ixL v l (i + 1) := by simp only [ixL]; rw [if_neg h]
      rw [e]
      refine ⟨fun hm => ?_, fun hn => h2 (fun hm => hn (List.mem_cons_of_mem _ hm))⟩
      obtain ⟨j, e1, e2, e3⟩ := h1 (by rcases List.mem_cons.1 hm with hm | hm; exact absurd hm h; exact hm)
      refine ⟨j + 1, by rw [e1]; omega, by simp only [List.length_cons]; omega, ?_⟩
      rw [List.eraseIdx_cons_succ, e3, List.erase_cons_tail (by simpa using fun e => h e.symm)]
theorem slices_Index_ev (d : List Int) (v : Int) (hl : d.length ≤ 140737488351232) : Ev (fun k => slices_Index_int_int.f k d v) (ixL v d 0) := by
  simp only [slices_Index_int_int.f]
  have key : ∀ (n i : Nat), i + n = d.length → Ev (fun k => slices_Index_int_int.l0 k d v (d.length : Int) (i : Int)) (ixL v (d.drop i) (i : Int)) := by
    intro n
    induction n with
    | zero =>
      intro i hi
      refine Ev.succ ?_
      simp only [slices_Index_int_int.l0]
      rw [drop_end d i (by omega)]
      exact Ev.neg (by omega) (Ev.now _)
    | succ n ih =>
      intro i hi
      refine Ev.succ ?_
      simp only [slices_Index_int_int.l0]
      rw [drop_rd d i (by omega), up1 i (by omega)]
      by_cases h : v = rd d (i : Int)
      · refine Ev_eq (Ev.pos (by omega) (Ev.pos (by omega) (Ev.pos (by omega) (Ev.pos h (Ev.now _))))) ?_
        simp only [ixL]
        rw [if_pos h]
      · refine Ev_eq (Ev.pos (by omega) (Ev.pos (by omega) (Ev.pos (by omega) (Ev.neg h (ih (i + 1) (by omega)))))) ?_
        simp only [ixL]
        rw [if_neg h]
        rfl
  exact key d.length 0 (by omega)
/-- What the walker's mark gives. -/
def markR (o : Bool) (c : Int) (d : List Int) (kind v : Int) : Bool × Bool × Int × List Int :=
  if kind = 2 then (if o = true then (false, o, c, d) else (true, true, v, d)) else
  if kind = 3 then (if o = true then (if c = v then (true, false, c, d) else (false, o, c, d)) else (false, o, c, d)) else
  if kind = 4 then (if v ∈ d then (false, o, c, d) else (true, o, c, d ++ [v])) else
  if kind = 5 then (if v ∈ d then (true, o, c, d.erase v) else (false, o, c, d)) else
  if kind = 1 then (o, o, c, d) else (false, o, c, d)
theorem impl_mark_ev (o : Bool) (c : Int) (d : List Int) (kind v : Int) (hd : d.length ≤ 1048576) : Ev (fun k => impl_walker_mark.f k o c d kind v) (markR o c d kind v) := by
  simp only [impl_walker_mark.f]
  refine Ev.bnd (slices_Index_ev d v (by omega)) ?_
  have hm := ixL_mem v d 0
  unfold markR
  by_cases h2 : kind = 2
  · refine Ev_eq ?_ (if_pos h2).symm
    refine Ev.pos h2 ?_
    by_cases h : o = true
    · refine Ev_eq ?_ (if_pos h).symm
      exact Ev.pos h (Ev.now _)
    · refine Ev_eq ?_ (if_neg h).symm
      exact Ev.neg h (Ev.now _)
  refine Ev_eq ?_ (if_neg h2).symm
  refine Ev.neg h2 ?_
  by_cases h3 : kind = 3
  · refine Ev_eq ?_ (if_pos h3).symm
    refine Ev.pos h3 ?_
    by_cases h : o = true
    · refine Ev_eq ?_ (if_pos h).symm
      refine Ev.pos h ?_
      by_cases h4 : c = v
      · refine Ev_eq ?_ (if_pos h4).symm
        exact Ev.pos h4 (Ev.now _)
      · refine Ev_eq ?_ (if_neg h4).symm
        exact Ev.neg h4 (Ev.now _)
    · refine Ev_eq ?_ (if_neg h).symm
      exact Ev.neg h (Ev.now _)
  refine Ev_eq ?_ (if_neg h3).symm
  refine Ev.neg h3 ?_
  by_cases h4 : kind = 4
  · refine Ev_eq ?_ (if_pos h4).symm
    refine Ev.pos h4 ?_
    by_cases h : v ∈ d
    · refine Ev_eq ?_ (if_pos h).symm
      obtain ⟨j, e, _⟩ := hm.1 h
      exact Ev.pos (by omega) (Ev.now _)
    · refine Ev_eq ?_ (if_neg h).symm
      have e := hm.2 h
      exact Ev.neg (by omega) (Ev.now _)
  refine Ev_eq ?_ (if_neg h4).symm
  refine Ev.neg h4 ?_
  by_cases h5 : kind = 5
  · refine Ev_eq ?_ (if_pos h5).symm
    refine Ev.pos h5 ?_
    by_cases h : v ∈ d
    · refine Ev_eq ?_ (if_pos h).symm
      obtain ⟨j, e, e2, e3⟩ := hm.1 h
      have ej : (ixL v d 0).toNat = j := by omega
      exact Ev.neg (by omega) (Ev.pos (by omega) (Ev.some_ (by rw [ej, e3])))
    · refine Ev_eq ?_ (if_neg h).symm
      have e := hm.2 h
      exact Ev.pos (by omega) (Ev.now _)
  refine Ev_eq ?_ (if_neg h5).symm
  refine Ev.neg h5 ?_
  by_cases h1 : kind = 1
  · refine Ev_eq ?_ (if_pos h1).symm
    exact Ev.pos h1 (Ev.now _)
  · refine Ev_eq ?_ (if_neg h1).symm
    exact Ev.neg h1 (Ev.now _)
def without (d : List Int) (v : Int) : List Int := d.filter fun x => decide (x ≠ v)
theorem without_length (d : List Int) (v : Int) : (without d v).length ≤ d.length := List.length_filter_le _ _
theorem spec_l07Without_ev (d : List Int) (v : Int) (hl : d.length ≤ 1048576) : Ev (fun k => spec_l07Without.f k d v) (without d v) := by
  simp only [spec_l07Without.f]
  have key : ∀ (n i : Nat) (a : List Int), i + n = d.length → a.length ≤ i → Ev (fun k => spec_l07Without.l0 k d v a (i : Int)) (a ++ without (d.drop i) v) := by
    intro n
    induction n with
    | zero =>
      intro i a hi ha
      refine Ev.succ ?_
      simp only [spec_l07Without.l0]
      rw [drop_end d i (by omega)]
      exact Ev.neg (by omega) (Ev.some_ (by simp [without]))
    | succ n ih =>
      intro i a hi ha
      refine Ev.succ ?_
      simp only [spec_l07Without.l0]
      rw [drop_rd d i (by omega), up1 i (by omega)]
      by_cases h : rd d (i : Int) = v
      · refine Ev_eq (Ev.pos (by omega) (Ev.pos (by omega) (Ev.pos h (ih (i + 1) a (by omega) (by omega))))) ?_
        simp [without, h]
      · refine Ev_eq (Ev.pos (by omega) (Ev.pos (by omega) (Ev.neg h (Ev.pos (by omega) (ih (i + 1) (a ++ [rd d (i : Int)]) (by omega) (by simp; omega)))))) ?_
        simp [without, h]
  have := key d.length 0 [] (by omega) (by simp)
  simpa using this
/-- What the making of a weave out of records keeps: the counts, the bodies, is one open, of which version, the dels. -/
structure Sig where
  born : List Int
  bs : List S55
  o : Bool
  i : Int
  d : List Int
def sig0 (n : Nat) (i : Int) : Sig := ⟨List.replicate n 0, [], false, i, []⟩
/-- One record, on the program's side. -/
def stepI (n : Nat) (s : Sig) (r : S48) : Option Sig :=
  if (markR s.o s.i s.d r.f0 r.f1).1 = true then
    (if r.f0 = 1 then
      (if 0 ≤ (markR s.o s.i s.d r.f0 r.f1).2.2.1 ∧ (markR s.o s.i s.d r.f0 r.f1).2.2.1 ≤ (n : Int) - 1 then
        some ⟨s.born.set (markR s.o s.i s.d r.f0 r.f1).2.2.1.toNat (rd s.born (markR s.o s.i s.d r.f0 r.f1).2.2.1 + 1), s.bs ++ [⟨r.f2, (markR s.o s.i s.d r.f0 r.f1).2.2.1, rd s.born (markR s.o s.i s.d r.f0 r.f1).2.2.1, (markR s.o s.i s.d r.f0 r.f1).2.2.2.mergeSort (fun x y => decide (x ≤ y))⟩], (markR s.o s.i s.d r.f0 r.f1).2.1, (markR s.o s.i s.d r.f0 r.f1).2.2.1, (markR s.o s.i s.d r.f0 r.f1).2.2.2⟩
       else none)
     else some ⟨s.born, s.bs, (markR s.o s.i s.d r.f0 r.f1).2.1, (markR s.o s.i s.d r.f0 r.f1).2.2.1, (markR s.o s.i s.d r.f0 r.f1).2.2.2⟩)
  else none
/-- One record, on the reference's side, ahead of the limits. -/
def coreS (n : Nat) (s : Sig) (r : S48) : Option Sig :=
  if r.f0 = 2 then some { s with i := r.f1 } else
  if r.f0 = 3 then some { s with i := -1 } else
  if r.f0 = 4 then some { s with d := withL s.d r.f1 } else
  if r.f0 = 5 then some { s with d := without s.d r.f1 } else
  if r.f0 = 1 then (if 0 ≤ s.i ∧ s.i ≤ (n : Int) - 1 then some { s with born := s.born.set s.i.toNat (rd s.born s.i + 1), bs := s.bs ++ [⟨r.f2, s.i, rd s.born s.i, s.d⟩] } else none) else some s
def stepS (n : Nat) (s : Sig) (r : S48) : Option Sig :=
  (coreS n s r).bind fun t => if t.d.length > 40 then none else if t.bs.length > 300 then none else some t
/-- Bodies as a right weave has them, where so many of each version were before. -/
def wfB (n : Nat) : List Int → List S55 → Prop
  | _, [] => True
  | born, b :: l => (0 ≤ b.f1 ∧ b.f1 ≤ (n : Int) - 1) ∧ b.f2 = rd born b.f1 ∧ b.f3.Pairwise (· < ·) ∧ (∀ x ∈ b.f3, 0 ≤ x ∧ x < (n : Int)) ∧ wfB n (born.set b.f1.toNat (rd born b.f1 + 1)) l
/-! the program's side -/
theorem runI_ends (n : Nat) : ∀ (hs : List Int) (s : Sig), hs.Nodup → (∀ x ∈ hs, x ∈ s.d) → s.d.Nodup → ∃ d', runL (stepI n) (hs.map (recM 5)) s = some { s with d := d' } ∧ d'.Nodup ∧ ∀ x, x ∈ d' ↔ x ∈ s.d ∧ x ∉ hs
  | [], s, _, _, hn => ⟨s.d, rfl, hn, fun x => by simp⟩
  | h :: hs, s, h1, h2, hn => by
    obtain ⟨h3, h4⟩ := List.nodup_cons.1 h1
    have hm : h ∈ s.d := h2 h (by simp)
    have he : stepI n s (recM 5 h) = some { s with d := s.d.erase h } := by
      simp [stepI, recM, markR, hm]
    obtain ⟨d', e1, e2, e3⟩ := runI_ends n hs { s with d := s.d.erase h } h4 (fun x hx => by
      show x ∈ s.d.erase h
      rw [hn.mem_erase_iff]
      exact ⟨fun e => h3 (e ▸ hx), h2 x (List.mem_cons_of_mem _ hx)⟩) (hn.erase h)
    refine ⟨d', ?_, e2, fun x => ?_⟩
    · simp only [List.map_cons, runL, he, Option.bind_some]
      exact e1
    · rw [e3 x]
      show x ∈ s.d.erase h ∧ _ ↔ _
      rw [hn.mem_erase_iff, List.mem_cons, not_or]
      exact ⟨fun ⟨⟨a, b⟩, c⟩ => ⟨b, a, c⟩, fun ⟨b, a, c⟩ => ⟨⟨a, b⟩, c⟩⟩
theorem runI_dels (n : Nat) : ∀ (hs : List Int) (s : Sig), hs.Nodup → (∀ x ∈ hs, x ∉ s.d) → s.d.Nodup → ∃ d', runL (stepI n) (hs.map (recM 4)) s = some { s with d := d' } ∧ d'.Nodup ∧ ∀ x, x ∈ d' ↔ x ∈ s.d ∨ x ∈ hs
  | [], s, _, _, hn => ⟨s.d, rfl, hn, fun x => by simp⟩
  | h :: hs, s, h1, h2, hn => by
    obtain ⟨h3, h4⟩ := List.nodup_cons.1 h1
    have hm : h ∉ s.d := h2 h (by simp)
    have he : stepI n s (recM 4 h) = some { s with d := s.d ++ [h] } := by
      simp [stepI, recM, markR, hm]
    obtain ⟨d', e1, e2, e3⟩ := runI_dels n hs { s with d := s.d ++ [h] } h4 (fun x hx => by
      show x ∉ s.d ++ [h]
      rw [List.mem_append, List.mem_singleton, not_or]
      exact ⟨h2 x (List.mem_cons_of_mem _ hx), fun e => h3 (e ▸ hx)⟩) (by
      show (s.d ++ [h]).Nodup
      rw [List.nodup_append]
      exact ⟨hn, by simp, fun a ha b hb e => by rw [List.mem_singleton] at hb; subst hb; subst e; exact hm ha⟩)
    refine ⟨d', ?_, e2, fun x => ?_⟩
    · simp only [List.map_cons, runL, he, Option.bind_some]
      exact e1
    · rw [e3 x]
      show x ∈ s.d ++ [h] ∨ _ ↔ _
      rw [List.mem_append, List.mem_singleton, List.mem_cons, or_assoc]
def OkI (i : Int) (s : Sig) : Prop := (0 ≤ i ∧ s.o = true ∧ s.i = i) ∨ (i = -1 ∧ s.o = false)
theorem runI_mid (n : Nat) (i1 i2 : Int) (s : Sig) (h1 : OkI i1 s) (h2 : 0 ≤ i2 ∨ i2 = -1) : ∃ o i, runL (stepI n) (midL i1 i2) s = some { s with o := o, i := i } ∧ OkI i2 { s with o := o, i := i } := by
  unfold midL
  by_cases c : i1 = i2
  · subst c
    exact ⟨s.o, s.i, by simp [runL], h1⟩
  · rw [if_neg c]
    rcases h1 with ⟨a1, a2, a3⟩ | ⟨a1, a2⟩
    · rw [if_pos a1]
      have he : stepI n s (recM 3 i1) = some { s with o := false } := by
        simp [stepI, recM, markR, a2, a3]
      rcases h2 with b | b
      · rw [if_pos b]
        refine ⟨true, i2, ?_, .inl ⟨b, rfl, rfl⟩⟩
        simp only [List.singleton_append, runL, he, Option.bind_some]
        simp [stepI, recM, markR]
      · rw [if_neg (by omega)]
        refine ⟨false, s.i, ?_, .inr ⟨b, rfl⟩⟩
        simp only [List.append_nil, runL, he, Option.bind_some]
    · rw [if_neg (by omega)]
      rcases h2 with b | b
      · rw [if_pos b]
        refine ⟨true, i2, ?_, .inl ⟨b, rfl, rfl⟩⟩
        simp only [List.nil_append, runL]
        simp [stepI, recM, markR, a2]
      · omega
theorem head_mem (d1 d2 : List Int) (x : Int) : x ∈ d1.reverse.filter (fun d => !inB d2 d) ↔ x ∈ d1 ∧ x ∉ d2 := by
  rw [List.mem_filter, List.mem_reverse]
  simp [inB]
theorem tail_mem (d1 d2 : List Int) (x : Int) : x ∈ d2.filter (fun d => !inB d1 d) ↔ x ∈ d2 ∧ x ∉ d1 := by
  rw [List.mem_filter]
  simp [inB]
theorem runI_marks (n : Nat) (i1 : Int) (d1 : List Int) (i2 : Int) (d2 : List Int) (s : Sig) (hd1 : d1.Nodup) (hd2 : d2.Nodup) (hs : s.d.Nodup) (hm : ∀ x, x ∈ s.d ↔ x ∈ d1) (h1 : OkI i1 s) (h2 : 0 ≤ i2 ∨ i2 = -1) :
    ∃ t : Sig, runL (stepI n) (marksL i1 d1 i2 d2) s = some t ∧ t.born = s.born ∧ t.bs = s.bs ∧ OkI i2 t ∧ t.d.Nodup ∧ ∀ x, x ∈ t.d ↔ x ∈ d2 := by
  unfold marksL headL tailL
  obtain ⟨da, a1, a2, a3⟩ := runI_ends n (d1.reverse.filter fun d => !inB d2 d) s (((List.reverse_perm d1).nodup_iff.2 hd1).filter _) (fun x hx => (hm x).2 ((head_mem d1 d2 x).1 hx).1) hs
  obtain ⟨o, i, b1, b2⟩ := runI_mid n i1 i2 { s with d := da } h1 h2
  obtain ⟨db, c1, c2, c3⟩ := runI_dels n (d2.filter fun d => !inB d1 d) { s with d := da, o := o, i := i } (hd2.filter _) (fun x hx hx2 => ((tail_mem d1 d2 x).1 hx).2 ((hm x).1 ((a3 x).1 hx2).1)) a2
  refine ⟨{ s with d := db, o := o, i := i }, by rw [runL_append, a1, Option.bind_some, runL_append, b1, Option.bind_some]; exact c1, rfl, rfl, b2, c2, fun x => ?_⟩
  show x ∈ db ↔ _
  rw [c3 x, tail_mem]
  show x ∈ da ∨ _ ↔ _
  rw [a3 x, head_mem, hm x]
  constructor
  · rintro (⟨h, h2⟩ | h)
    · by_cases c : x ∈ d2
      · exact c
      · exact absurd ⟨h, c⟩ h2
    · exact h.1
  · intro h
    by_cases c : x ∈ d1
    · exact .inl ⟨c, fun q => q.2 h⟩
    · exact .inr ⟨h, c⟩
theorem runI_recs (n : Nat) : ∀ (bl : List S55) (i : Int) (d : List Int) (s : Sig), wfB n s.born bl → d.Nodup → s.d.Nodup → (∀ x, x ∈ s.d ↔ x ∈ d) → OkI i s → ∃ t : Sig, runL (stepI n) (recsL i d bl) s = some t ∧ t.bs = s.bs ++ bl
  | [], i, d, s, _, hd, hs, hm, ho => by
    obtain ⟨t, h1, _, h3, _⟩ := runI_marks n i d (-1) [] s hd (by simp) hs hm ho (.inr rfl)
    exact ⟨t, h1, by rw [h3, List.append_nil]⟩
  | b :: bl, i, d, s, hw, hd, hs, hm, ho => by
    obtain ⟨w1, w2, w3, w4, w5⟩ := hw
    obtain ⟨t, h1, h2, h3, h4, h5, h6⟩ := runI_marks n i d b.f1 b.f3 s hd (rise_nodup w3) hs hm ho (.inl w1.1)
    obtain ⟨_, o2, o3⟩ | ⟨o1, _⟩ := h4
    · have he : stepI n t ⟨1, 0, b.f0⟩ = some { t with born := t.born.set b.f1.toNat (rd t.born b.f1 + 1), bs := t.bs ++ [b] } := by
        have hb : (⟨b.f0, b.f1, b.f2, b.f3⟩ : S55) = b := rfl
        have hq := sort_rise h5 w3 h6
        have hk : markR t.o t.i t.d 1 0 = (true, true, b.f1, t.d) := by simp [markR, o2, o3]
        simp only [stepI]
        rw [hk, if_pos rfl, if_pos trivial, if_pos w1, hq, h2, ← w2]
        simp only [o2, o3]
      obtain ⟨u, u1, u2⟩ := runI_recs n bl b.f1 b.f3 { t with born := t.born.set b.f1.toNat (rd t.born b.f1 + 1), bs := t.bs ++ [b] } (by rw [h2]; exact w5) (rise_nodup w3) h5 h6 (.inl ⟨w1.1, o2, o3⟩)
      refine ⟨u, ?_, ?_⟩
      · unfold recsL
        rw [runL_append, h1, Option.bind_some]
        simp only [runL]
        rw [he, Option.bind_some, u1]
      · rw [u2]
        show (t.bs ++ [b]) ++ bl = _
        rw [h3, List.append_assoc, List.singleton_append]
    · omega
/-! the reference's side -/
def InvS (n : Nat) (s : Sig) : Prop := s.d.Pairwise (· < ·) ∧ (∀ x ∈ s.d, 0 ≤ x ∧ x < (n : Int)) ∧ s.bs.length ≤ 300
theorem InvS.fit {n : Nat} (hn : n ≤ 40) {s : Sig} (h : InvS n s) : s.d.length ≤ 40 := by
  have := rise_len s.d 0 (n : Int) h.1 h.2.1 (by omega)
  omega
theorem stepS_some {n : Nat} (hn : n ≤ 40) {s t : Sig} {r : S48} (h : coreS n s r = some t) (ht : InvS n t) : stepS n s r = some t := by
  have h2 := ht.fit hn
  have h3 := ht.2.2
  simp only [stepS, h, Option.bind_some]
  rw [if_neg (by omega), if_neg (by omega)]
theorem without_mem (d : List Int) (v x : Int) : x ∈ without d v ↔ x ∈ d ∧ x ≠ v := by simp [without]
theorem runS_ends (n : Nat) (hn : n ≤ 40) : ∀ (hs : List Int) (s : Sig), InvS n s → ∃ d', runL (stepS n) (hs.map (recM 5)) s = some { s with d := d' } ∧ InvS n { s with d := d' } ∧ ∀ x, x ∈ d' ↔ x ∈ s.d ∧ x ∉ hs
  | [], s, hi => ⟨s.d, rfl, hi, fun x => by simp⟩
  | h :: hs, s, hi => by
    have hj : InvS n { s with d := without s.d h } := ⟨hi.1.filter _, fun x hx => hi.2.1 x ((without_mem _ _ _).1 hx).1, hi.2.2⟩
    have he : stepS n s (recM 5 h) = some { s with d := without s.d h } := stepS_some hn (by simp [coreS, recM]) hj
    obtain ⟨d', e1, e2, e3⟩ := runS_ends n hn hs { s with d := without s.d h } hj
    refine ⟨d', ?_, e2, fun x => ?_⟩
    · simp only [List.map_cons, runL, he, Option.bind_some]
      exact e1
    · rw [e3 x]
      show x ∈ without s.d h ∧ _ ↔ _
      rw [without_mem, List.mem_cons, not_or, and_assoc]
theorem runS_dels (n : Nat) (hn : n ≤ 40) : ∀ (hs : List Int) (s : Sig), InvS n s → (∀ x ∈ hs, 0 ≤ x ∧ x < (n : Int)) → ∃ d', runL (stepS n) (hs.map (recM 4)) s = some { s with d := d' } ∧ InvS n { s with d := d' } ∧ ∀ x, x ∈ d' ↔ x ∈ s.d ∨ x ∈ hs
  | [], s, hi, _ => ⟨s.d, rfl, hi, fun x => by simp⟩
  | h :: hs, s, hi, hb => by
    have hj : InvS n { s with d := withL s.d h } := ⟨withL_rise _ _ hi.1, fun x hx => by
      rcases (withL_mem _ _ _).1 hx with e | e
      · rw [e]; exact hb h (by simp)
      · exact hi.2.1 x e, hi.2.2⟩
    have he : stepS n s (recM 4 h) = some { s with d := withL s.d h } := stepS_some hn (by simp [coreS, recM]) hj
    obtain ⟨d', e1, e2, e3⟩ := runS_dels n hn hs { s with d := withL s.d h } hj (fun x hx => hb x (List.mem_cons_of_mem _ hx))
    refine ⟨d', ?_, e2, fun x => ?_⟩
    · simp only [List.map_cons, runL, he, Option.bind_some]
      exact e1
    · rw [e3 x]
      show x ∈ withL s.d h ∨ _ ↔ _
      rw [withL_mem, List.mem_cons]
      constructor
      · rintro ((h | h) | h)
        · exact .inr (.inl h)
        · exact .inl h
        · exact .inr (.inr h)
      · rintro (h | h | h)
        · exact .inl (.inr h)
        · exact .inl (.inl h)
        · exact .inr h
theorem runS_mid (n : Nat) (hn : n ≤ 40) (i1 i2 : Int) (s : Sig) (hi : InvS n s) (h1 : s.i = i1) (h0 : 0 ≤ i1 ∨ i1 = -1) (h2 : 0 ≤ i2 ∨ i2 = -1) : runL (stepS n) (midL i1 i2) s = some { s with i := i2 } := by
  subst h1
  unfold midL
  by_cases c : s.i = i2
  · rw [if_pos c, ← c]
    rfl
  · rw [if_neg c]
    have hj : ∀ v, InvS n { s with i := v } := fun v => hi
    have e3 : ∀ v, stepS n s (recM 3 v) = some { s with i := -1 } := fun v => stepS_some hn (by simp [coreS, recM]) (hj _)
    have e2 : ∀ t : Sig, InvS n t → ∀ v, stepS n t (recM 2 v) = some { t with i := v } := fun t ht v => stepS_some hn (by simp [coreS, recM]) ht
    by_cases a : s.i ≥ 0
    · rw [if_pos a]
      by_cases b : i2 ≥ 0
      · rw [if_pos b]
        simp only [List.singleton_append, runL, e3, Option.bind_some]
        rw [e2 _ (hj (-1)) i2]
        rfl
      · rw [if_neg b]
        simp only [List.append_nil, runL, e3, Option.bind_some]
        rw [show i2 = -1 by omega]
    · rw [if_neg a]
      by_cases b : i2 ≥ 0
      · rw [if_pos b]
        simp only [List.nil_append, runL, e2 s hi, Option.bind_some]
      · omega
theorem runS_marks (n : Nat) (hn : n ≤ 40) (i1 : Int) (d1 : List Int) (i2 : Int) (d2 : List Int) (s : Sig) (hi : InvS n s) (hm : ∀ x, x ∈ s.d ↔ x ∈ d1) (hb : ∀ x ∈ d2, 0 ≤ x ∧ x < (n : Int)) (h1 : s.i = i1) (h0 : 0 ≤ i1 ∨ i1 = -1) (h2 : 0 ≤ i2 ∨ i2 = -1) :
    ∃ t : Sig, runL (stepS n) (marksL i1 d1 i2 d2) s = some t ∧ t.born = s.born ∧ t.bs = s.bs ∧ t.i = i2 ∧ InvS n t ∧ ∀ x, x ∈ t.d ↔ x ∈ d2 := by
  unfold marksL headL tailL
  obtain ⟨da, a1, a2, a3⟩ := runS_ends n hn (d1.reverse.filter fun d => !inB d2 d) s hi
  have b1 := runS_mid n hn i1 i2 { s with d := da } a2 h1 h0 h2
  obtain ⟨db, c1, c2, c3⟩ := runS_dels n hn (d2.filter fun d => !inB d1 d) { s with d := da, i := i2 } a2 (fun x hx => hb x ((tail_mem d1 d2 x).1 hx).1)
  refine ⟨{ s with d := db, i := i2 }, by rw [runL_append, a1, Option.bind_some, runL_append, b1, Option.bind_some]; exact c1, rfl, rfl, rfl, c2, fun x => ?_⟩
  show x ∈ db ↔ _
  rw [c3 x, tail_mem]
  show x ∈ da ∨ _ ↔ _
  rw [a3 x, head_mem, hm x]
  constructor
  · rintro (⟨h, h2⟩ | h)
    · by_cases c : x ∈ d2
      · exact c
      · exact absurd ⟨h, c⟩ h2
    · exact h.1
  · intro h
    by_cases c : x ∈ d1
    · exact .inl ⟨c, fun q => q.2 h⟩
    · exact .inr ⟨h, c⟩
theorem runS_recs (n : Nat) (hn : n ≤ 40) : ∀ (bl : List S55) (i : Int) (d : List Int) (s : Sig), wfB n s.born bl → InvS n s → (∀ x, x ∈ s.d ↔ x ∈ d) → s.i = i → 0 ≤ i ∨ i = -1 → s.bs.length + bl.length ≤ 300 → ∃ t : Sig, runL (stepS n) (recsL i d bl) s = some t ∧ t.bs = s.bs ++ bl
  | [], i, d, s, _, hi, hm, h1, h0, _ => by
    obtain ⟨t, a1, _, a3, _⟩ := runS_marks n hn i d (-1) [] s hi hm (by simp) h1 h0 (.inr rfl)
    exact ⟨t, a1, by rw [a3, List.append_nil]⟩
  | b :: bl, i, d, s, hw, hi, hm, h1, h0, hl => by
    obtain ⟨w1, w2, w3, w4, w5⟩ := hw
    obtain ⟨t, a1, a2, a3, a4, a5, a6⟩ := runS_marks n hn i d b.f1 b.f3 s hi hm w4 h1 h0 (.inl w1.1)
    have hd : t.d = b.f3 := rise_eq _ _ a5.1 w3 a6
    simp only [List.length_cons] at hl
    have hj : InvS n { t with born := t.born.set b.f1.toNat (rd t.born b.f1 + 1), bs := t.bs ++ [b] } := ⟨a5.1, a5.2.1, by show (t.bs ++ [b]).length ≤ 300; rw [a3, List.length_append, List.length_singleton]; omega⟩
    have he : stepS n t ⟨1, 0, b.f0⟩ = some { t with born := t.born.set b.f1.toNat (rd t.born b.f1 + 1), bs := t.bs ++ [b] } := by
      refine stepS_some hn ?_ hj
      have hb : (⟨b.f0, b.f1, b.f2, b.f3⟩ : S55) = b := rfl
      simp only [coreS]
      rw [if_neg (by decide), if_neg (by decide), if_neg (by decide), if_neg (by decide), if_pos trivial, a4, if_pos w1, hd, a2, ← w2]
    obtain ⟨u, u1, u2⟩ := runS_recs n hn bl b.f1 b.f3 { t with born := t.born.set b.f1.toNat (rd t.born b.f1 + 1), bs := t.bs ++ [b] } (by rw [a2]; exact w5) hj a6 a4 (.inl w1.1) (by show (t.bs ++ [b]).length + _ ≤ _; rw [a3, List.length_append, List.length_singleton]; omega)
    refine ⟨u, ?_, ?_⟩
    · unfold recsL
      rw [runL_append, a1, Option.bind_some]
      simp only [runL]
      rw [he, Option.bind_some, u1]
    · rw [u2]
      show (t.bs ++ [b]) ++ bl = _
      rw [a3, List.append_assoc, List.singleton_append]
theorem drop_rdR (l : List S48) (i : Nat) (h : i < l.length) : l.drop i = rd_T48 l (i : Int) :: l.drop (i + 1) := by
  rw [List.drop_eq_getElem_cons h, rdR_nat l i h]
theorem laws_eqIntS_refl (l : List Int) (hl : l.length ≤ 140737488351232) : Ev (fun k => laws_eqIntS.f k l l) true := by
  simp only [laws_eqIntS.f]
  refine Ev.pos (by first | rfl | trivial) ?_
  have key : ∀ (n i : Nat), i + n = l.length → Ev (fun k => laws_eqIntS.l0 k l l (i : Int)) true := by
    intro n
    induction n with
    | zero =>
      intro i hi
      refine Ev.succ ?_
      simp only [laws_eqIntS.l0]
      exact Ev.neg (by omega) (Ev.now _)
    | succ n ih =>
      intro i hi
      refine Ev.succ ?_
      simp only [laws_eqIntS.l0]
      have e : wrap64 ((i : Int) + 1) = ((i + 1 : Nat) : Int) := by rw [w64 (by omega) (by omega)]; omega
      rw [e]
      exact Ev.pos (by omega) (Ev.pos (by omega) (Ev.pos (by omega) (Ev.pos (by first | rfl | trivial) (ih (i + 1) (by omega)))))
  exact key l.length 0 (by omega)

theorem laws_eqIntSS_refl (l : List (List Int)) (hl : l.length ≤ 140737488351232) (hx : ∀ x ∈ l, x.length ≤ 140737488351232) : Ev (fun k => laws_eqIntSS.f k l l) true := by
  simp only [laws_eqIntSS.f]
  refine Ev.pos (by first | rfl | trivial) ?_
  have key : ∀ (n i : Nat), i + n = l.length → Ev (fun k => laws_eqIntSS.l0 k l l (i : Int)) true := by
    intro n
    induction n with
    | zero =>
      intro i hi
      refine Ev.succ ?_
      simp only [laws_eqIntSS.l0]
      exact Ev.neg (by omega) (Ev.now _)
    | succ n ih =>
      intro i hi
      refine Ev.succ ?_
      simp only [laws_eqIntSS.l0]
      refine Ev.pos (by omega) (Ev.pos (by omega) (Ev.pos (by omega) ?_))
      rw [up1 i (by omega)]
      have hr : rd_L1 l (i : Int) = l[i]'(by omega) := by simp [rd_L1, List.getD, List.getElem?_eq_getElem (show i < l.length by omega)]
      rw [hr]
      exact Ev.bnd (laws_eqIntS_refl _ (hx _ (List.getElem_mem _))) (Ev.pos (by first | rfl | trivial) (ih (i + 1) (by omega)))
  exact key l.length 0 (by omega)
theorem laws_eqBodyS_refl (l : List S55) (hl : l.length ≤ 140737488351232) (hx : ∀ x ∈ l, x.f3.length ≤ 140737488351232) : Ev (fun k => laws_eqBodyS.f k l l) true := by
  simp only [laws_eqBodyS.f]
  refine Ev.pos (by first | rfl | trivial) ?_
  have key : ∀ (n i : Nat), i + n = l.length → Ev (fun k => laws_eqBodyS.l0 k l l (i : Int)) true := by
    intro n
    induction n with
    | zero =>
      intro i hi
      refine Ev.succ ?_
      simp only [laws_eqBodyS.l0]
      exact Ev.neg (by omega) (Ev.now _)
    | succ n ih =>
      intro i hi
      refine Ev.succ ?_
      simp only [laws_eqBodyS.l0]
      have hr : rd_T55 l (i : Int) = l[i]'(by omega) := by simp [rd_T55, List.getD, List.getElem?_eq_getElem (show i < l.length by omega)]
      refine Ev.pos (by omega) (Ev.pos (by omega) (Ev.pos (by omega) ?_))
      rw [up1 i (by omega), hr]
      simp only [laws_eqBody.f]
      exact Ev.bnd (Ev.pos (by first | rfl | trivial) (Ev.pos (by first | rfl | trivial) (Ev.pos (by first | rfl | trivial) (Ev.bnd (laws_eqIntS_refl _ (hx _ (List.getElem_mem _))) (Ev.pos rfl (Ev.now _)))))) (Ev.pos rfl (ih (i + 1) (by omega)))
  exact key l.length 0 (by omega)
theorem laws_eqWeave_refl (p : List (List Int)) (b : List S55) (h : Fine p b) : Ev (fun k => laws_eqWeave.f k p b p b) true := by
  obtain ⟨h1, h2, h3, h4⟩ := h
  simp only [laws_eqWeave.f]
  exact Ev.bnd (laws_eqIntSS_refl p (by omega) (fun x hx => by have := h2 x hx; omega)) (Ev.pos rfl (Ev.bnd (laws_eqBodyS_refl b (by omega) (fun x hx => by have := (h4 x hx).2; omega)) (Ev.pos rfl (Ev.now _))))
theorem laws_toIntS_l0 (l : List Int) (hl : l.length ≤ 140737488351232) : ∀ (n i : Nat) (x : List Int), i + n = l.length → x.length = l.length → (∀ j, j < i → x[j]? = l[j]?) → Ev (fun k => laws_toIntS.l0 k l x (i : Int)) l := by
  intro n
  induction n with
  | zero =>
    intro i x hi hx hj
    refine Ev.succ ?_
    simp only [laws_toIntS.l0]
    refine Ev.neg (by omega) (Ev.some_ ?_)
    apply List.ext_getElem?
    intro j
    by_cases h : j < i
    · exact hj j h
    · rw [List.getElem?_eq_none (by omega), List.getElem?_eq_none (by omega)]
  | succ n ih =>
    intro i x hi hx hj
    refine Ev.succ ?_
    simp only [laws_toIntS.l0]
    refine Ev.pos (by omega) (Ev.pos (by omega) (Ev.pos (by omega) ?_))
    have e : wrap64 ((i : Int) + 1) = ((i + 1 : Nat) : Int) := by rw [w64 (by omega) (by omega)]; omega
    have e2 : ((i : Int)).toNat = i := by omega
    rw [e, e2]
    refine ih (i + 1) _ (by omega) (by rw [List.length_set]; exact hx) ?_
    intro j hj'
    by_cases h : j = i
    · subst h
      rw [List.getElem?_set_self (by omega)]
      simp [rd, List.getD, List.getElem?_eq_getElem (show j < l.length by omega)]
    · rw [List.getElem?_set_ne (by omega)]
      exact hj j (by omega)
theorem laws_toIntS_ev (l : List Int) (hl : l.length ≤ 35184372088832) : Ev (fun k => laws_toIntS.f k l) l := by
  simp only [laws_toIntS.f]
  refine Ev.pos (by omega) (Ev.pos (by omega) ?_)
  exact laws_toIntS_l0 l (by omega) l.length 0 _ (by omega) (by simp) (fun j h => absurd h (by omega))

theorem laws_toIntSS_ev (l : List (List Int)) (hl : l.length ≤ 11728124029610) (hx : ∀ x ∈ l, x.length ≤ 35184372088832) : Ev (fun k => laws_toIntSS.f k l) l := by
  simp only [laws_toIntSS.f]
  refine Ev.pos (by omega) (Ev.pos (by omega) ?_)
  have key : ∀ (n i : Nat) (x : List (List Int)), i + n = l.length → x.length = l.length → (∀ j, j < i → x[j]? = l[j]?) → Ev (fun k => laws_toIntSS.l0 k l x (i : Int)) l := by
    intro n
    induction n with
    | zero =>
      intro i x hi hx hj
      refine Ev.succ ?_
      simp only [laws_toIntSS.l0]
      refine Ev.neg (by omega) (Ev.some_ ?_)
      apply List.ext_getElem?
      intro j
      by_cases h : j < i
      · exact hj j h
      · rw [List.getElem?_eq_none (by omega), List.getElem?_eq_none (by omega)]
    | succ n ih =>
      intro i x hi hx' hj
      refine Ev.succ ?_
      simp only [laws_toIntSS.l0]
      have hr : rd_L1 l (i : Int) = l[i]'(by omega) := by simp [rd_L1, List.getD, List.getElem?_eq_getElem (show i < l.length by omega)]
      refine Ev.pos (by omega) (Ev.pos (by omega) ?_)
      rw [up1 i (by omega), hr]
      refine Ev.bnd (laws_toIntS_ev _ (hx _ (List.getElem_mem _))) (Ev.pos (by omega) ?_)
      have e2 : ((i : Int)).toNat = i := by omega
      rw [e2]
      refine ih (i + 1) _ (by omega) (by rw [List.length_set]; exact hx') ?_
      intro j hj'
      by_cases h : j = i
      · subst h
        rw [List.getElem?_set_self (by omega), List.getElem?_eq_getElem (by omega)]
      · rw [List.getElem?_set_ne (by omega)]
        exact hj j (by omega)
  exact key l.length 0 _ (by omega) (by simp) (fun j h => absurd h (by omega))
theorem sumN_bound : ∀ (l : List (List Int)), (∀ x ∈ l, x.length ≤ 1048576) → Go.Proofs.YtmodgiingohphaaGreatH.sumN (l.map List.length) ≤ l.length * 1048576
  | [], _ => by simp [Go.Proofs.YtmodgiingohphaaGreatH.sumN]
  | x :: l, h => by
    have h1 := h x (by simp)
    have h2 := sumN_bound l (fun y hy => h y (List.mem_cons_of_mem _ hy))
    simp only [List.map_cons, Go.Proofs.YtmodgiingohphaaGreatH.sumN, List.length_cons]
    omega
theorem laws_markIntSS_eq (l : List (List Int)) (m : Int) (hm0 : 0 ≤ m) (hm : m ≤ 1152921504606846976) (hl : l.length ≤ 1048576) (hx : ∀ x ∈ l, x.length ≤ 1048576) : ∃ r, laws_markIntSS.f l m = some r ∧ m ≤ r ∧ r ≤ m + 1099511627776 := by
  have h := sumN_bound l hx
  refine ⟨m + Go.Proofs.YtmodgiingohphaaGreatH.sumN (l.map List.length), ?_, by omega, by omega⟩
  unfold laws_markIntSS.f
  rw [if_pos ⟨hm0, by omega⟩]
theorem up_mono {α : Type} {g : Nat → Option α} (hm : ∀ k, LeO (g k) (g (k + 1))) {k : Nat} {r : α} (h : g k = some r) : Ev g r := by
  refine ⟨k, fun n hn => ?_⟩
  obtain ⟨j, rfl⟩ := Nat.exists_eq_add_of_le hn
  induction j with
  | zero => exact h
  | succ j ih => exact hm (k + j) r (ih (by omega))
theorem Ev_ex {α : Type} {g : Nat → Option α} {r q : α} (h : Ev g r) (h2 : Ev g q) : r = q := by
  obtain ⟨k1, e1⟩ := h
  obtain ⟨k2, e2⟩ := h2
  have a := e1 (k1 + k2) (by omega)
  have b := e2 (k1 + k2) (by omega)
  rw [a] at b
  exact Option.some.inj b
theorem txtOf_mt (x : Int) (h0 : 0 ≤ x) (h1 : x ≤ 1000000000000) : txtOf x = mt x :=
  Ev_ex (up_mono (laws_markText.mono x) (txt_some x h0 (by omega))) (laws_markText_ev x h1)
theorem kMarks_rd : ∀ (l : List Int) (a : Int) (i : Nat), i < l.length → rd (kMarks a l) (i : Int) = a + i
  | [], _, _, h => absurd h (by simp)
  | x :: l, a, 0, _ => by simp [kMarks, rd]
  | x :: l, a, i + 1, h => by
    have := kMarks_rd l (a + 1) i (by simpa using h)
    simp only [rd, kMarks] at this ⊢
    rw [Int.toNat_natCast] at this
    rw [Int.toNat_natCast, List.getD_cons_succ, this]
    omega
theorem laws_heldIntS_k (a : Int) (l : List Int) (h0 : 0 ≤ a) (h1 : a + l.length ≤ 1000000000000) : Ev (fun k => laws_heldIntS.f k (kMarks a l) a) (a + l.length) := by
  have key : ∀ (n i : Nat), i + n = l.length → Ev (fun k => laws_heldIntS.l0 k (kMarks a l) (a + i) (i : Int)) (a + l.length) := by
    intro n
    induction n with
    | zero =>
      intro i hi
      refine Ev.succ ?_
      simp only [laws_heldIntS.l0]
      rw [kMarks_length]
      exact Ev.neg (by omega) (Ev.some_ (by omega))
    | succ n ih =>
      intro i hi
      refine Ev.succ ?_
      simp only [laws_heldIntS.l0]
      rw [kMarks_length, kMarks_rd l a i (by omega), up1 i (by omega), w64 (show -9223372036854775808 ≤ a + (i : Int) + 1 by omega) (by omega)]
      refine Ev.pos (by omega) (Ev.pos (by omega) (Ev.pos rfl ?_))
      have := ih (i + 1) (by omega)
      rw [show a + (i : Int) + 1 = a + ((i + 1 : Nat) : Int) by omega]
      exact this
  simp only [laws_heldIntS.f]
  have := key l.length 0 (by omega)
  simpa using this
theorem marksLL_at : ∀ (l : List (List Int)) (a : Int) (i : Nat) (h : i < l.length), (marksLL a l).getD i [] = kMarks (a + lensL (l.take i)) (l[i])
  | [], _, _, h => absurd h (by simp)
  | x :: l, a, 0, _ => by simp [marksLL, lensL]
  | x :: l, a, i + 1, h => by
    have := marksLL_at l (a + x.length) i (by simpa using h)
    simp only [marksLL, List.getD_cons_succ, this, List.take_succ_cons, lensL, List.getElem_cons_succ]
    rw [show a + (x.length : Int) + (lensL (l.take i) : Int) = a + ((x.length + lensL (l.take i) : Nat) : Int) by omega]
theorem laws_heldIntSS_k (a : Int) (l : List (List Int)) (h0 : 0 ≤ a) (h1 : a + lensL l ≤ 1000000000000) (hl : l.length ≤ 1048576) : Ev (fun k => laws_heldIntSS.f k (marksLL a l) a) (a + lensL l) := by
  have key : ∀ (n i : Nat), i + n = l.length → Ev (fun k => laws_heldIntSS.l0 k (marksLL a l) (a + lensL (l.take i)) (i : Int)) (a + lensL l) := by
    intro n
    induction n with
    | zero =>
      intro i hi
      refine Ev.succ ?_
      simp only [laws_heldIntSS.l0]
      rw [marksLL_length, List.take_of_length_le (by omega)]
      exact Ev.neg (by omega) (Ev.now _)
    | succ n ih =>
      intro i hi
      have hs := lensL_take l i (by omega)
      have hle := lensL_le l (i + 1)
      have hg : l.getD i [] = l[i]'(by omega) := by simp [List.getD, List.getElem?_eq_getElem (show i < l.length by omega)]
      rw [hg] at hs
      refine Ev.succ ?_
      simp only [laws_heldIntSS.l0]
      rw [marksLL_length, up1 i (by omega)]
      have hr : rd_L1 (marksLL a l) (i : Int) = kMarks (a + lensL (l.take i)) (l[i]'(by omega)) := by
        rw [← marksLL_at l a i (by omega)]
        simp [rd_L1]
      rw [hr]
      refine Ev.pos (by omega) (Ev.pos (by omega) (Ev.bnd (laws_heldIntS_k _ _ (by omega) (by omega)) (Ev.neg (by omega) ?_)))
      have := ih (i + 1) (by omega)
      rw [show a + (lensL (l.take i) : Int) + ((l[i]'(by omega)).length : Int) = a + (lensL (l.take (i + 1)) : Int) by omega]
      exact this
  simp only [laws_heldIntSS.f]
  have := key l.length 0 (by omega)
  simpa [lensL] using this
theorem marksBB_at : ∀ (l : List S55) (a : Int) (i : Nat) (h : i < l.length), (marksBB a l)[i]? = some (markB (a + lenB (l.take i)) (l[i]))
  | [], _, _, h => absurd h (by simp)
  | x :: l, a, 0, _ => by simp [marksBB, lenB]
  | x :: l, a, i + 1, h => by
    have := marksBB_at l (a + (x.f3.length + 3 : Nat)) i (by simpa using h)
    simp only [marksBB, List.getElem?_cons_succ, this, List.take_succ_cons, lenB, List.getElem_cons_succ]
    rw [show a + ((x.f3.length + 3 : Nat) : Int) + (lenB (l.take i) : Int) = a + ((x.f3.length + 3 + lenB (l.take i) : Nat) : Int) by omega]
theorem laws_heldBodyS_k (a : Int) (l : List S55) (h0 : 0 ≤ a) (h1 : a + lenB l ≤ 1000000000000) (hl : l.length ≤ 1048576) : Ev (fun k => laws_heldBodyS.f k (marksBB a l) a) (a + lenB l) := by
  have key : ∀ (n i : Nat), i + n = l.length → Ev (fun k => laws_heldBodyS.l0 k (marksBB a l) (a + lenB (l.take i)) (i : Int)) (a + lenB l) := by
    intro n
    induction n with
    | zero =>
      intro i hi
      refine Ev.succ ?_
      simp only [laws_heldBodyS.l0]
      rw [marksBB_length, List.take_of_length_le (by omega)]
      exact Ev.neg (by omega) (Ev.now _)
    | succ n ih =>
      intro i hi
      have hs := lenB_take l i (l[i]'(by omega)) (by omega)
      have hle := lenB_le l (i + 1)
      have hg : l.getD i (l[i]'(by omega)) = l[i]'(by omega) := by simp [List.getD, List.getElem?_eq_getElem (show i < l.length by omega)]
      rw [hg] at hs
      refine Ev.succ ?_
      simp only [laws_heldBodyS.l0]
      rw [marksBB_length, up1 i (by omega)]
      have hr : rd_T55 (marksBB a l) (i : Int) = markB (a + lenB (l.take i)) (l[i]'(by omega)) := by
        simp [rd_T55, List.getD, marksBB_at l a i (by omega)]
      rw [hr]
      obtain ⟨x, hx⟩ : ∃ x : Int, x = a + lenB (l.take i) := ⟨_, rfl⟩
      rw [← hx]
      simp only [markB]
      rw [w64 (show -9223372036854775808 ≤ x + 1 by omega) (by omega), w64 (show -9223372036854775808 ≤ x + 1 + 1 by omega) (by omega), w64 (show -9223372036854775808 ≤ x + 1 + 1 + 1 by omega) (by omega)]
      refine Ev.pos (by omega) (Ev.pos (by omega) (Ev.bnd (laws_markText_ev x (by omega)) (Ev.pos (by rw [txtOf_mt x (by omega) (by omega)]) (Ev.pos rfl (Ev.pos rfl (Ev.bnd (laws_heldIntS_k _ _ (by omega) (by omega)) (Ev.neg (by omega) ?_)))))))
      have := ih (i + 1) (by omega)
      rw [show x + 1 + 1 + 1 + ((l[i]'(by omega)).f3.length : Int) = a + (lenB (l.take (i + 1)) : Int) by omega]
      exact this
  simp only [laws_heldBodyS.f]
  have := key l.length 0 (by omega)
  simpa [lenB] using this
theorem laws_heldWeave_k (p : List (List Int)) (b : List S55) (h1 : 1 + (lensL p : Int) + lenB b ≤ 1000000000000) (hp : p.length ≤ 1048576) (hb : b.length ≤ 1048576) : Ev (fun k => laws_heldWeave.f k (marksLL 1 p) (marksBB (1 + lensL p) b) 1) (1 + lensL p + lenB b) := by
  simp only [laws_heldWeave.f]
  exact Ev.bnd (laws_heldIntSS_k 1 p (by omega) (by omega) hp) (Ev.neg (by omega) (Ev.bnd (laws_heldBodyS_k _ b (by omega) (by omega) hb) (Ev.neg (by omega) (Ev.now _))))
noncomputable instance recDec : DecidableEq S48 := fun _ _ => Classical.propDecidable _
/-- A right graph is copied. -/
theorem impl_copyGraph_ev (ps : List (List Int)) (hp : ps.length ≤ 1048576) (hx : ∀ r ∈ ps, r.length ≤ 1048576) : Ev (fun k => impl_copyGraph.f k ps) ps := by
  have key : ∀ (n i : Nat) (acc : List (List Int)), i + n = ps.length → acc.length ≤ i → Ev (fun k => impl_copyGraph.l0 k acc ps (ps.length : Int) (i : Int)) (acc ++ ps.drop i) := by
    intro n
    induction n with
    | zero =>
      intro i acc hi ha
      refine Ev.succ ?_
      simp only [impl_copyGraph.l0]
      rw [List.drop_eq_nil_of_le (by omega), List.append_nil]
      exact Ev.neg (by omega) (Ev.now _)
    | succ n ih =>
      intro i acc hi ha
      refine Ev.succ ?_
      simp only [impl_copyGraph.l0]
      have hr := hx _ (List.getElem_mem (show i < ps.length by omega))
      rw [rdL_nat ps i (by omega), up1 i (by omega), List.drop_eq_getElem_cons (show i < ps.length by omega)]
      refine Ev.pos (by omega) (Ev.pos (by omega) (Ev.pos (by omega) (Ev.bnd0 (a := ps[i]) (by unfold slices_Clone_int_int.f; rw [if_pos (by omega)]) (Ev.pos (by omega) ?_))))
      exact Ev_eq (ih (i + 1) _ (by omega) (by simp; omega)) (by simp)
  simp only [impl_copyGraph.f]
  exact Ev_eq (key ps.length 0 [] (by omega) (by simp)) (by simp)
theorem rec_eqB (a b : S48) : (!(a.f0 == b.f0) || (!(a.f1 == b.f1) || !(a.f2.toList == b.f2.toList))) = !decide (a = b) := by
  obtain ⟨a0, a1, a2⟩ := a
  obtain ⟨b0, b1, b2⟩ := b
  have h2 : (a2.toList == b2.toList) = decide (a2 = b2) := by
    rw [Bool.eq_iff_iff, beq_iff_eq, decide_eq_true_iff]
    exact toList_iff a2 b2
  simp only [h2]
  by_cases c0 : a0 = b0
  · by_cases c1 : a1 = b1
    · by_cases c2 : a2 = b2
      · simp [c0, c1, c2]
      · simp [c0, c1, c2]
    · simp [c0, c1]
  · simp [c0]
theorem drop_eqB {a b : List S48} (i : Nat) (ha : i < a.length) (hb : i < b.length) : decide (a.drop i = b.drop i) = (decide (a[i] = b[i]) && decide (a.drop (i + 1) = b.drop (i + 1))) := by
  rw [Bool.eq_iff_iff]
  simp only [Bool.and_eq_true, decide_eq_true_iff]
  rw [List.drop_eq_getElem_cons ha, List.drop_eq_getElem_cons hb, List.cons.injEq]
theorem impl_eqRec_ev (a b : List S48) (ha : a.length ≤ 1000000000000) : Ev (fun k => impl_Rec.f k a b) (decide (a = b)) := by
  simp only [impl_Rec.f]
  by_cases h : (a.length : Int) = (b.length : Int)
  · have hl : a.length = b.length := by omega
    refine Ev.pos h ?_
    have key : ∀ (n i : Nat), i + n = a.length → Ev (fun k => impl_Rec.l0 k a b (a.length : Int) (i : Int)) (decide (a.drop i = b.drop i)) := by
      intro n
      induction n with
      | zero =>
        intro i hi
        refine Ev.succ ?_
        simp only [impl_Rec.l0]
        rw [List.drop_eq_nil_of_le (by omega), List.drop_eq_nil_of_le (by omega)]
        exact Ev.neg (by omega) (Ev.some_ (by simp))
      | succ n ih =>
        intro i hi
        refine Ev.succ ?_
        simp only [impl_Rec.l0]
        rw [rdR_nat a i (by omega), rdR_nat b i (by omega), rec_eqB, up1 i (by omega), drop_eqB i (by omega) (by omega)]
        refine Ev.pos (by omega) (Ev.pos (by omega) (Ev.pos (by omega) (Ev.pos (by omega) ?_)))
        by_cases c : a[i]'(by omega) = b[i]'(by omega)
        · exact Ev.neg (by simp [c]) (Ev_eq (ih (i + 1) (by omega)) (by simp [c]))
        · exact Ev.pos (by simp [c]) (Ev.some_ (by simp [c]))
    exact key a.length 0 (by omega)
  · refine Ev.neg h (Ev.some_ ?_)
    rw [eq_comm, decide_eq_false_iff_not]
    rintro rfl
    exact h rfl
theorem spec_l07Same_ev (a b : List S48) (ha : a.length ≤ 1000000000000) : Ev (fun k => spec_l07Same.f k a b) (decide (a = b)) := by
  simp only [spec_l07Same.f]
  by_cases h : (a.length : Int) = (b.length : Int)
  · have hl : a.length = b.length := by omega
    refine Ev.pos h ?_
    have key : ∀ (n i : Nat), i + n = a.length → Ev (fun k => spec_l07Same.l0 k a b (i : Int)) (decide (a.drop i = b.drop i)) := by
      intro n
      induction n with
      | zero =>
        intro i hi
        refine Ev.succ ?_
        simp only [spec_l07Same.l0]
        rw [List.drop_eq_nil_of_le (by omega), List.drop_eq_nil_of_le (by omega)]
        exact Ev.neg (by omega) (Ev.some_ (by simp))
      | succ n ih =>
        intro i hi
        refine Ev.succ ?_
        simp only [spec_l07Same.l0]
        rw [rdR_nat a i (by omega), rdR_nat b i (by omega), rec_eqB, up1 i (by omega), drop_eqB i (by omega) (by omega)]
        refine Ev.pos (by omega) (Ev.pos (by omega) (Ev.pos (by omega) ?_))
        by_cases c : a[i]'(by omega) = b[i]'(by omega)
        · exact Ev.neg (by simp [c]) (Ev_eq (ih (i + 1) (by omega)) (by simp [c]))
        · exact Ev.pos (by simp [c]) (Ev.some_ (by simp [c]))
    exact key a.length 0 (by omega)
  · refine Ev.neg h (Ev.some_ ?_)
    rw [eq_comm, decide_eq_false_iff_not]
    rintro rfl
    exact h rfl
theorem spec_l07With_ev (d : List Int) (v : Int) (hl : d.length ≤ 1048576) : Ev (fun k => spec_l07With.f k d v) (withL d v) := by
  have key1 : ∀ (n i : Nat) (a : List Int), i + n = d.length → a.length ≤ 1048577 + i → Ev (fun k => spec_l07With.l1 k d v a (i : Int)) (a ++ (d.drop i).filter fun y => decide (y > v)) := by
    intro n
    induction n with
    | zero =>
      intro i a hi ha
      refine Ev.succ ?_
      simp only [spec_l07With.l1]
      rw [drop_end d i (by omega)]
      exact Ev.neg (by omega) (Ev.some_ (by simp))
    | succ n ih =>
      intro i a hi ha
      refine Ev.succ ?_
      simp only [spec_l07With.l1]
      rw [drop_rd d i (by omega), up1 i (by omega)]
      by_cases h : rd d (i : Int) > v
      · refine Ev_eq (Ev.pos (by omega) (Ev.pos (by omega) (Ev.pos h (Ev.pos (by omega) (ih (i + 1) (a ++ [rd d (i : Int)]) (by omega) (by simp; omega)))))) ?_
        simp [h]
      · refine Ev_eq (Ev.pos (by omega) (Ev.pos (by omega) (Ev.neg h (ih (i + 1) a (by omega) (by omega))))) ?_
        simp [h]
  have key0 : ∀ (n i : Nat) (a : List Int), i + n = d.length → a.length ≤ i → Ev (fun k => spec_l07With.l0 k d v a (i : Int)) (a ++ ((d.drop i).filter fun y => decide (y < v)) ++ [v] ++ d.filter fun y => decide (y > v)) := by
    intro n
    induction n with
    | zero =>
      intro i a hi ha
      refine Ev.succ ?_
      simp only [spec_l07With.l0]
      rw [drop_end d i (by omega)]
      exact Ev.neg (by omega) (Ev.pos (by omega) (Ev_eq (key1 d.length 0 (a ++ [v]) (by omega) (by simp; omega)) (by simp)))
    | succ n ih =>
      intro i a hi ha
      refine Ev.succ ?_
      simp only [spec_l07With.l0]
      rw [drop_rd d i (by omega), up1 i (by omega)]
      by_cases h : rd d (i : Int) < v
      · refine Ev_eq (Ev.pos (by omega) (Ev.pos (by omega) (Ev.pos h (Ev.pos (by omega) (ih (i + 1) (a ++ [rd d (i : Int)]) (by omega) (by simp; omega)))))) ?_
        simp [h]
      · refine Ev_eq (Ev.pos (by omega) (Ev.pos (by omega) (Ev.neg h (ih (i + 1) a (by omega) (by omega))))) ?_
        simp [h]
  simp only [spec_l07With.f]
  exact Ev_eq (key0 d.length 0 [] (by omega) (by simp)) (by simp [withL])

theorem markR_len (o : Bool) (c : Int) (d : List Int) (kind v : Int) : (markR o c d kind v).2.2.2.length ≤ d.length + 1 := by
  have := List.length_erase_le (a := v) (l := d)
  unfold markR
  repeat' split
  all_goals simp
  all_goals omega
/-- What comes of a run: a weave, or none. -/
noncomputable def finR (ps : List (List Int)) (L : List S48) : Option Sig → List (List Int) × List S55 × Bool
  | none => ([], [], false)
  | some s => if weaveOk ps s.bs = true ∧ recsL (-1) [] s.bs = L then (ps, s.bs, true) else ([], [], false)
theorem finR_pos {ps : List (List Int)} {L : List S48} {s : Sig} (c : weaveOk ps s.bs = true) (e : recsL (-1) [] s.bs = L) : finR ps L (some s) = (ps, s.bs, true) := if_pos ⟨c, e⟩
theorem finR_neg {ps : List (List Int)} {L : List S48} {s : Sig} (h : ¬ (weaveOk ps s.bs = true ∧ recsL (-1) [] s.bs = L)) : finR ps L (some s) = ([], [], false) := if_neg h
theorem recsL_len : ∀ (bs : List S55) (i : Int) (d : List Int), (∀ b ∈ bs, b.f3.length ≤ 1048576) → d.length ≤ 1048576 → (recsL i d bs).length ≤ (bs.length + 1) * 2097160
  | [], i, d, _, hd => by
    have := marksL_length i d (-1) []
    simp only [recsL, List.length_nil] at this ⊢
    omega
  | b :: bs, i, d, h, hd => by
    have hb := h b (by simp)
    have := marksL_length i d b.f1 b.f3
    have ih := recsL_len bs b.f1 b.f3 (fun x hx => h x (List.mem_cons_of_mem _ hx)) hb
    simp only [recsL, List.length_append, List.length_cons]
    omega
def RecIn (s : Sig) (i n : Nat) : Prop := s.born.length = n ∧ Born s.born i ∧ s.bs.length ≤ i ∧ s.d.length ≤ 2 ^ 20 ∧ ∀ b ∈ s.bs, b.f0.size ≤ 1048576 ∧ b.f3.length ≤ 1048576
theorem Born.up {born : List Int} {i : Nat} (h : Born born i) : Born born (i + 1) := fun v hv => by have := h v hv; omega
section
variable (ps : List (List Int)) (L : List S48) (hg : graphOk ps = true) (hL : L.length ≤ 4000) (hLs : ∀ r ∈ L, r.f2.size ≤ 1048576)
include hg hL hLs
theorem fine_of (bs : List S55) (hb : bs.length ≤ 4000) (h : ∀ b ∈ bs, b.f0.size ≤ 1048576 ∧ b.f3.length ≤ 1048576) : Fine ps bs := by
  have := graphOk_len hg
  have _ := hLs
  have _ := hL
  exact ⟨by omega, fun x hx => by have := rows4 hg x hx; omega, by omega, h⟩
theorem impl_FR_l0_ev : ∀ (m i : Nat) (s : Sig), i + m = L.length → RecIn s i ps.length → s.d.length ≤ i → Ev (fun k => impl_FromRecords.l0 k ps L (ps.length : Int) s.born s.bs s.o s.i s.d (i : Int)) (finR ps L (runL (stepI ps.length) (L.drop i) s)) := by
  have hn := graphOk_len hg
  intro m
  induction m with
  | zero =>
    intro i s hi hr _
    obtain ⟨h1, h2, h3, h4, h5⟩ := hr
    have hf := fine_of ps L hg hL hLs s.bs (by omega) h5
    refine Ev.succ ?_
    simp only [impl_FromRecords.l0]
    rw [List.drop_eq_nil_of_le (by omega)]
    refine Ev.neg (by omega) (Ev.bnd (impl_WeaveOk_ev ps s.bs hf) ?_)
    simp only [runL]
    by_cases c : weaveOk ps s.bs = true
    · refine Ev.pos c (Ev.bnd (impl_records_ev ps s.bs hf) (Ev.bnd (impl_eqRec_ev _ L ?_) ?_))
      · have := recsL_len s.bs (-1) [] (fun b hb => (h5 b hb).2) (by simp)
        omega
      · by_cases e : recsL (-1) [] s.bs = L
        · rw [finR_pos c e]
          exact Ev.pos (by simp [e]) (Ev.now _)
        · rw [finR_neg (fun h => e h.2)]
          exact Ev.neg (by simp [e]) (Ev.now _)
    · rw [finR_neg (fun h => c h.1)]
      exact Ev.neg c (Ev.now _)
  | succ m ih =>
    intro i s hi hr hd
    obtain ⟨h1, h2, h3, h4, h5⟩ := hr
    have hrs := hLs _ (List.getElem_mem (show i < L.length by omega))
    refine Ev.succ ?_
    simp only [impl_FromRecords.l0]
    rw [drop_rdR L i (by omega), up1 i (by omega), ← rdR_nat L i (by omega)] at *
    generalize rd_T48 L (i : Int) = r at *
    simp only [runL, stepI]
    refine Ev.pos (by omega) (Ev.pos (by omega) (Ev.pos (by omega) (Ev.bnd (impl_mark_ev s.o s.i s.d r.f0 r.f1 (by omega)) ?_)))
    have hml := markR_len s.o s.i s.d r.f0 r.f1
    generalize markR s.o s.i s.d r.f0 r.f1 = q at hml ⊢
    by_cases c1 : q.1 = true
    · rw [if_pos c1]
      refine Ev.pos c1 ?_
      by_cases c2 : r.f0 = 1
      · rw [if_pos c2]
        refine Ev.pos c2 (Ev.bnd0 (impl_isPlace_eq q.2.2.1 ps.length (by omega)) ?_)
        by_cases c3 : 0 ≤ q.2.2.1 ∧ q.2.2.1 ≤ (ps.length : Int) - 1
        · obtain ⟨u, hu⟩ := Int.eq_ofNat_of_zero_le c3.1
          have hub := h2 u (by omega)
          rw [← hu] at hub
          rw [if_pos c3, Option.bind_some]
          refine Ev.pos (by simp [c3]) (Ev.pos c3.1 (Ev.pos (by omega) (Ev.bnd0 (a := q.2.2.2.mergeSort (fun x y => decide (x ≤ y))) (by unfold slices_Sorted_int.f; rw [if_pos (by omega)]) (Ev.pos (by omega) ?_))))
          rw [w64 (by omega) (by omega)]
          refine ih (i + 1) ⟨_, _, _, _, _⟩ (by omega) ⟨by rw [List.length_set]; exact h1, Born.step h2 (⟨r.f2, q.2.2.1, rd s.born q.2.2.1, []⟩ : S55) c3.1 (by show q.2.2.1 < _; omega), by simp; omega, by show q.2.2.2.length ≤ _; omega, ?_⟩ (by show q.2.2.2.length ≤ _; omega)
          intro b hb
          rcases List.mem_append.1 hb with hb | hb
          · exact h5 b hb
          · rw [List.mem_singleton] at hb
            subst hb
            exact ⟨hrs, by rw [List.length_mergeSort]; omega⟩
        · rw [if_neg c3, Option.bind_none]
          exact Ev.neg (by simpa using c3) (Ev.now _)
      · rw [if_neg c2, Option.bind_some]
        refine Ev.neg c2 ?_
        exact ih (i + 1) ⟨s.born, s.bs, q.2.1, q.2.2.1, q.2.2.2⟩ (by omega) ⟨h1, h2.up, by show s.bs.length ≤ _; omega, by show q.2.2.2.length ≤ _; omega, h5⟩ (by show q.2.2.2.length ≤ _; omega)
    · rw [if_neg c1, Option.bind_none]
      exact Ev.neg c1 (Ev.now _)
theorem spec_FR_step_ev (s : Sig) (i : Nat) (r : S48) (hi : i ≤ 4000) (hr : RecIn s i ps.length) : Ev (fun k => spec_FromRecords.step k (ps.length : Int) s.born s.bs s.i s.d r) ((coreS ps.length s r).map fun t => (t.born, t.bs, t.i, t.d)) := by
  have hn := graphOk_len hg
  have _ := hLs
  have _ := hL
  obtain ⟨h1, h2, h3, h4, h5⟩ := hr
  simp only [spec_FromRecords.step]
  by_cases c2 : r.f0 = 2
  · rw [show coreS ps.length s r = some { s with i := r.f1 } by simp [coreS, c2]]; exact Ev.pos c2 (Ev.now _)
  refine Ev.neg c2 ?_
  by_cases c3 : r.f0 = 3
  · rw [show coreS ps.length s r = some { s with i := -1 } by simp [coreS, c3]]; exact Ev.pos c3 (Ev.now _)
  refine Ev.neg c3 ?_
  by_cases c4 : r.f0 = 4
  · rw [show coreS ps.length s r = some { s with d := withL s.d r.f1 } by simp [coreS, c4]]; exact Ev.pos c4 (Ev.bnd (spec_l07With_ev s.d r.f1 (by omega)) (Ev.now _))
  refine Ev.neg c4 ?_
  by_cases c5 : r.f0 = 5
  · rw [show coreS ps.length s r = some { s with d := without s.d r.f1 } by simp [coreS, c5]]; exact Ev.pos c5 (Ev.bnd (spec_l07Without_ev s.d r.f1 (by omega)) (Ev.now _))
  refine Ev.neg c5 ?_
  by_cases c1 : r.f0 = 1
  · refine Ev.pos c1 ?_
    rw [w64 (by omega) (by omega)]
    refine Ev.bnd0 (spec_l01In_eq s.i 0 ((ps.length : Int) - 1)) ?_
    by_cases c6 : 0 ≤ s.i ∧ s.i ≤ (ps.length : Int) - 1
    · obtain ⟨u, hu⟩ := Int.eq_ofNat_of_zero_le c6.1
      have hub := h2 u (by omega)
      rw [← hu] at hub
      rw [show coreS ps.length s r = some { s with born := s.born.set s.i.toNat (rd s.born s.i + 1), bs := s.bs ++ [⟨r.f2, s.i, rd s.born s.i, s.d⟩] } by simp [coreS, c1, c6]]
      refine Ev.pos (by simp [c6]) (Ev.pos c6.1 (Ev.pos (by omega) (Ev.pos (by omega) (Ev.pos (by omega) (Ev.some_ ?_)))))
      rw [w64 (by omega) (by omega)]
      rfl
    · rw [show coreS ps.length s r = none by simp only [coreS]; rw [if_neg c2, if_neg c3, if_neg c4, if_neg c5, if_pos c1, if_neg c6]]
      exact Ev.neg (by simpa using c6) (Ev.now _)
  · rw [show coreS ps.length s r = some s by simp [coreS, c1, c2, c3, c4, c5]]
    exact Ev.neg c1 (Ev.now _)
theorem coreS_in {s t : Sig} {i : Nat} {r : S48} (hi : i < 4000) (hrs : r.f2.size ≤ 1048576) (hr : RecIn s i ps.length) (hd : s.d.length ≤ 40) (h : coreS ps.length s r = some t) : RecIn t (i + 1) ps.length := by
  have _ := hi
  have hn := graphOk_len hg
  have _ := hLs
  have _ := hL
  obtain ⟨h1, h2, h3, h4, h5⟩ := hr
  simp only [coreS] at h
  by_cases c2 : r.f0 = 2
  · rw [if_pos c2] at h; obtain rfl := Option.some.inj h; exact ⟨h1, h2.up, by show s.bs.length ≤ _; omega, h4, h5⟩
  rw [if_neg c2] at h
  by_cases c3 : r.f0 = 3
  · rw [if_pos c3] at h; obtain rfl := Option.some.inj h; exact ⟨h1, h2.up, by show s.bs.length ≤ _; omega, h4, h5⟩
  rw [if_neg c3] at h
  by_cases c4 : r.f0 = 4
  · rw [if_pos c4] at h
    obtain rfl := Option.some.inj h
    exact ⟨h1, h2.up, by show s.bs.length ≤ _; omega, by have := withL_length s.d r.f1; show (withL s.d r.f1).length ≤ _; omega, h5⟩
  rw [if_neg c4] at h
  by_cases c5 : r.f0 = 5
  · rw [if_pos c5] at h
    obtain rfl := Option.some.inj h
    exact ⟨h1, h2.up, by show s.bs.length ≤ _; omega, by have := without_length s.d r.f1; show (without s.d r.f1).length ≤ _; omega, h5⟩
  rw [if_neg c5] at h
  by_cases c1 : r.f0 = 1
  · rw [if_pos c1] at h
    by_cases c6 : 0 ≤ s.i ∧ s.i ≤ (ps.length : Int) - 1
    · rw [if_pos c6] at h
      obtain rfl := Option.some.inj h
      refine ⟨by show (s.born.set _ _).length = _; rw [List.length_set]; exact h1, Born.step h2 (⟨r.f2, s.i, rd s.born s.i, []⟩ : S55) c6.1 (by show s.i < _; omega), by simp; omega, h4, ?_⟩
      intro b hb
      rcases List.mem_append.1 hb with hb | hb
      · exact h5 b hb
      · rw [List.mem_singleton] at hb
        subst hb
        exact ⟨hrs, by show s.d.length ≤ _; omega⟩
    · rw [if_neg c6] at h
      exact absurd h (by simp)
  · rw [if_neg c1] at h
    obtain rfl := Option.some.inj h
    exact ⟨h1, h2.up, by omega, h4, h5⟩
theorem spec_FR_l1_ev : ∀ (m i : Nat) (s : Sig), i + m = L.length → RecIn s i ps.length → s.d.length ≤ 40 → Ev (fun k => spec_FromRecords.l1 k ps L (ps.length : Int) s.born s.bs s.i s.d (i : Int)) (finR ps L (runL (stepS ps.length) (L.drop i) s)) := by
  have hn := graphOk_len hg
  intro m
  induction m with
  | zero =>
    intro i s hi hr _
    obtain ⟨h1, h2, h3, h4, h5⟩ := hr
    have hf := fine_of ps L hg hL hLs s.bs (by omega) h5
    refine Ev.succ ?_
    simp only [spec_FromRecords.l1]
    rw [List.drop_eq_nil_of_le (by omega)]
    refine Ev.neg (by omega) ?_
    have hev := spec_Records_ev ps s.bs hf
    simp only [runL]
    by_cases c : weaveOk ps s.bs = true
    · by_cases c9 : ((recsL (-1) [] s.bs).length : Int) > 4000
      · rw [show recordsR ps s.bs = ([], false) by unfold recordsR; rw [if_pos c, if_pos c9]] at hev
        rw [finR_neg (fun h => by have := congrArg List.length h.2; omega)]
        exact Ev.bnd hev (Ev.neg (by simp) (Ev.now _))
      · rw [show recordsR ps s.bs = (recsL (-1) [] s.bs, true) by unfold recordsR; rw [if_pos c, if_neg c9]] at hev
        refine Ev.bnd hev (Ev.pos rfl (Ev.bnd (spec_l07Same_ev _ L (by show (recsL (-1) [] s.bs).length ≤ _; omega)) ?_))
        by_cases e : recsL (-1) [] s.bs = L
        · rw [finR_pos c e]
          exact Ev.pos (by simp [e]) (Ev.now _)
        · rw [finR_neg (fun h => e h.2)]
          exact Ev.neg (by simp [e]) (Ev.now _)
    · rw [show recordsR ps s.bs = ([], false) by unfold recordsR; rw [if_neg c]] at hev
      rw [finR_neg (fun h => c h.1)]
      exact Ev.bnd hev (Ev.neg (by simp) (Ev.now _))
  | succ m ih =>
    intro i s hi hr hd
    have hrs := hLs _ (List.getElem_mem (show i < L.length by omega))
    refine Ev.succ ?_
    simp only [spec_FromRecords.l1]
    rw [drop_rdR L i (by omega), up1 i (by omega), ← rdR_nat L i (by omega)] at *
    generalize rd_T48 L (i : Int) = r at *
    simp only [runL, stepS]
    refine Ev.pos (by omega) (Ev.pos (by omega) (Ev.bnd (spec_FR_step_ev ps L hg hL hLs s i r (by omega) hr) ?_))
    cases hc : coreS ps.length s r with
    | none => exact Ev.now _
    | some t =>
      have ht := coreS_in ps L hg hL hLs (by omega) hrs hr hd hc
      simp only [Option.map_some, Option.bind_some]
      by_cases c1 : (t.d.length : Int) > 40
      · rw [if_pos (by omega), Option.bind_none]
        exact Ev.pos c1 (Ev.now _)
      rw [if_neg (by omega)]
      refine Ev.neg c1 ?_
      by_cases c2 : (t.bs.length : Int) > 300
      · rw [if_pos (by omega), Option.bind_none]
        exact Ev.pos c2 (Ev.now _)
      rw [if_neg (by omega), Option.bind_some]
      exact Ev.neg c2 (ih (i + 1) t (by omega) ht (by omega))
end
theorem laws_szIntSS_ev (l : List (List Int)) (m : Int) (hm0 : 0 ≤ m) (hm : m ≤ 140737488351232) (hl : l.length ≤ 140737488351232) (hx : ∀ x ∈ l, x.length ≤ 140737488351232) : ∃ r, Ev (fun k => laws_szIntSS.f k l m) r ∧ (0 ≤ r → (l.length : Int) + r ≤ m ∧ ∀ x ∈ l, ((x.length : Nat) : Int) ≤ m) := by
  have key : ∀ (n i : Nat) (c : Int), i + n = l.length → 0 ≤ c → c ≤ 140737488351232 → ∃ r, Ev (fun k => laws_szIntSS.l0 k l c (i : Int)) r ∧ (0 ≤ r → r ≤ c ∧ ∀ x ∈ l.drop i, ((x.length : Nat) : Int) ≤ c) := by
    intro n
    induction n with
    | zero =>
      intro i c hi hc0 hc
      refine ⟨c, Ev.succ ?_, fun _ => ⟨Int.le_refl _, ?_⟩⟩
      · simp only [laws_szIntSS.l0]
        exact Ev.neg (by omega) (Ev.now _)
      · rw [drop_end l i (by omega)]
        simp
    | succ n ih =>
      intro i c hi hc0 hc
      have hr : rd_L1 l (i : Int) = l[i]'(by omega) := by simp [rd_L1, List.getD, List.getElem?_eq_getElem (show i < l.length by omega)]
      have hs := hx _ (List.getElem_mem (show i < l.length by omega))
      have hd : l.drop i = l[i]'(by omega) :: l.drop (i + 1) := List.drop_eq_getElem_cons (by omega)
      have hw : wrap64 (c - (((rd_L1 l (i : Int)).length : Nat) : Int)) = c - (((l[i]'(by omega)).length : Nat) : Int) := by rw [hr]; exact w64 (by omega) (by omega)
      by_cases h : c - (((l[i]'(by omega)).length : Nat) : Int) < 0
      · refine ⟨-1, Ev.succ ?_, fun h => absurd h (by omega)⟩
        simp only [laws_szIntSS.l0]
        exact Ev.pos (by omega) (Ev.pos (by omega) (Ev.bnd0 (a := -1) (by simp only [laws_szIntS.f]; rw [if_pos (by rw [hw]; exact h)]) (Ev.pos (by omega) (Ev.now _))))
      · obtain ⟨r, hev, hp⟩ := ih (i + 1) (c - (((l[i]'(by omega)).length : Nat) : Int)) (by omega) (by omega) (by omega)
        refine ⟨r, Ev.succ ?_, fun h0 => ?_⟩
        · simp only [laws_szIntSS.l0]
          refine Ev.pos (by omega) (Ev.pos (by omega) (Ev.bnd0 (a := c - (((l[i]'(by omega)).length : Nat) : Int)) (by simp only [laws_szIntS.f]; rw [if_neg (by rw [hw]; exact h), hw]) (Ev.neg h ?_)))
          rw [up1 i (by omega)]
          exact hev
        · obtain ⟨p1, p2⟩ := hp h0
          refine ⟨by omega, fun x hx => ?_⟩
          rw [hd] at hx
          rcases List.mem_cons.1 hx with rfl | hx
          · omega
          · have := p2 x hx
            omega
  simp only [laws_szIntSS.f]
  by_cases h : wrap64 (m - (l.length : Int)) < 0
  · exact ⟨-1, Ev.pos h (Ev.now _), fun h => absurd h (by omega)⟩
  · have h1 : ¬ (m - (l.length : Int) < 0) := by rw [w64 (by omega) (by omega)] at h; exact h
    obtain ⟨r, hr, hp⟩ := key l.length 0 (m - (l.length : Int)) (by omega) (by omega) (by omega)
    refine ⟨r, Ev.neg h ?_, fun h0 => ?_⟩
    · rw [w64 (by omega) (by omega)]
      exact hr
    · obtain ⟨p1, p2⟩ := hp h0
      refine ⟨by omega, fun x hx => ?_⟩
      have := p2 x (by simpa using hx)
      omega
theorem txt_ev2 (x : Int) (h0 : 0 ≤ x) (h3 : x ≤ 4611686018427387904) : Ev (fun k => laws_markText.f k x) (txtOf x) := up_mono (laws_markText.mono x) (txt_some x h0 h3)
theorem laws_markRecS_ex (l : List S48) (m : Int) (hl : l.length ≤ 1048576) (hm0 : 0 ≤ m) (hm : m ≤ 2305843009213693952) : ∃ y, Ev (fun k => laws_markRecS.f k l m) (m + 3 * l.length, y) := by
  simp only [laws_markRecS.f]
  have key : ∀ (n i : Nat) (x : List S48), i + n = l.length → x.length = l.length → ∃ y, Ev (fun k => laws_markRecS.l0 k x (m + 3 * i) (i : Int)) (m + 3 * l.length, y) := by
    intro n
    induction n with
    | zero =>
      intro i x hi hx
      refine ⟨x, Ev.succ ?_⟩
      simp only [laws_markRecS.l0]
      exact Ev.neg (by omega) (Ev.some_ (by rw [show i = l.length by omega]))
    | succ n ih =>
      intro i x hi hx
      obtain ⟨c, hc⟩ : ∃ c : Int, c = m + 3 * i := ⟨_, rfl⟩
      rw [← hc]
      obtain ⟨y, hy⟩ := ih (i + 1) (((x.set ((i : Int)).toNat ⟨c, (rd_T48 x (i : Int)).f1, (rd_T48 x (i : Int)).f2⟩).set ((i : Int)).toNat ⟨c, c + 1, (rd_T48 x (i : Int)).f2⟩).set ((i : Int)).toNat ⟨c, c + 1, txtOf (c + 1 + 1)⟩) (by omega) (by simp [hx])
      refine ⟨y, Ev.succ ?_⟩
      simp only [laws_markRecS.l0]
      refine Ev.pos (by omega) (Ev.pos (by omega) (Ev.bnd0 rfl (Ev.bnd0 rfl ?_)))
      rw [rdR_set x i _ (by omega), rdR_set _ i _ (by rw [List.length_set]; omega), up1 i (by omega), w64 (show -9223372036854775808 ≤ c + 1 by omega) (by omega), w64 (show -9223372036854775808 ≤ c + 1 + 1 by omega) (by omega), w64 (show -9223372036854775808 ≤ c + 1 + 1 + 1 by omega) (by omega)]
      rw [show c + 1 + 1 + 1 = m + 3 * ((i + 1 : Nat) : Int) by omega]
      exact Ev.bnd (txt_ev2 _ (by omega) (by omega)) hy
  have := key l.length 0 l (by omega) rfl
  simpa using this
theorem laws_szRecS_ev2 (l : List S52) (m : Int) (hm0 : 0 ≤ m) (hm : m ≤ 140737488351232) (hl : l.length ≤ 140737488351232) (hx : ∀ x ∈ l, x.f2.size ≤ 140737488351232) : ∃ r, Ev (fun k => laws_szRecS.f k l m) r ∧ (0 ≤ r → (l.length : Int) ≤ m ∧ ∀ x ∈ l, (x.f2.size : Int) ≤ m) := by
  have key : ∀ (n i : Nat) (c : Int), i + n = l.length → 0 ≤ c → c ≤ 140737488351232 → ∃ r, Ev (fun k => laws_szRecS.l0 k l c (i : Int)) r ∧ (0 ≤ r → ∀ x ∈ l.drop i, (x.f2.size : Int) ≤ c) := by
    intro n
    induction n with
    | zero =>
      intro i c hi hc0 hc
      refine ⟨c, Ev.succ ?_, fun _ => by rw [List.drop_eq_nil_of_le (by omega)]; simp⟩
      simp only [laws_szRecS.l0]
      exact Ev.neg (by omega) (Ev.now _)
    | succ n ih =>
      intro i c hi hc0 hc
      have hr := rdR0_nat l i (by omega)
      have hs := hx _ (List.getElem_mem (show i < l.length by omega))
      have hw : wrap64 (c - (((rd_T52 l (i : Int)).f2.size : Nat) : Int)) = c - (((l[i]'(by omega)).f2.size : Nat) : Int) := by rw [hr]; exact w64 (by omega) (by omega)
      by_cases h : c - (((l[i]'(by omega)).f2.size : Nat) : Int) < 0
      · refine ⟨-1, Ev.succ ?_, fun h => absurd h (by omega)⟩
        simp only [laws_szRecS.l0]
        exact Ev.pos (by omega) (Ev.pos (by omega) (Ev.bnd0 (a := -1) (by simp only [laws_szRec.f]; rw [if_pos (by rw [hw]; exact h)]) (Ev.pos (by omega) (Ev.now _))))
      · obtain ⟨r, hev, hp⟩ := ih (i + 1) (c - (((l[i]'(by omega)).f2.size : Nat) : Int)) (by omega) (by omega) (by omega)
        refine ⟨r, Ev.succ ?_, fun h0 x hx => ?_⟩
        · simp only [laws_szRecS.l0]
          refine Ev.pos (by omega) (Ev.pos (by omega) (Ev.bnd0 (a := c - (((l[i]'(by omega)).f2.size : Nat) : Int)) (by simp only [laws_szRec.f]; rw [if_neg (by rw [hw]; exact h), hw]) (Ev.neg h ?_)))
          rw [up1 i (by omega)]
          exact hev
        · rw [List.drop_eq_getElem_cons (by omega)] at hx
          rcases List.mem_cons.1 hx with rfl | hx
          · omega
          · have := hp h0 x hx
            omega
  simp only [laws_szRecS.f]
  by_cases h : wrap64 (m - (l.length : Int)) < 0
  · exact ⟨-1, Ev.pos h (Ev.now _), fun h => absurd h (by omega)⟩
  · have h1 : ¬ (m - (l.length : Int) < 0) := by rw [w64 (by omega) (by omega)] at h; exact h
    obtain ⟨r, hr, hp⟩ := key l.length 0 (m - (l.length : Int)) (by omega) (by omega) (by omega)
    refine ⟨r, Ev.neg h ?_, fun h0 => ⟨by omega, fun x hx => ?_⟩⟩
    · rw [w64 (by omega) (by omega)]
      exact hr
    · have := hp h0 x (by simpa using hx)
      omega
theorem asc_rise : ∀ (l : List Int) (n : Int) (o : Option Int), asc n o l = true → l.Pairwise (· < ·) ∧ (∀ x ∈ l, 0 ≤ x ∧ x < n) ∧ ∀ p, o = some p → ∀ x ∈ l, p < x
  | [], _, _, _ => ⟨List.Pairwise.nil, by simp, by simp⟩
  | v :: l, n, o, h => by
    have hv : (0 ≤ v ∧ v ≤ n - 1) ∧ asc n (some v) l = true ∧ ∀ p, o = some p → p < v := by
      cases o with
      | none => simp [asc] at h; exact ⟨by omega, h.2, by simp⟩
      | some p => simp [asc] at h; exact ⟨by omega, h.2, fun q hq => by cases hq; exact h.1.2⟩
    obtain ⟨h1, h2, h3⟩ := asc_rise l n (some v) hv.2.1
    refine ⟨List.pairwise_cons.2 ⟨fun x hx => h3 v rfl x hx, h1⟩, ?_, ?_⟩
    · intro x hx
      rcases List.mem_cons.1 hx with rfl | hx
      · omega
      · exact h2 x hx
    · intro p hp x hx
      have := hv.2.2 p hp
      rcases List.mem_cons.1 hx with rfl | hx
      · exact this
      · have := h3 v rfl x hx; omega
theorem wf_go (ps : List (List Int)) (all : List S55) : ∀ (bs : List S55) (born : List Int), bodiesGo ps all bs born = true → wfB ps.length born bs
  | [], _, _ => trivial
  | b :: bs, born, h => by
    simp only [bodiesGo, bodyOk, Bool.and_eq_true, decide_eq_true_eq] at h
    obtain ⟨⟨⟨⟨⟨_, h2⟩, h3⟩, h4⟩, _⟩, h6⟩ := h
    obtain ⟨a1, a2, _⟩ := asc_rise _ _ _ h4
    exact ⟨h2, h3, a1, a2, wf_go ps all bs _ h6⟩
theorem wf_dels (n : Nat) : ∀ (bs : List S55) (born : List Int), wfB n born bs → ∀ b ∈ bs, b.f3.length ≤ n
  | [], _, _ => by simp
  | b :: bs, born, h => by
    intro x hx
    rcases List.mem_cons.1 hx with rfl | hx
    · have := rise_len x.f3 0 (n : Int) h.2.2.1 h.2.2.2.1 (by omega)
      omega
    · exact wf_dels n bs _ h.2.2.2.2 x hx
theorem line_mem : ∀ (bs : List S55) (i : Int) (d : List Int), ∀ b ∈ bs, (⟨1, 0, b.f0⟩ : S48) ∈ recsL i d bs
  | [], _, _ => by simp
  | b :: bs, i, d => by
    intro x hx
    rcases List.mem_cons.1 hx with rfl | hx
    · simp [recsL]
    · simp only [recsL, List.mem_append, List.mem_cons]
      exact .inr (.inr (line_mem bs _ _ x hx))
noncomputable def fromR (ps : List (List Int)) (L : List S48) : List (List Int) × List S55 × Bool :=
  if graphOk ps = true ∧ L.length ≤ 4000 then finR ps L (runL (stepS ps.length) L (sig0 ps.length (-1))) else ([], [], false)
/-- Both sides' runs end alike. -/
theorem runs_same (ps : List (List Int)) (L : List S48) (hg : graphOk ps = true) : finR ps L (runL (stepI ps.length) L (sig0 ps.length 0)) = finR ps L (runL (stepS ps.length) L (sig0 ps.length (-1))) := by
  by_cases h : ∃ bs, weaveOk ps bs = true ∧ recsL (-1) [] bs = L
  · obtain ⟨bs, h1, h2⟩ := h
    have hok := h1
    simp only [weaveOk, Bool.and_eq_true, decide_eq_true_eq] at hok
    have hw := wf_go ps bs bs _ hok.2
    obtain ⟨t, t1, t2⟩ := runI_recs ps.length bs (-1) [] (sig0 ps.length 0) hw (by simp) (by simp [sig0]) (fun x => by simp [sig0]) (.inr ⟨rfl, rfl⟩)
    obtain ⟨u, u1, u2⟩ := runS_recs ps.length (graphOk_len hg) bs (-1) [] (sig0 ps.length (-1)) hw ⟨by simp [sig0], by simp [sig0], by simp [sig0]⟩ (fun x => by simp [sig0]) rfl (.inr rfl) (by simpa [sig0] using hok.1.2)
    have e1 : t.bs = bs := by simpa [sig0] using t2
    have e2 : u.bs = bs := by simpa [sig0] using u2
    subst h2
    rw [t1, u1, finR_pos (by rw [e1]; exact h1) (by rw [e1]), finR_pos (by rw [e2]; exact h1) (by rw [e2]), e1, e2]
  · have none_ : ∀ o, finR ps L o = ([], [], false) := fun o => by
      cases o with
      | none => rfl
      | some s => exact finR_neg (fun hh => h ⟨s.bs, hh⟩)
    rw [none_, none_]
theorem fromR_cases (ps : List (List Int)) (L : List S48) : fromR ps L = ([], [], false) ∨ ∃ bs, fromR ps L = (ps, bs, true) ∧ graphOk ps = true ∧ weaveOk ps bs = true ∧ recsL (-1) [] bs = L := by
  unfold fromR
  split
  · rename_i h
    generalize runL (stepS ps.length) L (sig0 ps.length (-1)) = o
    cases o with
    | none => exact .inl rfl
    | some s =>
      by_cases c : weaveOk ps s.bs = true ∧ recsL (-1) [] s.bs = L
      · exact .inr ⟨s.bs, finR_pos c.1 c.2, h.1, c.1, c.2⟩
      · exact .inl (finR_neg c)
  · exact .inl rfl
theorem recIn0 (n : Nat) (i : Int) : RecIn (sig0 n i) 0 n := ⟨by simp [sig0], by simpa [sig0] using born0 n, by simp [sig0], by simp [sig0], by simp [sig0]⟩
theorem impl_FR_ev (ps : List (List Int)) (L : List S48) (hp : ps.length ≤ 1048576) (hpx : ∀ x ∈ ps, x.length ≤ 1048576) (hLs : ∀ r ∈ L, r.f2.size ≤ 1048576) : Ev (fun k => impl_FromRecords.f k ps L) (fromR ps L) := by
  simp only [impl_FromRecords.f]
  unfold fromR
  by_cases c1 : (L.length : Int) > 4000
  · rw [if_neg (fun h => by omega)]
    exact Ev.pos c1 (Ev.now _)
  refine Ev.neg c1 (Ev.bnd (impl_GraphOk_ev ps (by omega) (fun x hx => by have := hpx x hx; omega)) ?_)
  by_cases c2 : graphOk ps = true
  · rw [if_pos (⟨c2, by omega⟩ : graphOk ps = true ∧ L.length ≤ 4000), ← runs_same ps L c2]
    refine Ev.pos c2 (Ev.pos (by omega) (Ev.bnd (impl_copyGraph_ev ps hp hpx) ?_))
    exact impl_FR_l0_ev ps L c2 (by omega) hLs L.length 0 (sig0 ps.length 0) (by omega) (recIn0 _ _) (by simp [sig0])
  · rw [if_neg (fun h => c2 h.1)]
    exact Ev.neg c2 (Ev.now _)
theorem spec_FR_ev (ps : List (List Int)) (L : List S48) (hp : ps.length ≤ 1048576) (hpx : ∀ x ∈ ps, x.length ≤ 1048576) (hLs : ∀ r ∈ L, r.f2.size ≤ 1048576) : Ev (fun k => spec_FromRecords.f k ps L) (fromR ps L) := by
  simp only [spec_FromRecords.f]
  unfold fromR
  refine Ev.bnd (spec_GraphOk_ev ps (by omega) (fun x hx => by have := hpx x hx; omega)) ?_
  by_cases c2 : graphOk ps = true
  · refine Ev.pos c2 ?_
    by_cases c1 : (L.length : Int) > 4000
    · rw [if_neg (fun h => by omega)]
      exact Ev.pos c1 (Ev.now _)
    refine Ev.neg c1 ?_
    rw [if_pos (⟨c2, by omega⟩ : graphOk ps = true ∧ L.length ≤ 4000)]
    have key : ∀ (n i : Nat) (acc : List (List Int)), i + n = ps.length → acc = ps.take i → Ev (fun k => spec_FromRecords.l0 k ps L (i : Int) acc) (finR ps L (runL (stepS ps.length) L (sig0 ps.length (-1)))) := by
      intro n
      induction n with
      | zero =>
        intro i acc hi ha
        rw [List.take_of_length_le (by omega)] at ha
        subst ha
        refine Ev.succ ?_
        simp only [spec_FromRecords.l0]
        refine Ev.neg (by omega) (Ev.pos (by omega) ?_)
        exact spec_FR_l1_ev acc L c2 (by omega) hLs L.length 0 (sig0 acc.length (-1)) (by omega) (recIn0 _ _) (by simp [sig0])
      | succ n ih =>
        intro i acc hi ha
        have hr := hpx _ (List.getElem_mem (show i < ps.length by omega))
        refine Ev.succ ?_
        simp only [spec_FromRecords.l0]
        rw [rdL_nat ps i (by omega), up1 i (by omega)]
        refine Ev.pos (by omega) (Ev.pos (by omega) (Ev.pos (by omega) (Ev.pos (by rw [ha, List.length_take]; omega) (ih (i + 1) _ (by omega) ?_))))
        rw [ha, List.take_succ_eq_append_getElem (by omega)]
    exact key ps.length 0 [] (by omega) (by simp)
  · rw [if_neg (fun h => c2 h.1)]
    exact Ev.neg c2 (Ev.now _)
theorem lensL_bound (c : Nat) : ∀ (l : List (List Int)), (∀ x ∈ l, x.length ≤ c) → lensL l ≤ l.length * c
  | [], _ => by simp [lensL]
  | x :: l, h => by
    have h1 := h x (by simp)
    have h2 := lensL_bound c l (fun y hy => h y (List.mem_cons_of_mem _ hy))
    simp only [lensL, List.length_cons, Nat.succ_mul]
    omega
theorem lenB_bound (c : Nat) : ∀ (l : List S55), (∀ x ∈ l, x.f3.length ≤ c) → lenB l ≤ l.length * (c + 3)
  | [], _ => by simp [lenB]
  | x :: l, h => by
    have h1 := h x (by simp)
    have h2 := lenB_bound c l (fun y hy => h y (List.mem_cons_of_mem _ hy))
    simp only [lenB, List.length_cons, Nat.succ_mul]
    omega
theorem fromR_small (ps : List (List Int)) (L : List S48) (hp : ps.length ≤ 1048576) (hLs : ∀ r ∈ L, r.f2.size ≤ 1048576) : Fine (fromR ps L).1 (fromR ps L).2.1 ∧ 1 + (lensL (fromR ps L).1 : Int) + lenB (fromR ps L).2.1 ≤ 1000000000000 := by
  rcases fromR_cases ps L with h | ⟨bs, h, hg, hw, hr⟩
  · rw [h]
    exact ⟨⟨by simp, by simp, by simp, by simp⟩, by simp [lensL, lenB]⟩
  · rw [h]
    have hok := hw
    simp only [weaveOk, Bool.and_eq_true, decide_eq_true_eq] at hok
    have hd := wf_dels ps.length bs _ (wf_go ps bs bs _ hok.2)
    have hn := graphOk_len hg
    have b1 := lensL_bound 1000000 ps (rows4 hg)
    have b2 := lenB_bound 40 bs (fun x hx => by have := hd x hx; omega)
    refine ⟨⟨hp, fun x hx => by have := rows4 hg x hx; omega, by show bs.length ≤ _; omega, fun b hb => ⟨?_, by have := hd b hb; omega⟩⟩, ?_⟩
    · exact hLs _ (hr ▸ line_mem bs (-1) [] b hb)
    · show 1 + (lensL ps : Int) + (lenB bs : Int) ≤ _
      omega
theorem FnExactFromRecords : laws_FnExactFromRecords.Pure := by
  intro p l hp hl
  refine Ev.rounds (r := true) ?_
  simp only [laws_FnExactFromRecords.f]
  obtain ⟨r, hr, hrp⟩ := laws_szIntSS_ev p 1048576 (by omega) (by omega) (by omega) (fun x hx => by have := (hp.2 x hx).1; omega)
  refine Ev.bnd hr ?_
  by_cases h : r < 0
  · exact Ev.pos h (Ev.now _)
  obtain ⟨p1, p2⟩ := hrp (by omega)
  obtain ⟨r2, hr2, hrp2⟩ := laws_szRecS_ev2 l r (by omega) (by omega) (by omega) (fun x hx => by have := (hl.2 x hx).2.2; omega)
  refine Ev.neg h (Ev.bnd hr2 ?_)
  by_cases h2 : r2 < 0
  · exact Ev.pos h2 (Ev.now _)
  obtain ⟨q1, q2⟩ := hrp2 (by omega)
  have hpl : p.length ≤ 1048576 := by omega
  have hpx : ∀ x ∈ p, x.length ≤ 1048576 := fun x hx => by have := p2 x hx; omega
  have hn : l.length ≤ 1048576 := by omega
  have hm : (l.map ofR).length ≤ 1048576 := by rw [List.length_map]; exact hn
  have hLs : ∀ x ∈ l.map ofR, x.f2.size ≤ 1048576 := by
    intro x hx
    obtain ⟨y, hy, rfl⟩ := List.mem_map.1 hx
    have := q2 y hy
    show y.f2.size ≤ _
    omega
  have hS := spec_FR_ev p (l.map ofR) hpl hpx hLs
  have hI := impl_FR_ev p (l.map ofR) hpl hpx hLs
  obtain ⟨hf, hb⟩ := fromR_small p (l.map ofR) hpl hLs
  generalize fromR p (l.map ofR) = R at hS hI hf hb
  obtain ⟨k1, hk1, hk2, hk3⟩ := laws_markIntSS_eq p 1 (by omega) (by omega) hpl hpx
  obtain ⟨y, hy⟩ := laws_markRecS_ex (l.map ofR) k1 hm (by omega) (by omega)
  refine Ev.neg h2 (Ev.bnd (laws_toIntSS_ev p (by omega) (fun x hx => by have := hpx x hx; omega)) (Ev.bnd (laws_toRecS_ev l hn) (Ev.bnd hS (Ev.bnd hI (Ev.bnd (laws_eqWeave_refl _ _ hf) (Ev.bnd (laws_eqIntSS_refl p (by omega) (fun x hx => by have := hpx x hx; omega)) (Ev.bnd (laws_eqRecS_refl _ hm) (Ev.bnd0 hk1 (Ev.bnd hy (Ev.pos ⟨rfl, rfl, rfl, rfl, by show 0 ≤ k1 + 3 * _; omega, by omega⟩ (Ev.bnd (laws_heldWeave_k R.1 R.2.1 hb hf.1 hf.2.2.1) (Ev.pos rfl (Ev.now _)))))))))))))

end Go.Proofs.YtmodgiingohphaaGreat.Pure
