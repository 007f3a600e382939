/- Versions of a drawn file, each with its parents, added one by one by the program: each is read back as it was; the weave is right and holds as many bodies as all have lines less the longest common part with what their parents see; for every list of bytes that the row reads. -/
import Derived.Test.YtmodgiingohphaaPFnTopx21
import Derived.Test.YtmodgiingohphaaGen
import Derived.Test.YtmodgiingohphaaLcs
namespace Go.Proofs.Ytmodgiingohphaa.Pure
open Go.RowKit Go.Proofs.Ytmodgiingohphaa.PFnTop Go.Proofs.YtmodgiingohphaaW.PrintWords Go.Proofs.YtmodgiingohphaaW.PrintLast Go.Proofs.YtmodgiingohphaaG Go.Proofs.YtmodgiingohphaaL

theorem spec_l01In_eq (a b c : Int) : spec_l01In.f a b c = some (decide (b ≤ a ∧ a ≤ c)) := by
 unfold spec_l01In.f
 by_cases h : a ≥ b
 ·rw [if_pos h]; simp [h]
 ·rw [if_neg h]; simp; omega
def asc (n : Int) : Option Int → List Int → Bool
 | _, [] => true
 | none, v :: l => decide (0 ≤ v ∧ v ≤ n - 1) && asc n (some v) l
 | some p, v :: l => decide (0 ≤ v ∧ v ≤ n - 1) && decide (p < v) && asc n (some v) l
def prevOf (l : List Int) (i : Nat) : Option Int := if i = 0 then none else some (rd l ((i : Int) - 1))
theorem prevOf_succ (l : List Int) (i : Nat) : prevOf l (i + 1) = some (rd l (i : Int)) := by
 unfold prevOf
 rw [if_neg (by omega)]
 congr 2
 omega
theorem asc_step (l : List Int) (n : Int) (i : Nat) (h : i < l.length) : asc n (prevOf l i) (l.drop i) = (decide (0 ≤ rd l (i : Int) ∧ rd l (i : Int) ≤ n - 1) && (decide (i = 0) || decide (rd l ((i : Int) - 1) < rd l (i : Int))) && asc n (prevOf l (i + 1)) (l.drop (i + 1))) := by
 rw [prevOf_succ, drop_rd l i h]
 by_cases h0 : i = 0
 ·subst h0
  simp [prevOf, asc]
 ·have : prevOf l i = some (rd l ((i : Int) - 1)) := by rw [prevOf, if_neg h0]
  rw [this]
  simp [asc, h0]
def gAll : Nat → List (List Int) → Bool
 | _, [] => true
 | v, r :: ps => decide (r.length ≤ 4) && asc (v : Int) none r && gAll (v + 1) ps
def graphOk (ps : List (List Int)) : Bool := decide (ps.length ≤ 40) && gAll 0 ps
theorem rdL_nat (l : List (List Int)) (i : Nat) (h : i < l.length) : rd_L2 l (i : Int) = l[i] := by
 simp [rd_L2, List.getD, List.getElem?_eq_getElem h]
theorem spec_l05Rise_ev (l : List Int) (n : Int) (hl : l.length ≤ 140737488351232) (hn : -4611686018427387904 ≤ n) (hn1 : n ≤ 4611686018427387904) : Ev (fun k => spec_l05Rise.f k l n) (asc n none l) := by
 simp only [spec_l05Rise.f]
 have key : ∀ (m i : Nat), i + m = l.length → Ev (fun k => spec_l05Rise.l0 k l n (i : Int)) (asc n (prevOf l i) (l.drop i)) := by
  intro m
  induction m with
  | zero =>
   intro i hi
   refine Ev.succ ?_
   simp only [spec_l05Rise.l0]
   refine Ev.neg (by omega) (Ev.some_ ?_)
   rw [drop_end l i (by omega)]
   cases prevOf l i <;> rfl
  | succ m ih =>
   intro i hi
   refine Ev.succ ?_
   simp only [spec_l05Rise.l0]
   have ih' := ih (i + 1) (by omega)
   rw [asc_step l n i (by omega)]
   rw [show wrap64 (n - 1) = n - 1 from w64 (by omega) (by omega), up1 i (by omega)]
   refine Ev.pos (by omega) (Ev.pos (by omega) (Ev.bnd0 (spec_l01In_eq _ _ _) ?_))
   by_cases hv : 0 ≤ rd l (i : Int) ∧ rd l (i : Int) ≤ n - 1
   ·refine Ev.pos (by simpa using hv) ?_
    by_cases h0 : (i : Int) > 0
    ·rw [show wrap64 ((i : Int) - 1) = (i : Int) - 1 from w64 (by omega) (by omega)]
     refine Ev.pos h0 (Ev.pos (by omega) (Ev.pos (by omega) ?_))
     by_cases h1 : rd l ((i : Int) - 1) ≥ rd l (i : Int)
     ·refine Ev.pos h1 (Ev.some_ ?_)
      have h2 : ¬ (rd l ((i : Int) - 1) < rd l (i : Int)) := by omega
      have h3 : ¬ (i = 0) := by omega
      simp [h2, h3]
     ·refine Ev.neg h1 (Ev_eq ih' ?_)
      have h2 : rd l ((i : Int) - 1) < rd l (i : Int) := by omega
      simp [hv, h2]
    ·refine Ev.neg h0 (Ev_eq ih' ?_)
     rw [show decide (0 ≤ rd l (i : Int) ∧ rd l (i : Int) ≤ n - 1) = true from decide_eq_true hv, show decide (i = 0) = true from decide_eq_true (by omega)]
     rfl
   ·refine Ev.neg (by simpa using hv) (Ev.some_ ?_)
    rw [show decide (0 ≤ rd l (i : Int) ∧ rd l (i : Int) ≤ n - 1) = false from by simpa using hv]
    rfl
 exact key l.length 0 (by omega)
theorem spec_LineOk_ev (s : ByteArray) (hs : s.size ≤ 140737488351232) : Ev (fun k => spec_LineOk.f k s) (lineOk s) := by
 simp only [spec_LineOk.f]
 have key : ∀ (n i : Nat), i + n = s.size → Ev (fun k => spec_LineOk.l0 k s (i : Int)) (decide ((10 : Int) ∉ (bytesOf s).drop i ∧ s.size ≤ 60)) := by
  intro n
  induction n with
  | zero =>
   intro i hi
   refine Ev.succ ?_
   simp only [spec_LineOk.l0]
   refine Ev.neg (by omega) (Ev.some_ ?_)
   rw [drop_end _ _ (by rw [bytesOf_length]; omega)]
   simp
   omega
  | succ n ih =>
   intro i hi
   refine Ev.succ ?_
   simp only [spec_LineOk.l0]
   refine Ev.pos (by omega) (Ev.pos (by omega) ?_)
   rw [up1 i (by omega), drop_bt s i (by omega)]
   by_cases h : bt s (i : Int) = 10
   ·exact Ev.pos h (Ev.some_ (by simp [h]))
   ·refine Ev.neg h (Ev_eq (ih (i + 1) (by omega)) ?_)
    have : ((10 : Int) ∉ bt s (i : Int) :: (bytesOf s).drop (i + 1)) ↔ ((10 : Int) ∉ (bytesOf s).drop (i + 1)) := by
     rw [List.mem_cons]
     constructor
     ·intro h1 h2; exact h1 (.inr h2)
     ·intro h1 h2
      rcases h2 with h2 | h2
      ·exact h h2.symm
      ·exact h1 h2
    simp only [this]
 exact key s.size 0 (by omega)
theorem impl_inRange_eq (a b c : Int) : impl_inRange.f a b c = some (decide (b ≤ a ∧ a ≤ c)) := by
 unfold impl_inRange.f
 by_cases h : a ≥ b
 ·rw [if_pos h]; simp [h]
 ·rw [if_neg h]; simp; omega
theorem impl_ascends_ev (l : List Int) (n : Int) (hl : l.length ≤ 140737488351232) (hn : -4611686018427387904 ≤ n) (hn1 : n ≤ 4611686018427387904) : Ev (fun k => impl_ascends.f k l n) (asc n none l) := by
 simp only [impl_ascends.f]
 have key : ∀ (m i : Nat), i + m = l.length → Ev (fun k => impl_ascends.l0 k l n l (l.length : Int) (i : Int)) (asc n (prevOf l i) (l.drop i)) := by
  intro m
  induction m with
  | zero =>
   intro i hi
   refine Ev.succ ?_
   simp only [impl_ascends.l0]
   refine Ev.neg (by omega) (Ev.some_ ?_)
   rw [drop_end l i (by omega)]
   cases prevOf l i <;> rfl
  | succ m ih =>
   intro i hi
   refine Ev.succ ?_
   simp only [impl_ascends.l0]
   have ih' := ih (i + 1) (by omega)
   rw [asc_step l n i (by omega)]
   rw [show wrap64 (n - 1) = n - 1 from w64 (by omega) (by omega), up1 i (by omega)]
   refine Ev.pos (by omega) (Ev.pos (by omega) (Ev.pos (by omega) (Ev.bnd0 (impl_inRange_eq _ _ _) ?_)))
   by_cases hv : 0 ≤ rd l (i : Int) ∧ rd l (i : Int) ≤ n - 1
   ·refine Ev.pos (by simpa using hv) ?_
    by_cases h0 : (i : Int) > 0
    ·rw [show wrap64 ((i : Int) - 1) = (i : Int) - 1 from w64 (by omega) (by omega)]
     refine Ev.pos h0 (Ev.pos (by omega) (Ev.pos (by omega) ?_))
     by_cases h1 : rd l (i : Int) ≤ rd l ((i : Int) - 1)
     ·refine Ev.pos h1 (Ev.some_ ?_)
      have h2 : ¬ (rd l ((i : Int) - 1) < rd l (i : Int)) := by omega
      have h3 : ¬ (i = 0) := by omega
      simp [h2, h3]
     ·refine Ev.neg h1 (Ev_eq ih' ?_)
      have h2 : rd l ((i : Int) - 1) < rd l (i : Int) := by omega
      simp [hv, h2]
    ·refine Ev.neg h0 (Ev_eq ih' ?_)
     rw [show decide (0 ≤ rd l (i : Int) ∧ rd l (i : Int) ≤ n - 1) = true from decide_eq_true hv, show decide (i = 0) = true from decide_eq_true (by omega)]
     rfl
   ·refine Ev.neg (by simpa using hv) (Ev.some_ ?_)
    rw [show decide (0 ≤ rd l (i : Int) ∧ rd l (i : Int) ≤ n - 1) = false from by simpa using hv]
    rfl
 exact key l.length 0 (by omega)
theorem impl_GraphOk_ev (l : List (List Int)) (hl : l.length ≤ 140737488351232) (hx : ∀ x ∈ l, x.length ≤ 140737488351232) : Ev (fun k => impl_GraphOk.f k l) (graphOk l) := by
 simp only [impl_GraphOk.f]
 have key : ∀ (m i : Nat), i + m = l.length → Ev (fun k => impl_GraphOk.l0 k l l (l.length : Int) (i : Int)) (decide (l.length ≤ 40) && gAll i (l.drop i)) := by
  intro m
  induction m with
  | zero =>
   intro i hi
   refine Ev.succ ?_
   simp only [impl_GraphOk.l0]
   refine Ev.neg (by omega) (Ev.some_ ?_)
   rw [drop_end l i (by omega)]
   simp [gAll]
   omega
  | succ m ih =>
   intro i hi
   refine Ev.succ ?_
   simp only [impl_GraphOk.l0]
   have ih' := ih (i + 1) (by omega)
   have hr := rdL_nat l i (by omega)
   rw [hr, up1 i (by omega), List.drop_eq_getElem_cons (show i < l.length by omega)]
   simp only [gAll]
   refine Ev.pos (by omega) (Ev.pos (by omega) (Ev.pos (by omega) ?_))
   by_cases h4 : ((l[i]'(by omega)).length : Int) > 4
   ·refine Ev.pos h4 (Ev.some_ ?_)
    rw [show decide ((l[i]'(by omega)).length ≤ 4) = false from by simp; omega]
    simp
   ·refine Ev.neg h4 (Ev.bnd (impl_ascends_ev _ _ (hx _ (List.getElem_mem _)) (by omega) (by omega)) ?_)
    rw [show decide ((l[i]'(by omega)).length ≤ 4) = true from by simp; omega]
    by_cases ha : asc (i : Int) none (l[i]'(by omega)) = true
    ·refine Ev.pos ha (Ev_eq ih' ?_)
     rw [ha]; rfl
    ·refine Ev.neg ha (Ev.some_ ?_)
     rw [Bool.eq_false_iff.2 ha]
     simp
 exact key l.length 0 (by omega)
theorem impl_LineOk_eq (s : ByteArray) : impl_LineOk.f s = some (lineOk s) := by
 simp only [impl_LineOk.f]
 by_cases h : (s.size : Int) ≤ 60
 ·rw [if_pos h]
  simp only [strings_Contains.f]
  rw [if_pos (by rfl)]
  simp only [Option.bind_some]
  congr 1
  have h1 := indexByte_mem 10 s.data.toList
  have h2 := byte_mem s 10
  simp only [lineOk]
  rw [← decide_not]
  congr 1
  rw [show (⟨#[10]⟩ : ByteArray).data.toList.headD 0 = (10 : UInt8) from rfl, h1, h2]
  simp only [eq_iff_iff]
  constructor
  ·intro h3; exact ⟨h3, by omega⟩
  ·intro h3; exact h3.1
 ·rw [if_neg h]
  congr 1
  simp only [lineOk]
  symm
  rw [decide_eq_false_iff_not]
  omega
def row (ps : List (List Int)) (v : Nat) : List Int := ps.getD v []
inductive Anc (ps : List (List Int)) : Nat → Nat → Prop
 | refl (v : Nat) : Anc ps v v
 | step {v p u : Nat} : (p : Int) ∈ row ps v → Anc ps p u → Anc ps v u
def Down (ps : List (List Int)) : Prop := ∀ v, v < ps.length → ∀ p ∈ row ps v, 0 ≤ p ∧ p < (v : Int)
theorem asc_bound : ∀ (l : List Int) (n : Int) (o : Option Int), asc n o l = true → ∀ p ∈ l, 0 ≤ p ∧ p ≤ n - 1
 | [], _, _, _ => by simp
 | x :: l, n, o, h => by
  intro p hp
  have hx : 0 ≤ x ∧ x ≤ n - 1 := by
   cases o <;> simp [asc] at h <;> omega
  have hl : asc n (some x) l = true := by
   cases o <;> simp [asc] at h
   ·exact h.2
   ·exact h.2
  rcases List.mem_cons.1 hp with rfl | hp
  ·exact hx
  ·exact asc_bound l n (some x) hl p hp
theorem gAll_get : ∀ (ps : List (List Int)) (v : Nat), gAll v ps = true → ∀ i (h : i < ps.length), (ps[i]).length ≤ 4 ∧ asc ((v + i : Nat) : Int) none ps[i] = true
 | r :: ps, v, h, 0, _ => by
  simp [gAll] at h
  simpa using h.1
 | r :: ps, v, h, i + 1, hi => by
  have h2 : gAll (v + 1) ps = true := by
   simp [gAll] at h
   exact h.2
  have := gAll_get ps (v + 1) h2 i (by simpa using hi)
  have e : v + 1 + i = v + (i + 1) := by omega
  rw [e] at this
  simpa using this
theorem row_get (ps : List (List Int)) (v : Nat) (h : v < ps.length) : row ps v = ps[v] := by
 simp [row, List.getD, List.getElem?_eq_getElem h]
theorem graphOk_down {ps : List (List Int)} (h : graphOk ps = true) : Down ps := by
 intro v hv p hp
 simp only [graphOk, Bool.and_eq_true, decide_eq_true_eq] at h
 have := (gAll_get ps 0 h.2 v hv).2
 rw [row_get ps v hv] at hp
 have := asc_bound _ _ _ this p hp
 omega
theorem graphOk_len {ps : List (List Int)} (h : graphOk ps = true) : ps.length ≤ 40 := by
 simp only [graphOk, Bool.and_eq_true, decide_eq_true_eq] at h
 exact h.1
theorem Anc.le {ps : List (List Int)} (hd : Down ps) {v u : Nat} (h : Anc ps v u) : v < ps.length → u ≤ v := by
 induction h with
 | refl => intro _; exact Nat.le_refl _
 | step hp _ ih =>
  intro hv
  have := hd _ hv _ hp
  have := ih (by omega)
  omega
def gB (x : List Bool) (u : Nat) : Bool := x.getD u false
theorem gB_set (x : List Bool) (i u : Nat) (h : i < x.length) : gB (x.set i true) u = (gB x u || decide (u = i)) := by
 unfold gB
 by_cases hu : u = i
 ·subst hu
  simp [List.getD, List.getElem?_set_self h]
 ·simp [List.getD, List.getElem?_set_ne (Ne.symm hu), hu]
def Sound (ps : List (List Int)) (S : List Int) (x : List Bool) : Prop := ∀ u, gB x u = true → ∃ s : Nat, (s : Int) ∈ S ∧ s < ps.length ∧ Anc ps s u
def Holds (ps : List (List Int)) (S : List Int) (x : List Bool) : Prop := ∀ s : Nat, (s : Int) ∈ S → s < ps.length → gB x s = true
def Closed (ps : List (List Int)) (x : List Bool) (v : Nat) : Prop := ∀ y, v ≤ y → y < ps.length → gB x y = true → ∀ p : Nat, (p : Int) ∈ row ps y → gB x p = true
theorem marks_all {ps : List (List Int)} {S : List Int} {x : List Bool} (hd : Down ps) (h1 : Sound ps S x) (h2 : Holds ps S x) (h3 : Closed ps x 0) (u : Nat) : gB x u = true ↔ ∃ s : Nat, (s : Int) ∈ S ∧ s < ps.length ∧ Anc ps s u := by
 refine ⟨h1 u, ?_⟩
 rintro ⟨s, hs, hl, ha⟩
 have key : ∀ {v w : Nat}, Anc ps v w → v < ps.length → gB x v = true → gB x w = true := by
  intro v w h
  induction h with
  | refl => intro _ h; exact h
  | step hp _ ih =>
   intro hv hb
   have := hd _ hv _ hp
   exact ih (by omega) (h3 _ (Nat.zero_le _) hv hb _ hp)
 exact key ha hl (h2 s hs hl)
theorem rdB_nat (x : List Bool) (i : Nat) : rdOf false x (i : Int) = gB x i := rfl
theorem Anc.trans {ps : List (List Int)} {a b c : Nat} (h : Anc ps a b) (k : Anc ps b c) : Anc ps a c := by
 induction h with
 | refl => exact k
 | step hp _ ih => exact Anc.step hp (ih k)
section
variable (ps : List (List Int)) (S : List Int) (hd : Down ps) (hn : ps.length ≤ 1000000) (hS : S.length ≤ 140737488351232) (hx : ∀ r ∈ ps, r.length ≤ 1000000)
include hd hn hx
theorem spec_l05Set_l2 (v : Nat) (hv : v < ps.length) (Q : List Bool → Prop) (hQ : ∀ z : List Bool, z.length = ps.length → Sound ps S z → Holds ps S z → Closed ps z v → ∃ r, Ev (fun k => spec_l05Set.l1 k ps z ((v : Int) - 1)) r ∧ Q r) :
  ∀ (n i : Nat) (x : List Bool), i + n = (row ps v).length → x.length = ps.length → Sound ps S x → Holds ps S x → Closed ps x (v + 1) → gB x v = true → (∀ j (h : j < (row ps v).length), j < i → gB x ((row ps v)[j]).toNat = true) → ∃ r, Ev (fun k => spec_l05Set.l2 k ps x (v : Int) (i : Int)) r ∧ Q r := by
 have hrow := rdL_nat ps v hv
 have hrg := row_get ps v hv
 have hrl : (row ps v).length ≤ 1000000 := by rw [hrg]; exact hx _ (List.getElem_mem _)
 intro n
 induction n with
 | zero =>
  intro i x hi hl h1 h2 h3 hb hj
  obtain ⟨r, hr, hq⟩ := hQ x hl h1 h2 (by
   intro y hy hyl hyb p hp
   by_cases e : y = v
   ·subst e
    obtain ⟨j, hjl, hje⟩ := List.getElem_of_mem hp
    have := hj j hjl (by omega)
    rw [hje] at this
    simpa using this
   ·exact h3 y (by omega) hyl hyb p hp)
  refine ⟨r, Ev.succ ?_, hq⟩
  simp only [spec_l05Set.l2]
  rw [hrow, ← hrg]
  refine Ev.pos (by omega) (Ev.pos (by omega) (Ev.neg (by omega) ?_))
  rw [w64 (by omega) (by omega)]
  exact hr
 | succ n ih =>
  intro i x hi hl h1 h2 h3 hb hj
  have hp := hd v hv _ (List.getElem_mem (show i < (row ps v).length by omega))
  have hrd : rd (row ps v) (i : Int) = (row ps v)[i]'(by omega) := rd_nat _ _ _
  obtain ⟨p, hpe⟩ := Int.eq_ofNat_of_zero_le hp.1
  have hmem : (p : Int) ∈ row ps v := by rw [← hpe]; exact List.getElem_mem _
  have hpl : p < x.length := by omega
  obtain ⟨r, hr, hq⟩ := ih (i + 1) (x.set p true) (by omega) (by rw [List.length_set]; exact hl) (by
    intro u hu
    rw [gB_set x p u hpl] at hu
    simp only [Bool.or_eq_true, decide_eq_true_eq] at hu
    rcases hu with hu | rfl
    ·exact h1 u hu
    ·obtain ⟨s, hs, hsl, ha⟩ := h1 v hb
     exact ⟨s, hs, hsl, ha.trans (Anc.step hmem (Anc.refl _))⟩) (by
    intro s hs hsl
    rw [gB_set x p s hpl, h2 s hs hsl]
    rfl) (by
    intro y hy hyl hyb q hq
    rw [gB_set x p y hpl] at hyb
    rw [gB_set x p q hpl]
    have : ¬ (y = p) := by omega
    simp only [this, decide_false, Bool.or_false] at hyb
    rw [h3 y hy hyl hyb q hq]
    rfl) (by rw [gB_set x p v hpl, hb]; rfl) (by
    intro j hjl hji
    rw [gB_set x p _ hpl]
    by_cases e : j = i
    ·subst e
     rw [hpe]
     simp
    ·rw [hj j hjl (by omega)]
     rfl)
  refine ⟨r, Ev.succ ?_, hq⟩
  simp only [spec_l05Set.l2]
  rw [hrow, ← hrg, hrd, hpe, up1 i (by omega), rdB_nat, Int.toNat_natCast]
  exact Ev.pos (by omega) (Ev.pos (by omega) (Ev.pos (by omega) (Ev.pos (by omega) (Ev.pos hb (Ev.pos (by omega) (Ev.pos (by omega) (Ev.pos (by omega) hr)))))))
theorem spec_l05Set_l1 : ∀ (v : Nat) (x : List Bool), v ≤ ps.length → x.length = ps.length → Sound ps S x → Holds ps S x → Closed ps x v → ∃ r, Ev (fun k => spec_l05Set.l1 k ps x ((v : Int) - 1)) r ∧ (r.length = ps.length ∧ ∀ u, gB r u = true ↔ ∃ s : Nat, (s : Int) ∈ S ∧ s < ps.length ∧ Anc ps s u) := by
 intro v
 induction v with
 | zero =>
  intro x _ hl h1 h2 h3
  refine ⟨x, Ev.succ ?_, hl, marks_all hd h1 h2 h3⟩
  simp only [spec_l05Set.l1]
  exact Ev.neg (by omega) (Ev.now _)
 | succ v ih =>
  intro x hv hl h1 h2 h3
  have e : (((v + 1 : Nat) : Int) - 1) = (v : Int) := by omega
  rw [e]
  by_cases hb : gB x v = true
  ·obtain ⟨r, hr, hq⟩ := spec_l05Set_l2 ps S hd hn hx v (by omega) _ (fun z hzl a b c => ih z (by omega) hzl a b c) (row ps v).length 0 x (by omega) hl h1 h2 h3 hb (fun j _ h => absurd h (by omega))
   refine ⟨r, Ev.succ ?_, hq⟩
   simp only [spec_l05Set.l1]
   exact Ev.pos (by omega) hr
  ·obtain ⟨r, hr, hq⟩ := ih x (by omega) hl h1 h2 (by
    intro y hy hyl hyb p hp
    by_cases e : y = v
    ·subst e; exact absurd hyb hb
    ·exact h3 y (by omega) hyl hyb p hp)
   refine ⟨r, Ev.succ ?_, hq⟩
   simp only [spec_l05Set.l1]
   refine Ev.pos (by omega) (Ev.succ ?_)
   simp only [spec_l05Set.l2]
   rw [rdL_nat ps v (by omega), rdB_nat, show wrap64 ((v : Int) - 1) = (v : Int) - 1 from w64 (by omega) (by omega)]
   refine Ev.pos (by omega) (Ev.pos (by omega) ?_)
   by_cases hz : ((0 : Int) < ((ps[v]'(by omega)).length : Int))
   ·exact Ev.pos hz (Ev.pos (by omega) (Ev.neg hb hr))
   ·exact Ev.neg hz hr
include hS
theorem spec_l05Set_ev : ∃ r, Ev (fun k => spec_l05Set.f k ps S) r ∧ (r.length = ps.length ∧ ∀ u, gB r u = true ↔ ∃ s : Nat, (s : Int) ∈ S ∧ s < ps.length ∧ Anc ps s u) := by
 have key : ∀ (n i : Nat) (x : List Bool), i + n = S.length → x.length = ps.length → Sound ps S x → (∀ s : Nat, (s : Int) ∈ S.take i → s < ps.length → gB x s = true) → ∃ r, Ev (fun k => spec_l05Set.l0 k ps S x (i : Int)) r ∧ (r.length = ps.length ∧ ∀ u, gB r u = true ↔ ∃ s : Nat, (s : Int) ∈ S ∧ s < ps.length ∧ Anc ps s u) := by
  intro n
  induction n with
  | zero =>
   intro i x hi hl h1 h2
   obtain ⟨r, hr, hq⟩ := spec_l05Set_l1 ps S hd hn hx ps.length x (Nat.le_refl _) hl h1 (fun s hs hsl => h2 s (by rw [List.take_of_length_le (by omega)]; exact hs) hsl) (fun y hy hyl => absurd hyl (by omega))
   refine ⟨r, Ev.succ ?_, hq⟩
   simp only [spec_l05Set.l0]
   refine Ev.neg (by omega) ?_
   rw [w64 (by omega) (by omega)]
   exact hr
  | succ n ih =>
   intro i x hi hl h1 h2
   have hrd : rd S (i : Int) = S[i]'(by omega) := rd_nat _ _ _
   have htk : S.take (i + 1) = S.take i ++ [S[i]'(by omega)] := List.take_succ_eq_append_getElem (by omega)
   by_cases hv : 0 ≤ S[i]'(by omega) ∧ S[i]'(by omega) ≤ (ps.length : Int) - 1
   ·obtain ⟨s, hse⟩ := Int.eq_ofNat_of_zero_le hv.1
    have hmem : (s : Int) ∈ S := by rw [← hse]; exact List.getElem_mem _
    have hsl : s < x.length := by omega
    obtain ⟨r, hr, hq⟩ := ih (i + 1) (x.set s true) (by omega) (by rw [List.length_set]; exact hl) (by
     intro u hu
     rw [gB_set x s u hsl] at hu
     simp only [Bool.or_eq_true, decide_eq_true_eq] at hu
     rcases hu with hu | rfl
     ·exact h1 u hu
     ·exact ⟨u, hmem, by omega, Anc.refl _⟩) (by
     intro t ht htl
     rw [gB_set x s t hsl]
     rw [htk] at ht
     rcases List.mem_append.1 ht with ht | ht
     ·rw [h2 t ht htl]; rfl
     ·have : t = s := by have := List.mem_singleton.1 ht; omega
      simp [this])
    refine ⟨r, Ev.succ ?_, hq⟩
    simp only [spec_l05Set.l0]
    rw [hrd, w64 (by omega) (by omega), up1 i (by omega)]
    refine Ev.pos (by omega) (Ev.pos (by omega) (Ev.bnd0 (spec_l01In_eq _ _ _) (Ev.pos (by simpa using hv) ?_)))
    rw [hse, Int.toNat_natCast]
    exact Ev.pos (by omega) (Ev.pos (by omega) hr)
   ·obtain ⟨r, hr, hq⟩ := ih (i + 1) x (by omega) hl h1 (by
     intro t ht htl
     rw [htk] at ht
     rcases List.mem_append.1 ht with ht | ht
     ·exact h2 t ht htl
     ·have := List.mem_singleton.1 ht
      exact absurd ⟨by omega, by omega⟩ hv)
    refine ⟨r, Ev.succ ?_, hq⟩
    simp only [spec_l05Set.l0]
    rw [hrd, w64 (by omega) (by omega), up1 i (by omega)]
    exact Ev.pos (by omega) (Ev.pos (by omega) (Ev.bnd0 (spec_l01In_eq _ _ _) (Ev.neg (by simpa using hv) hr)))
 have hz : ∀ u, gB (List.replicate ps.length false) u = false := by
  intro u
  simp only [gB, List.getD, List.getElem?_replicate]
  split <;> rfl
 obtain ⟨r, hr, hq⟩ := key S.length 0 (List.replicate ps.length false) (by omega) (by simp) (fun u hu => by rw [hz] at hu; cases hu) (fun s hs => by simp at hs)
 refine ⟨r, ?_, hq⟩
 simp only [spec_l05Set.f]
 refine Ev.pos (by omega) (Ev.pos (by omega) ?_)
 rw [Int.toNat_natCast]
 exact hr
end
theorem impl_set_has_eq (c : Nat) (hc : c < 2 ^ 64) (u : Int) : impl_set_has.f (c : Int) u = some (decide (0 ≤ u ∧ u ≤ 63) && c.testBit u.toNat) := by
 simp only [impl_set_has.f]
 rw [impl_inRange_eq]
 simp only [Option.bind_some]
 by_cases h : 0 ≤ u ∧ u ≤ 63
 ·rw [if_pos (by simpa using h), wrapu64 _ (by omega) (by omega), if_pos (by omega)]
  obtain ⟨v, rfl⟩ := Int.eq_ofNat_of_zero_le h.1
  congr 1
  have e : shr .u64 (c : Int) (v : Int) = ((c / 2 ^ v : Nat) : Int) := by
   unfold shr
   have e : min ((v : Int)).toNat IntKind.u64.bits = v := by simp [IntKind.bits]; omega
   rw [e]
   simp
  rw [e]
  have hlt : c / 2 ^ v < 2 ^ 64 := Nat.lt_of_le_of_lt (Nat.div_le_self _ _) hc
  have := and64 (c / 2 ^ v) 1 hlt (by decide)
  rw [show ((1 : Nat) : Int) = 1 from rfl] at this
  rw [this, Nat.and_one_is_mod]
  rw [show decide (0 ≤ (v : Int) ∧ (v : Int) ≤ 63) = true from decide_eq_true h, Bool.true_and, Int.toNat_natCast, Nat.testBit_eq_decide_div_mod_eq]
  by_cases hm : c / 2 ^ v % 2 = 1
  ·simp [hm]
  ·have : c / 2 ^ v % 2 = 0 := by omega
   simp [this]
 ·rw [if_neg (by simpa using h)]
  rw [show decide (0 ≤ u ∧ u ≤ 63) = false from by simpa using h]
  rfl
def Words (x : List Int) : Prop := ∀ v, v < x.length → 0 ≤ rd x (v : Int) ∧ rd x (v : Int) < 18446744073709551616
def wd (x : List Int) (v : Nat) : Nat := (rd x (v : Int)).toNat
theorem wd_lt {x : List Int} (h : Words x) {v : Nat} (hv : v < x.length) : wd x v < 2 ^ 64 := by
 have := h v hv
 unfold wd
 omega
theorem wd_cast {x : List Int} (h : Words x) {v : Nat} (hv : v < x.length) : rd x (v : Int) = (wd x v : Int) := by
 have := h v hv
 unfold wd
 omega
theorem impl_unionOf_ev (x : List Int) (hx : Words x) (l : List Int) (hl : l.length ≤ 140737488351232) (hp : ∀ p ∈ l, 0 ≤ p ∧ p < (x.length : Int)) :
  ∃ s : Nat, Ev (fun k => impl_unionOf.f k x l) (s : Int) ∧ s < 2 ^ 64 ∧ ∀ u, s.testBit u = true ↔ ∃ p : Nat, (p : Int) ∈ l ∧ (wd x p).testBit u = true := by
 simp only [impl_unionOf.f]
 have key : ∀ (n i s : Nat), i + n = l.length → s < 2 ^ 64 → ∃ r : Nat, Ev (fun k => impl_unionOf.l0 k x (s : Int) l (l.length : Int) (i : Int)) (r : Int) ∧ r < 2 ^ 64 ∧ ∀ u, r.testBit u = true ↔ (s.testBit u = true ∨ ∃ p : Nat, (p : Int) ∈ l.drop i ∧ (wd x p).testBit u = true) := by
  intro n
  induction n with
  | zero =>
   intro i s hi hs
   refine ⟨s, Ev.succ ?_, hs, fun u => ?_⟩
   ·simp only [impl_unionOf.l0]
    exact Ev.neg (by omega) (Ev.now _)
   ·rw [drop_end l i (by omega)]
    simp
  | succ n ih =>
   intro i s hi hs
   have hrd : rd l (i : Int) = l[i]'(by omega) := rd_nat _ _ _
   have hpi := hp _ (List.getElem_mem (show i < l.length by omega))
   obtain ⟨p, hpe⟩ := Int.eq_ofNat_of_zero_le hpi.1
   rw [hpe] at hpi
   have hlt := wd_lt hx (show p < x.length by omega)
   obtain ⟨r, hr, hr1, hr2⟩ := ih (i + 1) (s ||| wd x p) (by omega) (or_lt hs hlt)
   refine ⟨r, Ev.succ ?_, hr1, fun u => ?_⟩
   ·simp only [impl_unionOf.l0]
    rw [hrd, hpe, wd_cast hx (show p < x.length by omega), or64 _ _ hs hlt, up1 i (by omega)]
    exact Ev.pos (by omega) (Ev.pos (by omega) (Ev.pos (by omega) (Ev.pos (by omega) (Ev.pos (by omega) hr))))
   ·rw [hr2 u, Nat.testBit_or, List.drop_eq_getElem_cons (show i < l.length by omega), hpe]
    simp only [Bool.or_eq_true, List.mem_cons]
    constructor
    ·rintro ((h | h) | ⟨q, hq, h⟩)
     ·exact .inl h
     ·exact .inr ⟨p, .inl rfl, h⟩
     ·exact .inr ⟨q, .inr hq, h⟩
    ·rintro (h | ⟨q, hq | hq, h⟩)
     ·exact .inl (.inl h)
     ·have : q = p := by omega
      exact .inl (.inr (this ▸ h))
     ·exact .inr ⟨q, hq, h⟩
 obtain ⟨r, hr, hr1, hr2⟩ := key l.length 0 0 (by omega) (by decide)
 exact ⟨r, hr, hr1, fun u => by simpa using hr2 u⟩
theorem anc_iff (ps : List (List Int)) (v u : Nat) : Anc ps v u ↔ (u = v ∨ ∃ p : Nat, (p : Int) ∈ row ps v ∧ Anc ps p u) := by
 constructor
 ·intro h
  cases h with
  | refl => exact .inl rfl
  | step hp ha => exact .inr ⟨_, hp, ha⟩
 ·rintro (rfl | ⟨p, hp, ha⟩)
  ·exact Anc.refl _
  ·exact Anc.step hp ha
def Clo (ps : List (List Int)) (x : List Int) (n : Nat) : Prop := ∀ v, v < n → ∀ u, (wd x v).testBit u = true ↔ Anc ps v u
theorem rd_set (x : List Int) (i : Nat) (a : Int) (v : Nat) (h : i < x.length) : rd (x.set i a) (v : Int) = if v = i then a else rd x (v : Int) := by
 by_cases e : v = i
 ·subst e
  simp [rd, List.getD, List.getElem?_set_self h]
 ·simp [rd, List.getD, List.getElem?_set_ne (Ne.symm e), e]
theorem impl_closures_ev (ps : List (List Int)) (hd : Down ps) (hn : ps.length ≤ 60) (hr : ∀ r ∈ ps, r.length ≤ 1000000) : ∃ x, Ev (fun k => impl_closures.f k ps) x ∧ x.length = ps.length ∧ Words x ∧ Clo ps x ps.length := by
 simp only [impl_closures.f]
 have key : ∀ (n i : Nat) (x : List Int), i + n = ps.length → x.length = ps.length → Words x → Clo ps x i → ∃ y, Ev (fun k => impl_closures.l0 k x ps (ps.length : Int) (i : Int)) y ∧ y.length = ps.length ∧ Words y ∧ Clo ps y ps.length := by
  intro n
  induction n with
  | zero =>
   intro i x hi hl hw hc
   refine ⟨x, Ev.succ ?_, hl, hw, by rw [show ps.length = i by omega]; exact hc⟩
   simp only [impl_closures.l0]
   exact Ev.neg (by omega) (Ev.now _)
  | succ n ih =>
   intro i x hi hl hw hc
   have hrow := rdL_nat ps i (by omega)
   have hrg := row_get ps i (by omega)
   obtain ⟨s, hs, hs1, hs2⟩ := impl_unionOf_ev x hw (ps[i]'(by omega)) (by have := hr _ (List.getElem_mem (show i < ps.length by omega)); omega) (fun p hp => by
    have := hd i (by omega) p (by rw [hrg]; exact hp)
    omega)
   have h2 : 2 ^ i < 2 ^ 64 := two_pow_lt (by omega)
   have hor := or_lt hs1 h2
   obtain ⟨y, hy, hy1⟩ := ih (i + 1) (x.set i ((s ||| 2 ^ i : Nat) : Int)) (by omega) (by rw [List.length_set]; exact hl) (by
    intro v hv
    rw [List.length_set] at hv
    rw [rd_set x i _ v (by omega)]
    split
    ·omega
    ·exact hw v hv) (by
    intro v hv u
    unfold wd
    rw [rd_set x i _ v (by omega)]
    by_cases e : v = i
    ·subst e
     rw [if_pos rfl, Int.toNat_natCast, Nat.testBit_or, anc_iff]
     simp only [Bool.or_eq_true, Nat.testBit_two_pow, decide_eq_true_eq]
     rw [hs2 u]
     constructor
     ·rintro (⟨p, hp, h⟩ | h)
      ·rw [← hrg] at hp
       have := hd v (by omega) _ hp
       exact .inr ⟨p, hp, (hc p (by omega) u).1 h⟩
      ·exact .inl h.symm
     ·rintro (h | ⟨p, hp, h⟩)
      ·exact .inr h.symm
      ·have := hd v (by omega) _ hp
       rw [hrg] at hp
       exact .inl ⟨p, hp, (hc p (by omega) u).2 h⟩
    ·rw [if_neg e]
     exact hc v (by omega) u)
   refine ⟨y, Ev.succ ?_, hy1⟩
   simp only [impl_closures.l0]
   rw [hrow, up1 i (by omega), wrapu64 _ (by omega) (by omega), shl64_one i (by omega)]
   refine Ev.pos (by omega) (Ev.pos (by omega) (Ev.pos (by omega) (Ev.bnd hs (Ev.pos (by omega) (Ev.pos (by omega) ?_)))))
   rw [or64 _ _ hs1 h2, Int.toNat_natCast]
   exact hy
 obtain ⟨y, hy, hy1⟩ := key ps.length 0 (List.replicate ps.length 0) (by omega) (by simp) (fun v hv => by
  rw [List.length_replicate] at hv
  simp [rd, List.getD, hv]) (fun v hv => absurd hv (by omega))
 refine ⟨y, ?_, hy1⟩
 refine Ev.pos (by omega) (Ev.pos (by omega) ?_)
 rw [Int.toNat_natCast]
 exact hy
def setStep (s : Nat) (v : Int) : Nat := if 0 ≤ v ∧ v ≤ 63 then s ||| 2 ^ v.toNat else s
def setN (l : List Int) : Nat := l.foldl setStep 0
theorem setStep_lt {s : Nat} (v : Int) (h : s < 2 ^ 64) : setStep s v < 2 ^ 64 := by
 unfold setStep
 split
 ·exact or_lt h (two_pow_lt (by omega))
 ·exact h
theorem setFold_lt : ∀ (l : List Int) (s : Nat), s < 2 ^ 64 → l.foldl setStep s < 2 ^ 64
 | [], _, h => h
 | v :: l, _, h => setFold_lt l _ (setStep_lt v h)
theorem setN_lt (l : List Int) : setN l < 2 ^ 64 := setFold_lt l 0 (by decide)
theorem impl_setOf_l0 (l : List Int) (hl : l.length ≤ 140737488351232) : ∀ (n i s : Nat), i + n = l.length → s < 2 ^ 64 → Ev (fun k => impl_setOf.l0 k (s : Int) l (l.length : Int) (i : Int)) (((l.drop i).foldl setStep s : Nat) : Int) := by
 intro n
 induction n with
 | zero =>
  intro i s hi hs
  refine Ev.succ ?_
  simp only [impl_setOf.l0]
  have e : l.drop i = [] := List.drop_eq_nil_iff.2 (by omega)
  exact Ev.neg (by omega) (Ev.some_ (by rw [e]; rfl))
 | succ n ih =>
  intro i s hi hs
  refine Ev.succ ?_
  simp only [impl_setOf.l0]
  have hd := drop_rd l i (by omega)
  refine Ev.pos (by omega) (Ev.pos (by omega) (Ev.pos (by omega) (Ev.bnd0 (impl_inRange_eq _ _ _) ?_)))
  rw [show wrap64 ((i : Int) + 1) = ((i + 1 : Nat) : Int) from by rw [w64 (by omega) (by omega)]; omega, hd, List.foldl_cons]
  by_cases hv : 0 ≤ rd l (i : Int) ∧ rd l (i : Int) ≤ 63
  ·refine Ev.pos (by simpa using hv) ?_
   obtain ⟨v, hv'⟩ := Int.eq_ofNat_of_zero_le hv.1
   rw [hv'] at hv ⊢
   rw [wrapu64 _ (by omega) (by omega), shl64_one v (by omega), or64 _ _ hs (two_pow_lt (by omega))]
   refine Ev.pos (by omega) ?_
   have hst : setStep s (v : Int) = s ||| 2 ^ v := by rw [setStep, if_pos hv]; rfl
   rw [hst]
   exact ih (i + 1) _ (by omega) (or_lt hs (two_pow_lt (by omega)))
  ·refine Ev.neg (by simpa using hv) ?_
   have hst : setStep s (rd l (i : Int)) = s := by rw [setStep, if_neg hv]
   rw [hst]
   exact ih (i + 1) _ (by omega) hs
theorem impl_setOf_ev (l : List Int) (hl : l.length ≤ 140737488351232) : Ev (fun k => impl_setOf.f k l) (setN l : Int) := by
 simp only [impl_setOf.f]
 exact impl_setOf_l0 l hl l.length 0 0 (by omega) (by decide)
def Fine (p : List (List Int)) (b : List S123) : Prop := p.length ≤ 1048576 ∧ (∀ x ∈ p, x.length ≤ 1048576) ∧ b.length ≤ 1048576 ∧ ∀ x ∈ b, x.f0.size ≤ 1048576 ∧ x.f3.length ≤ 1048576
theorem setN_bit : ∀ (l : List Int) (s u : Nat), (l.foldl setStep s).testBit u = true ↔ (s.testBit u = true ∨ (u ≤ 63 ∧ (u : Int) ∈ l))
 | [], s, u => by simp
 | v :: l, s, u => by
  rw [List.foldl_cons, setN_bit l (setStep s v) u]
  unfold setStep
  split
  ·rename_i h
   obtain ⟨w, rfl⟩ := Int.eq_ofNat_of_zero_le h.1
   rw [Nat.testBit_or, Int.toNat_natCast, Nat.testBit_two_pow]
   simp only [Bool.or_eq_true, decide_eq_true_eq, List.mem_cons]
   constructor
   ·rintro ((h1 | h1) | ⟨h1, h2⟩)
    ·exact .inl h1
    ·exact .inr ⟨by omega, .inl (by omega)⟩
    ·exact .inr ⟨h1, .inr h2⟩
   ·rintro (h1 | ⟨h1, h2 | h2⟩)
    ·exact .inl (.inl h1)
    ·exact .inl (.inr (by omega))
    ·exact .inr ⟨h1, h2⟩
  ·rename_i h
   simp only [List.mem_cons]
   constructor
   ·rintro (h1 | ⟨h1, h2⟩)
    ·exact .inl h1
    ·exact .inr ⟨h1, .inr h2⟩
   ·rintro (h1 | ⟨h1, h2 | h2⟩)
    ·exact .inl h1
    ·exact absurd ⟨by omega, by omega⟩ h
    ·exact .inr ⟨h1, h2⟩
theorem rdW_nat (l : List S123) (i : Nat) (h : i < l.length) : rd_T123 l (i : Int) = l[i] := by
 simp [rd_T123, List.getD, List.getElem?_eq_getElem h]
theorem impl_isPlace_eq (a : Int) (n : Nat) (hn : n ≤ 140737488351232) : impl_isPlace.f a (n : Int) = some (decide (0 ≤ a ∧ a ≤ (n : Int) - 1)) := by
 simp only [impl_isPlace.f]
 rw [w64 (by omega) (by omega), impl_inRange_eq]
 rfl
theorem rows4 {ps : List (List Int)} (h : graphOk ps = true) : ∀ r ∈ ps, r.length ≤ 1000000 := by
 intro r hr
 simp only [graphOk, Bool.and_eq_true, decide_eq_true_eq] at h
 obtain ⟨i, hi, rfl⟩ := List.getElem_of_mem hr
 have := (gAll_get ps 0 h.2 i hi).1
 omega
def liveB (p : Nat → Bool) (ins : Int) (dels : List Int) : Bool := decide (0 ≤ ins) && p ins.toNat && dels.all fun d => !(decide (0 ≤ d) && p d.toNat)
open Classical in
noncomputable def pS (ps : List (List Int)) (S : List Int) (u : Nat) : Bool := decide (∃ s : Nat, (s : Int) ∈ S ∧ s < ps.length ∧ Anc ps s u)
open Classical in
theorem pS_iff (ps : List (List Int)) (S : List Int) (u : Nat) : pS ps S u = true ↔ ∃ s : Nat, (s : Int) ∈ S ∧ s < ps.length ∧ Anc ps s u := by
 unfold pS
 exact decide_eq_true_iff
theorem bool_ext {f g : Nat → Bool} (h : ∀ u, f u = true ↔ g u = true) : f = g := funext fun u => by rw [Bool.eq_iff_iff]; exact h u
theorem gB_out {x : List Bool} {u : Nat} (h : x.length ≤ u) : gB x u = false := by
 simp [gB, List.getD, List.getElem?_eq_none h]
theorem spec_l06Live_ev (s : ByteArray) (ins ord : Int) (dels : List Int) (x : List Bool) (hx : x.length ≤ 1000000) (hd : dels.length ≤ 140737488351232) : Ev (fun k => spec_l06Live.f k s ins ord dels x) (liveB (gB x) ins dels) := by
 have key : ∀ (n i : Nat), i + n = dels.length → Ev (fun k => spec_l06Live.l0 k x (i : Int) s ins ord dels) ((dels.drop i).all fun d => !(decide (0 ≤ d) && gB x d.toNat)) := by
  intro n
  induction n with
  | zero =>
   intro i hi
   refine Ev.succ ?_
   simp only [spec_l06Live.l0]
   rw [drop_end dels i (by omega)]
   exact Ev.neg (by omega) (Ev.some_ rfl)
  | succ n ih =>
   intro i hi
   have hrd : rd dels (i : Int) = dels[i]'(by omega) := rd_nat _ _ _
   refine Ev.succ ?_
   simp only [spec_l06Live.l0]
   rw [hrd, w64 (by omega) (by omega), up1 i (by omega), List.drop_eq_getElem_cons (show i < dels.length by omega), List.all_cons]
   refine Ev.pos (by omega) (Ev.pos (by omega) (Ev.bnd0 (spec_l01In_eq _ _ _) ?_))
   by_cases h : 0 ≤ dels[i]'(by omega) ∧ dels[i]'(by omega) ≤ (x.length : Int) - 1
   ·refine Ev.pos (by simpa using h) (Ev.pos (by omega) (Ev.pos (by omega) ?_))
    obtain ⟨d, hde⟩ := Int.eq_ofNat_of_zero_le h.1
    rw [hde, rdB_nat, Int.toNat_natCast]
    by_cases hb : gB x d = true
    ·exact Ev.pos hb (Ev.some_ (by rw [hb]; simp))
    ·refine Ev.neg hb ?_
     rw [Bool.eq_false_iff.2 hb, Bool.and_false, Bool.not_false, Bool.true_and]
     exact ih (i + 1) (by omega)
   ·refine Ev.neg (by simpa using h) ?_
    have e : (decide (0 ≤ dels[i]'(by omega)) && gB x (dels[i]'(by omega)).toNat) = false := by
     by_cases c : 0 ≤ dels[i]'(by omega)
     ·rw [gB_out (by omega), Bool.and_false]
     ·rw [decide_eq_false c, Bool.false_and]
    rw [e, Bool.not_false, Bool.true_and]
    exact ih (i + 1) (by omega)
 have k0 := key dels.length 0 (by omega)
 rw [List.drop_zero] at k0
 simp only [spec_l06Live.f]
 rw [w64 (by omega) (by omega)]
 refine Ev.bnd0 (spec_l01In_eq _ _ _) ?_
 unfold liveB
 by_cases h : 0 ≤ ins ∧ ins ≤ (x.length : Int) - 1
 ·refine Ev.pos (by simpa using h) (Ev.pos (by omega) (Ev.pos (by omega) (Ev.succ ?_)))
  simp only [spec_l06Live.j0]
  obtain ⟨d, hde⟩ := Int.eq_ofNat_of_zero_le h.1
  rw [hde, rdB_nat, Int.toNat_natCast, decide_eq_true (show (0 : Int) ≤ (d : Int) by omega), Bool.true_and]
  rw [hde] at k0
  by_cases hb : gB x d = true
  ·rw [hb, Bool.true_and]
   exact Ev.neg (by simp) k0
  ·rw [Bool.eq_false_iff.2 hb, Bool.false_and]
   exact Ev.pos (by simp) (Ev.now _)
 ·refine Ev.neg (by simpa using h) (Ev.succ ?_)
  simp only [spec_l06Live.j0]
  refine Ev.pos trivial (Ev.some_ ?_)
  by_cases c : 0 ≤ ins
  ·rw [gB_out (by omega), Bool.and_false, Bool.false_and]
  ·rw [decide_eq_false c, Bool.false_and, Bool.false_and]
theorem impl_isLive_ev (s : ByteArray) (ins ord : Int) (dels : List Int) (c : Nat) (hc : c < 2 ^ 64) (hd : dels.length ≤ 140737488351232) : Ev (fun k => impl_Body_isLive.f k s ins ord dels (c : Int)) (liveB c.testBit ins dels) := by
 have big : ∀ u, 63 < u → c.testBit u = false := fun u hu => Nat.testBit_lt_two_pow (Nat.lt_of_lt_of_le hc (Nat.pow_le_pow_right (by decide) (by omega)))
 simp only [impl_Body_isLive.f]
 refine Ev.bnd0 (impl_set_has_eq c hc _) ?_
 unfold liveB
 by_cases h : (decide (0 ≤ ins ∧ ins ≤ 63) && c.testBit ins.toNat) = true
 ·refine Ev.pos h (Ev.bnd (impl_setOf_ev dels hd) (Ev.some_ ?_))
  rw [and64 _ _ (setN_lt _) hc]
  have h' := h
  simp only [Bool.and_eq_true, decide_eq_true_eq] at h'
  rw [decide_eq_true h'.1.1, h'.2, Bool.true_and, Bool.true_and, Bool.eq_iff_iff, beq_iff_eq, List.all_eq_true]
  constructor
  ·intro h0 d hd0
   by_cases c0 : 0 ≤ d
   ·obtain ⟨u, rfl⟩ := Int.eq_ofNat_of_zero_le c0
    rw [Int.toNat_natCast]
    by_cases hu : u ≤ 63
    ·have hz : setN dels &&& c = 0 := by omega
     have hb : (setN dels &&& c).testBit u = false := by rw [hz, Nat.zero_testBit]
     have hsn : (setN dels).testBit u = true := (setN_bit dels 0 u).2 (.inr ⟨hu, hd0⟩)
     rw [Nat.testBit_and, hsn, Bool.true_and] at hb
     simp [hb]
    ·simp [big u (by omega)]
   ·simp [c0]
  ·intro h0
   have hz : setN dels &&& c = 0 := by
    apply Nat.eq_of_testBit_eq
    intro u
    rw [Nat.zero_testBit, Nat.testBit_and, Bool.and_eq_false_iff]
    by_cases hs : (setN dels).testBit u = true
    ·rcases (setN_bit dels 0 u).1 hs with h1 | ⟨h1, h2⟩
     ·simp at h1
     ·have := h0 _ h2
      simp only [Int.toNat_natCast, Bool.not_eq_true', Bool.and_eq_false_iff, decide_eq_false_iff_not] at this
      rcases this with h3 | h3
      ·omega
      ·exact .inr h3
    ·exact .inl (Bool.eq_false_iff.2 hs)
   omega
 ·refine Ev.neg h (Ev.some_ ?_)
  by_cases c0 : 0 ≤ ins
  ·have h1 : c.testBit ins.toNat = false := by
    by_cases hu : ins ≤ 63
    ·rw [decide_eq_true (show 0 ≤ ins ∧ ins ≤ 63 from ⟨c0, hu⟩), Bool.true_and] at h
     exact Bool.eq_false_iff.2 h
    ·exact big _ (by omega)
   rw [h1, Bool.and_false, Bool.false_and]
  ·rw [decide_eq_false c0, Bool.false_and, Bool.false_and]
def placesL (p : Nat → Bool) : List S123 → Nat → List Int
 | [], _ => []
 | b :: bs, i => (if liveB p b.f1 b.f3 = true then [(i : Int)] else []) ++ placesL p bs (i + 1)
theorem placesL_length (p : Nat → Bool) : ∀ (bs : List S123) (i : Nat), (placesL p bs i).length ≤ bs.length
 | [], _ => by simp [placesL]
 | b :: bs, i => by
  have := placesL_length p bs (i + 1)
  simp only [placesL, List.length_append, List.length_cons]
  split <;> simp <;> omega
theorem spec_l06Places_ev (ps : List (List Int)) (bs : List S123) (x : List Bool) (hb : bs.length ≤ 1048576) (hbx : ∀ b ∈ bs, b.f3.length ≤ 1048576) (hx : x.length ≤ 1000000) : Ev (fun k => spec_l06Places.f k ps bs x) (placesL (gB x) bs 0) := by
 have key : ∀ (n i : Nat) (acc : List Int), i + n = bs.length → acc.length ≤ i → Ev (fun k => spec_l06Places.l0 k x acc (i : Int) ps bs) (acc ++ placesL (gB x) (bs.drop i) i) := by
  intro n
  induction n with
  | zero =>
   intro i acc hi ha
   refine Ev.succ ?_
   simp only [spec_l06Places.l0]
   rw [drop_end bs i (by omega)]
   exact Ev.neg (by omega) (Ev.some_ (by simp [placesL]))
  | succ n ih =>
   intro i acc hi ha
   refine Ev.succ ?_
   simp only [spec_l06Places.l0]
   have hm := hbx _ (List.getElem_mem (show i < bs.length by omega))
   rw [rdW_nat bs i (by omega), up1 i (by omega), List.drop_eq_getElem_cons (show i < bs.length by omega)]
   refine Ev.pos (by omega) (Ev.pos (by omega) (Ev.bnd (spec_l06Live_ev _ _ _ _ x hx (by omega)) ?_))
   simp only [placesL]
   by_cases c : liveB (gB x) (bs[i]'(by omega)).f1 (bs[i]'(by omega)).f3 = true
   ·rw [if_pos c, ← List.append_assoc]
    exact Ev.pos c (Ev.pos (by omega) (ih (i + 1) _ (by omega) (by simp; omega)))
   ·rw [if_neg c, List.nil_append]
    exact Ev.neg c (ih (i + 1) _ (by omega) (by omega))
 simp only [spec_l06Places.f]
 have := key bs.length 0 [] (by omega) (by simp)
 simpa using this
theorem impl_liveIn_ev (ps : List (List Int)) (bs : List S123) (c : Nat) (hc : c < 2 ^ 64) (hb : bs.length ≤ 1048576) (hbx : ∀ b ∈ bs, b.f3.length ≤ 1048576) : Ev (fun k => impl_Weave_liveIn.f k ps bs (c : Int)) (placesL c.testBit bs 0) := by
 have key : ∀ (n i : Nat) (acc : List Int), i + n = bs.length → acc.length ≤ i → Ev (fun k => impl_Weave_liveIn.l0 k (c : Int) acc bs (bs.length : Int) (i : Int)) (acc ++ placesL c.testBit (bs.drop i) i) := by
  intro n
  induction n with
  | zero =>
   intro i acc hi ha
   refine Ev.succ ?_
   simp only [impl_Weave_liveIn.l0]
   rw [drop_end bs i (by omega)]
   exact Ev.neg (by omega) (Ev.some_ (by simp [placesL]))
  | succ n ih =>
   intro i acc hi ha
   refine Ev.succ ?_
   simp only [impl_Weave_liveIn.l0]
   have hm := hbx _ (List.getElem_mem (show i < bs.length by omega))
   rw [rdW_nat bs i (by omega), up1 i (by omega), List.drop_eq_getElem_cons (show i < bs.length by omega)]
   refine Ev.pos (by omega) (Ev.pos (by omega) (Ev.pos (by omega) (Ev.bnd (impl_isLive_ev _ _ _ _ c hc (by omega)) ?_)))
   simp only [placesL]
   by_cases c1 : liveB c.testBit (bs[i]'(by omega)).f1 (bs[i]'(by omega)).f3 = true
   ·rw [if_pos c1, ← List.append_assoc]
    exact Ev.pos c1 (Ev.pos (by omega) (ih (i + 1) _ (by omega) (by simp; omega)))
   ·rw [if_neg c1, List.nil_append]
    exact Ev.neg c1 (ih (i + 1) _ (by omega) (by omega))
 simp only [impl_Weave_liveIn.f]
 have := key bs.length 0 [] (by omega) (by simp)
 simpa using this
noncomputable def bodyOk (ps : List (List Int)) (born : List Int) (b : S123) : Bool :=
 lineOk b.f0 && decide (0 ≤ b.f1 ∧ b.f1 ≤ (ps.length : Int) - 1) && decide (b.f2 = rd born b.f1) && asc (ps.length : Int) none b.f3 && b.f3.all fun d => liveB (pS ps (row ps d.toNat)) b.f1 b.f3
def bornOf (born : List Int) (b : S123) : List Int := born.set b.f1.toNat (rd born b.f1 + 1)
noncomputable def endOk (ps : List (List Int)) (bs : List S123) (born : List Int) : Nat → Nat → Bool
 | 0, _ => true
 | n + 1, v => decide (rd born (v : Int) ≤ 80) && decide ((placesL (pS ps [(v : Int)]) bs 0).length ≤ 80) && endOk ps bs born n (v + 1)
noncomputable def bodiesGo (ps : List (List Int)) (all : List S123) : List S123 → List Int → Bool
 | [], born => endOk ps all born ps.length 0
 | b :: bs, born => bodyOk ps born b && bodiesGo ps all bs (bornOf born b)
noncomputable def weaveOk (ps : List (List Int)) (bs : List S123) : Bool := graphOk ps && decide (bs.length ≤ 300) && bodiesGo ps bs bs (List.replicate ps.length 0)
def Born (born : List Int) (i : Nat) : Prop := ∀ v : Nat, v < born.length → 0 ≤ rd born (v : Int) ∧ rd born (v : Int) ≤ (i : Int)
theorem Born.step {born : List Int} {i : Nat} (h : Born born i) (b : S123) (h0 : 0 ≤ b.f1) (h1 : b.f1 < born.length) : Born (bornOf born b) (i + 1) := by
 obtain ⟨u, hu⟩ := Int.eq_ofNat_of_zero_le h0
 have hul : u < born.length := by omega
 intro v hv
 unfold bornOf at hv ⊢
 rw [List.length_set] at hv
 rw [hu, Int.toNat_natCast, rd_set born u _ v hul]
 have a := h u hul
 have b := h v hv
 split <;> omega
theorem spec_bornOf (born : List Int) (b : S123) : (bornOf born b).length = born.length := by unfold bornOf; rw [List.length_set]
theorem born0 (n : Nat) : Born (List.replicate n 0) 0 := by
 intro v hv
 rw [rd_nat _ v hv]
 simp
section
variable (ps : List (List Int)) (bs : List S123) (hg : graphOk ps = true) (hf : Fine ps bs) (h3 : bs.length ≤ 300)
include hg hf h3
theorem spec_closure_ev (v : Nat) : ∃ r, Ev (fun k => spec_l06Closure.f k ps bs (v : Int)) r ∧ r.length = ps.length ∧ gB r = pS ps [(v : Int)] := by
 have _ := hf
 have _ := h3
 have hd := graphOk_down hg
 have hn := graphOk_len hg
 obtain ⟨r, hr, hrl, hru⟩ := spec_l05Set_ev ps [(v : Int)] hd (by omega) (by simp) (rows4 hg)
 refine ⟨r, ?_, hrl, bool_ext fun u => (hru u).trans (pS_iff ps _ u).symm⟩
 simp only [spec_l06Closure.f]
 exact Ev.bnd hr (Ev.now _)
end
theorem weaveOk_graph {ps : List (List Int)} {bs : List S123} (h : weaveOk ps bs = true) : graphOk ps = true ∧ bs.length ≤ 300 := by
 simp only [weaveOk, Bool.and_eq_true, decide_eq_true_eq] at h
 exact h.1
def isV (ps : List (List Int)) (v : Int) : Bool := decide (0 ≤ v ∧ v ≤ (ps.length : Int) - 1)
theorem isV_nat {ps : List (List Int)} {v : Int} (h : isV ps v = true) : ∃ u : Nat, v = (u : Int) ∧ u < ps.length := by
 simp only [isV, decide_eq_true_eq] at h
 obtain ⟨u, hu⟩ := Int.eq_ofNat_of_zero_le h.1
 exact ⟨u, hu, by omega⟩
theorem placesL_mem (p : Nat → Bool) : ∀ (bs : List S123) (i : Nat) (x : Int), x ∈ placesL p bs i → (i : Int) ≤ x ∧ x < (i : Int) + bs.length
 | [], i, x, h => by simp [placesL] at h
 | b :: bs, i, x, h => by
  simp only [placesL, List.mem_append] at h
  rcases h with h | h
  ·split at h
   ·simp at h
    subst h
    simp only [List.length_cons]
    omega
   ·simp at h
  ·have := placesL_mem p bs (i + 1) x h
   simp only [List.length_cons]
   omega
theorem placesL_in (p : Nat → Bool) (bs : List S123) (j : Nat) (hj : j < (placesL p bs 0).length) : ∃ m : Nat, rd (placesL p bs 0) (j : Int) = (m : Int) ∧ (placesL p bs 0)[j] = (m : Int) ∧ m < bs.length := by
 have h := placesL_mem p bs 0 _ (List.getElem_mem hj)
 obtain ⟨m, hm⟩ := Int.eq_ofNat_of_zero_le (show 0 ≤ (placesL p bs 0)[j] by omega)
 refine ⟨m, ?_, hm, by omega⟩
 rw [← hm]
 simp [rd, List.getD, List.getElem?_eq_getElem hj]
def linesL (bs : List S123) (L : List Int) : List ByteArray := L.map fun x => (rd_T123 bs x).f0
theorem spec_l06Lines_ev (ps : List (List Int)) (bs : List S123) (L : List Int) (hl : L.length ≤ 1048576) (hL : ∀ j, ∀ h : j < L.length, ∃ m : Nat, rd L (j : Int) = (m : Int) ∧ L[j] = (m : Int) ∧ m < bs.length) : Ev (fun k => spec_l06Lines.f k ps bs L) (linesL bs L) := by
 have key : ∀ (n i : Nat) (acc : List ByteArray), i + n = L.length → acc.length ≤ i → Ev (fun k => spec_l06Lines.l0 k L acc (i : Int) ps bs) (acc ++ linesL bs (L.drop i)) := by
  intro n
  induction n with
  | zero =>
   intro i acc hi ha
   refine Ev.succ ?_
   simp only [spec_l06Lines.l0]
   rw [drop_end L i (by omega)]
   exact Ev.neg (by omega) (Ev.some_ (by simp [linesL]))
  | succ n ih =>
   intro i acc hi ha
   obtain ⟨m, h1, h2, h4⟩ := hL i (by omega)
   refine Ev.succ ?_
   simp only [spec_l06Lines.l0]
   rw [h1, up1 i (by omega), List.drop_eq_getElem_cons (show i < L.length by omega), h2]
   refine Ev.pos (by omega) (Ev.pos (by omega) (Ev.pos (by omega) (Ev.pos (by omega) (Ev.pos (by omega) ?_))))
   exact Ev_eq (ih (i + 1) _ (by omega) (by simp; omega)) (by simp [linesL])
 simp only [spec_l06Lines.f]
 exact Ev_eq (key L.length 0 [] (by omega) (by simp)) (by simp)
theorem impl_linesAt_ev (ps : List (List Int)) (bs : List S123) (L : List Int) (hl : L.length ≤ 1048576) (hL : ∀ j, ∀ h : j < L.length, ∃ m : Nat, rd L (j : Int) = (m : Int) ∧ L[j] = (m : Int) ∧ m < bs.length) : Ev (fun k => impl_Weave_linesAt.f k ps bs L) (linesL bs L) := by
 have key : ∀ (n i : Nat) (acc : List ByteArray), i + n = L.length → acc.length ≤ i → Ev (fun k => impl_Weave_linesAt.l0 k acc L (L.length : Int) (i : Int) ps bs) (acc ++ linesL bs (L.drop i)) := by
  intro n
  induction n with
  | zero =>
   intro i acc hi ha
   refine Ev.succ ?_
   simp only [impl_Weave_linesAt.l0]
   rw [drop_end L i (by omega)]
   exact Ev.neg (by omega) (Ev.some_ (by simp [linesL]))
  | succ n ih =>
   intro i acc hi ha
   obtain ⟨m, h1, h2, h4⟩ := hL i (by omega)
   refine Ev.succ ?_
   simp only [impl_Weave_linesAt.l0]
   rw [h1, up1 i (by omega), List.drop_eq_getElem_cons (show i < L.length by omega), h2]
   refine Ev.pos (by omega) (Ev.pos (by omega) (Ev.pos (by omega) (Ev.pos (by omega) (Ev.pos (by omega) (Ev.pos (by omega) ?_)))))
   exact Ev_eq (ih (i + 1) _ (by omega) (by simp; omega)) (by simp [linesL])
 simp only [impl_Weave_linesAt.f]
 exact Ev_eq (key L.length 0 [] (by omega) (by simp)) (by simp)
theorem spec_l03All_ev (l : List ByteArray) (m : Int) (hl : Sized l) : Ev (fun k => spec_l03All.f k l m) (linesOk m l) := by
 simp only [spec_l03All.f]
 by_cases h : (l.length : Int) > m
 ·refine Ev.pos h (Ev.some_ ?_)
  simp only [linesOk]
  rw [show decide ((l.length : Int) ≤ m) = false from by simp; omega]
  rfl
 refine Ev.neg h ?_
 have key : ∀ (n i : Nat), i + n = l.length → Ev (fun k => spec_l03All.l0 k l (i : Int)) (allOk (l.drop i)) := by
  intro n
  induction n with
  | zero =>
   intro i hi
   refine Ev.succ ?_
   simp only [spec_l03All.l0]
   refine Ev.neg (by omega) (Ev.some_ ?_)
   rw [drop_end l i (by omega)]
   rfl
  | succ n ih =>
   intro i hi
   refine Ev.succ ?_
   simp only [spec_l03All.l0]
   have hlt := hl.1
   refine Ev.pos (by omega) (Ev.pos (by omega) (Ev.bnd (spec_LineOk_ev _ (hl.2 _ (rdOf_mem _ l i (by omega)))) ?_))
   rw [up1 i (by omega), drop_rdOf ByteArray.empty l i (by omega)]
   by_cases hx : lineOk (rdOf ByteArray.empty l (i : Int)) = true
   ·refine Ev.pos hx (Ev_eq (ih (i + 1) (by omega)) ?_)
    simp only [allOk, List.all_cons, hx, Bool.true_and]
   ·refine Ev.neg hx (Ev.some_ ?_)
    simp only [allOk, List.all_cons, Bool.not_eq_true _ ▸ hx]
    simp
 refine Ev_eq (key l.length 0 (by omega)) ?_
 simp only [linesOk, List.drop_zero]
 rw [show decide ((l.length : Int) ≤ m) = true from by simp; omega]
 rfl
theorem impl_areLines_ev (l : List ByteArray) (hl : l.length ≤ 140737488351232) : Ev (fun k => impl_areLines.f k l) (allOk l) := by
 simp only [impl_areLines.f]
 have key : ∀ (n i : Nat), i + n = l.length → Ev (fun k => impl_areLines.l0 k l (l.length : Int) (i : Int)) (allOk (l.drop i)) := by
  intro n
  induction n with
  | zero =>
   intro i hi
   refine Ev.succ ?_
   simp only [impl_areLines.l0]
   refine Ev.neg (by omega) (Ev.some_ ?_)
   rw [drop_end l i (by omega)]
   rfl
  | succ n ih =>
   intro i hi
   refine Ev.succ ?_
   simp only [impl_areLines.l0]
   refine Ev.pos (by omega) (Ev.pos (by omega) (Ev.pos (by omega) (Ev.bnd0 (impl_LineOk_eq _) ?_)))
   rw [up1 i (by omega), drop_rdOf ByteArray.empty l i (by omega)]
   by_cases hx : lineOk (rdOf ByteArray.empty l (i : Int)) = true
   ·refine Ev.pos hx (Ev_eq (ih (i + 1) (by omega)) ?_)
    simp only [allOk, List.all_cons, hx, Bool.true_and]
   ·refine Ev.neg hx (Ev.some_ ?_)
    simp only [allOk, List.all_cons]
    simp [Bool.eq_false_iff.2 hx]
 exact key l.length 0 (by omega)
theorem spec_l04Ok_ev (l : List ByteArray) (hl : Sized l) : Ev (fun k => spec_l04Ok.f k l) (linesOk 300 l) := by
 simp only [spec_l04Ok.f]
 exact Ev.bnd (spec_l03All_ev l 300 hl) (Ev.now _)
theorem linesOk_len {m : Int} {l : List ByteArray} (h : linesOk m l = true) : (l.length : Int) ≤ m := by
 simp only [linesOk, Bool.and_eq_true, decide_eq_true_eq] at h
 exact h.1
def TT (a b : List ByteArray) (i j : Nat) : Nat := lcs (a.drop i) (b.drop j)
theorem TT_right (a b : List ByteArray) (i : Nat) : TT a b i b.length = 0 := by
 unfold TT
 rw [List.drop_length, lcs_nil_right]
theorem TT_left (a b : List ByteArray) (j : Nat) : TT a b a.length j = 0 := by
 unfold TT
 rw [List.drop_length, lcs_nil_left]
theorem TT_step (a b : List ByteArray) (i j : Nat) (hi : i < a.length) (hj : j < b.length) : TT a b i j = if a[i] = b[j] then TT a b (i + 1) (j + 1) + 1 else max (TT a b (i + 1) j) (TT a b i (j + 1)) := by
 have ha : a.drop i = a[i] :: a.drop (i + 1) := List.drop_eq_getElem_cons hi
 have hb : b.drop j = b[j] :: b.drop (j + 1) := List.drop_eq_getElem_cons hj
 unfold TT
 rw [ha, hb, lcs_cons]
theorem TT_le (a b : List ByteArray) (i j : Nat) : TT a b i j ≤ a.length := by
 have := lcs_le_left (a.drop i) (b.drop j)
 rw [List.length_drop] at this
 unfold TT
 omega
theorem rdT_nat (x : List (List Int)) (i : Nat) : rd_L2 x (i : Int) = x.getD i [] := by
 simp [rd_L2]
theorem rd_getD (r : List Int) (j : Nat) : rd r (j : Int) = r.getD j 0 := by simp [rd]
def rowOk (a b : List ByteArray) (x : List (List Int)) (i j : Nat) : Prop := (x.getD i []).length = b.length + 1 ∧ ∀ k, j ≤ k → k ≤ b.length → (x.getD i []).getD k 0 = (TT a b i k : Int)
def tabOk (a b : List ByteArray) (x : List (List Int)) (i : Nat) : Prop := x.length = a.length + 1 ∧ ∀ k, i ≤ k → k ≤ a.length → rowOk a b x k 0
theorem getD_set_ne' (x : List (List Int)) (i k : Nat) (r : List Int) (h : k ≠ i) : (x.set i r).getD k [] = x.getD k [] := by
 simp [List.getD, List.getElem?_set_ne (Ne.symm h)]
theorem getD_set_eq' (x : List (List Int)) (i : Nat) (r : List Int) (h : i < x.length) : (x.set i r).getD i [] = r := by
 simp [List.getD, List.getElem?_set_self h]
theorem rowOk_other {a b : List ByteArray} {x : List (List Int)} {i k j : Nat} {r : List Int} (h : k ≠ i) (hr : rowOk a b x k j) : rowOk a b (x.set i r) k j := by
 unfold rowOk at *
 rw [getD_set_ne' x i k r h]
 exact hr
theorem rowOk_put {a b : List ByteArray} {x : List (List Int)} {i j : Nat} {v : Int} (hx : i < x.length) (h : rowOk a b x i (j + 1)) (hj : j ≤ b.length) (hv : v = (TT a b i j : Int)) : rowOk a b (x.set i ((x.getD i []).set j v)) i j := by
 unfold rowOk at *
 rw [getD_set_eq' x i _ hx]
 generalize x.getD i [] = row at h ⊢
 refine ⟨by rw [List.length_set]; exact h.1, fun k hk hk2 => ?_⟩
 by_cases e : k = j
 ·subst e
  simp only [List.getD, List.getElem?_set_self (show k < row.length by omega), hv, Option.getD_some]
 ·have := h.2 k (by omega) hk2
  simp only [List.getD] at this ⊢
  rw [List.getElem?_set_ne (Ne.symm e)]
  exact this
theorem tabOk_row {a b : List ByteArray} {x : List (List Int)} {i : Nat} (h : tabOk a b x (i + 1)) (hr : rowOk a b x i 0) : tabOk a b x i :=
 ⟨h.1, fun k hk hk2 => by
  by_cases e : k = i
  ·subst e; exact hr
  ·exact h.2 k (by omega) hk2⟩
theorem tabOk_put {a b : List ByteArray} {x : List (List Int)} {i j : Nat} {r : List Int} (h : tabOk a b x j) (hij : i < j) : tabOk a b (x.set i r) j :=
 ⟨by rw [List.length_set]; exact h.1, fun k hk hk2 => rowOk_other (by omega) (h.2 k hk hk2)⟩
theorem zeroRow {a b : List ByteArray} {x : List (List Int)} {i : Nat} (h : x.getD i [] = List.replicate (b.length + 1) 0) (hT : TT a b i b.length = 0) : rowOk a b x i b.length := by
 unfold rowOk
 rw [h]
 refine ⟨by simp, fun k hk hk2 => ?_⟩
 have : k = b.length := by omega
 subst this
 rw [hT]
 simp [List.getD]
section
variable (a b : List ByteArray) (ha : a.length ≤ 1000000) (hb : b.length ≤ 1000000)
include ha hb
theorem spec_l04Table_l1 (i : Nat) (hi : i ≤ a.length) (Q : List (List Int) → Prop) (hQ : ∀ y, tabOk a b y i → ∃ r, Ev (fun k => spec_l04Table.l0 k a b y ((i : Int) - 1)) r ∧ Q r) :
  ∀ (j : Nat) (x : List (List Int)), j ≤ b.length → tabOk a b x (i + 1) → x.length = a.length + 1 → rowOk a b x i (if i < a.length then j else 0) → ∃ r, Ev (fun k => spec_l04Table.l1 k a b x (i : Int) ((j : Int) - 1)) r ∧ Q r := by
 intro j
 induction j with
 | zero =>
  intro x hj ht hxl hr
  have hr0 : rowOk a b x i 0 := by
   split at hr <;> exact hr
  obtain ⟨r, hev, hq⟩ := hQ x (tabOk_row ht hr0)
  refine ⟨r, Ev.succ ?_, hq⟩
  simp only [spec_l04Table.l1]
  refine Ev.neg (by omega) (Ev.succ ?_)
  simp only [spec_l04Table.j2]
  rw [show wrap64 ((i : Int) - 1) = (i : Int) - 1 from w64 (by omega) (by omega)]
  exact Ev.neg (by simp) hev
 | succ j ih =>
  intro x hj ht hxl hr
  by_cases hia : i < a.length
  ·rw [if_pos hia] at hr
   have hr1 := ht.2 (i + 1) (by omega) (by omega)
   have hl0 : (rd_L2 x (i : Int)).length = b.length + 1 := by rw [rdT_nat]; exact hr.1
   have hl1 : (rd_L2 x ((i + 1 : Nat) : Int)).length = b.length + 1 := by rw [rdT_nat]; exact hr1.1
   have v1 : rd (rd_L2 x ((i + 1 : Nat) : Int)) (j : Int) = (TT a b (i + 1) j : Int) := by rw [rdT_nat, rd_getD]; exact hr1.2 j (by omega) (by omega)
   have v2 : rd (rd_L2 x ((i + 1 : Nat) : Int)) ((j + 1 : Nat) : Int) = (TT a b (i + 1) (j + 1) : Int) := by rw [rdT_nat, rd_getD]; exact hr1.2 (j + 1) (by omega) (by omega)
   have v3 : rd (rd_L2 x (i : Int)) ((j + 1 : Nat) : Int) = (TT a b i (j + 1) : Int) := by rw [rdT_nat, rd_getD]; exact hr.2 (j + 1) (by omega) (by omega)
   have hst := TT_step a b i j hia (by omega)
   have hle := TT_le a b (i + 1) (j + 1)
   have sa : rdOf ByteArray.empty a (i : Int) = a[i] := rdOf_nat _ _ _ hia
   have sb : rdOf ByteArray.empty b (j : Int) = b[j]'(by omega) := rdOf_nat _ _ _ (by omega)
   have e1 : (((j + 1 : Nat) : Int) - 1) = (j : Int) := by omega
   rw [e1]
   have next : ∀ v : Int, v = (TT a b i j : Int) → ∃ r, Ev (fun k => spec_l04Table.l1 k a b (x.set i ((rd_L2 x (i : Int)).set j v)) (i : Int) ((j : Int) - 1)) r ∧ Q r := by
    intro v hv
    rw [rdT_nat]
    refine ih _ (by omega) (tabOk_put ht (by omega)) (by rw [List.length_set]; exact hxl) ?_
    rw [if_pos hia]
    exact rowOk_put (by omega) hr (by omega) hv
   have main : ∀ v : Int, v = (TT a b i j : Int) → (∀ r, Ev (fun k => spec_l04Table.l1 k a b (x.set i ((rd_L2 x (i : Int)).set j v)) (i : Int) ((j : Int) - 1)) r → Ev (fun k => spec_l04Table.j2 k a b x (i : Int) (j : Int) true) r) → ∃ r, Ev (fun k => spec_l04Table.l1 k a b x (i : Int) (j : Int)) r ∧ Q r := by
    intro v hv hm
    obtain ⟨r, hev, hq⟩ := next v hv
    refine ⟨r, Ev.succ ?_, hq⟩
    simp only [spec_l04Table.l1]
    refine Ev.pos (by omega) ?_
    rw [show decide ((i : Int) < (a.length : Int)) = true from by simp; omega]
    exact hm r hev
   by_cases he : a[i] = b[j]'(by omega)
   ·rw [if_pos he] at hst
    refine main (TT a b (i + 1) (j + 1) + 1 : Int) (by rw [hst]; omega) (fun r hev => Ev.succ ?_)
    simp only [spec_l04Table.j2]
    rw [up1 i (by omega), up1 j (by omega), v1, v2, v3, sa, sb]
    rw [show wrap64 ((TT a b (i + 1) (j + 1) : Int) + 1) = (TT a b (i + 1) (j + 1) : Int) + 1 from w64 (by omega) (by omega), show wrap64 ((j : Int) - 1) = (j : Int) - 1 from w64 (by omega) (by omega), Int.toNat_natCast, Int.toNat_natCast]
    refine Ev.pos trivial (Ev.pos (by omega) (Ev.pos (by omega) (Ev.pos (by omega) (Ev.pos (by omega) (Ev.pos (by omega) (Ev.pos (by omega) (Ev.pos (by omega) (Ev.pos (by omega) ?_))))))))
    by_cases hgt : (TT a b i (j + 1) : Int) > (TT a b (i + 1) j : Int)
    ·exact Ev.pos hgt (Ev.pos (by omega) (Ev.pos (by omega) (Ev.pos ((toList_iff _ _).2 he) (Ev.pos (by omega) (Ev.pos (by omega) hev)))))
    ·exact Ev.neg hgt (Ev.pos (by omega) (Ev.pos (by omega) (Ev.pos ((toList_iff _ _).2 he) (Ev.pos (by omega) (Ev.pos (by omega) hev)))))
   ·rw [if_neg he] at hst
    by_cases hgt : (TT a b i (j + 1) : Int) > (TT a b (i + 1) j : Int)
    ·refine main (TT a b i (j + 1) : Int) (by rw [hst]; omega) (fun r hev => Ev.succ ?_)
     simp only [spec_l04Table.j2]
     rw [up1 i (by omega), up1 j (by omega), v1, v3, sa, sb]
     rw [show wrap64 ((j : Int) - 1) = (j : Int) - 1 from w64 (by omega) (by omega), Int.toNat_natCast, Int.toNat_natCast]
     exact Ev.pos trivial (Ev.pos (by omega) (Ev.pos (by omega) (Ev.pos (by omega) (Ev.pos (by omega) (Ev.pos (by omega) (Ev.pos (by omega) (Ev.pos (by omega) (Ev.pos (by omega) (Ev.pos hgt (Ev.pos (by omega) (Ev.pos (by omega) (Ev.neg (fun h => he ((toList_iff _ _).1 h)) (Ev.pos (by omega) hev)))))))))))))
    ·refine main (TT a b (i + 1) j : Int) (by rw [hst]; omega) (fun r hev => Ev.succ ?_)
     simp only [spec_l04Table.j2]
     rw [up1 i (by omega), up1 j (by omega), v1, v3, sa, sb]
     rw [show wrap64 ((j : Int) - 1) = (j : Int) - 1 from w64 (by omega) (by omega), Int.toNat_natCast, Int.toNat_natCast]
     exact Ev.pos trivial (Ev.pos (by omega) (Ev.pos (by omega) (Ev.pos (by omega) (Ev.pos (by omega) (Ev.pos (by omega) (Ev.pos (by omega) (Ev.pos (by omega) (Ev.pos (by omega) (Ev.neg hgt (Ev.pos (by omega) (Ev.pos (by omega) (Ev.neg (fun h => he ((toList_iff _ _).1 h)) (Ev.pos (by omega) hev)))))))))))))
  ·rw [if_neg hia] at hr
   obtain ⟨r, hev, hq⟩ := hQ x (tabOk_row ht hr)
   refine ⟨r, Ev.succ ?_, hq⟩
   simp only [spec_l04Table.l1]
   refine Ev.pos (by omega) ?_
   rw [show decide ((i : Int) < (a.length : Int)) = false from by simp; omega]
   refine Ev.succ ?_
   simp only [spec_l04Table.j2]
   rw [show wrap64 ((i : Int) - 1) = (i : Int) - 1 from w64 (by omega) (by omega)]
   exact Ev.neg (by simp) hev
theorem spec_l04Table_l0 : ∀ (i : Nat) (x : List (List Int)), i ≤ a.length + 1 → tabOk a b x i → ∃ r, Ev (fun k => spec_l04Table.l0 k a b x ((i : Int) - 1)) r ∧ tabOk a b r 0 := by
 intro i
 induction i with
 | zero =>
  intro x hi ht
  refine ⟨x, Ev.succ ?_, ht⟩
  simp only [spec_l04Table.l0]
  exact Ev.neg (by omega) (Ev.now _)
 | succ i ih =>
  intro x hi ht
  have e1 : (((i + 1 : Nat) : Int) - 1) = (i : Int) := by omega
  rw [e1]
  have hxl := ht.1
  have hz : (x.set i (List.replicate (b.length + 1) 0)).getD i [] = List.replicate (b.length + 1) 0 := getD_set_eq' x i _ (by omega)
  obtain ⟨r, hev, hq⟩ := spec_l04Table_l1 a b ha hb i (by omega) _ (fun y hy => ih y (by omega) hy) b.length (x.set i (List.replicate (b.length + 1) 0)) (Nat.le_refl _) (tabOk_put ht (by omega)) (by rw [List.length_set]; exact hxl) (by
   have h1 := zeroRow (a := a) (i := i) hz (TT_right a b i)
   by_cases hia : i < a.length
   ·rw [if_pos hia]; exact h1
   ·rw [if_neg hia]
    have : i = a.length := by omega
    subst this
    refine ⟨h1.1, fun k _ hk => ?_⟩
    rw [hz, TT_left]
    simp only [List.getD, List.getElem?_replicate]
    split <;> rfl)
  refine ⟨r, Ev.succ ?_, hq⟩
  simp only [spec_l04Table.l0]
  rw [show wrap64 ((b.length : Int) + 1) = ((b.length + 1 : Nat) : Int) from up1 _ (by omega), show wrap64 ((b.length : Int) - 1) = (b.length : Int) - 1 from w64 (by omega) (by omega), Int.toNat_natCast, Int.toNat_natCast]
  exact Ev.pos (by omega) (Ev.pos (by omega) (Ev.pos (by omega) (Ev.pos (by omega) (Ev.pos (by omega) hev))))
theorem spec_l04Table_ev : ∃ x, Ev (fun k => spec_l04Table.f k a b) x ∧ tabOk a b x 0 := by
 obtain ⟨r, hev, hq⟩ := spec_l04Table_l0 a b ha hb (a.length + 1) (List.replicate (a.length + 1) []) (Nat.le_refl _) ⟨by simp, fun k h1 h2 => absurd h1 (by omega)⟩
 refine ⟨r, ?_, hq⟩
 simp only [spec_l04Table.f]
 rw [show wrap64 ((a.length : Int) + 1) = ((a.length + 1 : Nat) : Int) from up1 _ (by omega), Int.toNat_natCast]
 refine Ev.pos (by omega) (Ev.pos (by omega) ?_)
 have e1 : (((a.length + 1 : Nat) : Int) - 1) = (a.length : Int) := by omega
 rw [e1] at hev
 exact hev
end
theorem mx_max (p q : Nat) : mx (p : Int) (q : Int) = ((max p q : Nat) : Int) := by
 unfold mx
 split <;> omega
section
variable (a b : List ByteArray) (ha : a.length ≤ 1000000) (hb : b.length ≤ 1000000)
include ha hb
theorem impl_commonFrom_l2 (i : Nat) (hi : i < a.length) (Q : List (List Int) → Prop) (hQ : ∀ y, tabOk a b y i → (∀ k, k < i → y.getD k [] = List.replicate (b.length + 1) 0) → ∃ r, Ev (fun k => impl_commonFrom.l1 k a b y ((i : Int) - 1)) r ∧ Q r) :
  ∀ (j : Nat) (x : List (List Int)), j ≤ b.length → tabOk a b x (i + 1) → (∀ k, k < i → x.getD k [] = List.replicate (b.length + 1) 0) → rowOk a b x i j → ∃ r, Ev (fun k => impl_commonFrom.l2 k a b x (i : Int) ((j : Int) - 1)) r ∧ Q r := by
 intro j
 induction j with
 | zero =>
  intro x hj ht hz hr
  obtain ⟨r, hev, hq⟩ := hQ x (tabOk_row ht hr) hz
  refine ⟨r, Ev.succ ?_, hq⟩
  simp only [impl_commonFrom.l2]
  rw [show wrap64 ((i : Int) - 1) = (i : Int) - 1 from w64 (by omega) (by omega)]
  exact Ev.neg (by omega) hev
 | succ j ih =>
  intro x hj ht hz hr
  have hxl := ht.1
  have hr1 := ht.2 (i + 1) (by omega) (by omega)
  have hl0 : (rd_L2 x (i : Int)).length = b.length + 1 := by rw [rdT_nat]; exact hr.1
  have hl1 : (rd_L2 x ((i + 1 : Nat) : Int)).length = b.length + 1 := by rw [rdT_nat]; exact hr1.1
  have v1 : rd (rd_L2 x ((i + 1 : Nat) : Int)) (j : Int) = (TT a b (i + 1) j : Int) := by rw [rdT_nat, rd_getD]; exact hr1.2 j (by omega) (by omega)
  have v2 : rd (rd_L2 x ((i + 1 : Nat) : Int)) ((j + 1 : Nat) : Int) = (TT a b (i + 1) (j + 1) : Int) := by rw [rdT_nat, rd_getD]; exact hr1.2 (j + 1) (by omega) (by omega)
  have v3 : rd (rd_L2 x (i : Int)) ((j + 1 : Nat) : Int) = (TT a b i (j + 1) : Int) := by rw [rdT_nat, rd_getD]; exact hr.2 (j + 1) (by omega) (by omega)
  have hst := TT_step a b i j hi (by omega)
  have hle := TT_le a b (i + 1) (j + 1)
  have sa : rdOf ByteArray.empty a (i : Int) = a[i] := rdOf_nat _ _ _ hi
  have sb : rdOf ByteArray.empty b (j : Int) = b[j]'(by omega) := rdOf_nat _ _ _ (by omega)
  have e1 : (((j + 1 : Nat) : Int) - 1) = (j : Int) := by omega
  rw [e1]
  have next : ∀ v : Int, v = (TT a b i j : Int) → ∃ r, Ev (fun k => impl_commonFrom.l2 k a b (x.set i ((rd_L2 x (i : Int)).set j v)) (i : Int) ((j : Int) - 1)) r ∧ Q r := by
   intro v hv
   rw [rdT_nat]
   exact ih _ (by omega) (tabOk_put ht (by omega)) (fun k hk => by rw [getD_set_ne' x i k _ (by omega)]; exact hz k hk) (rowOk_put (by omega) hr (by omega) hv)
  by_cases he : a[i] = b[j]'(by omega)
  ·rw [if_pos he] at hst
   obtain ⟨r, hev, hq⟩ := next (TT a b (i + 1) (j + 1) + 1 : Int) (by rw [hst]; omega)
   refine ⟨r, Ev.succ ?_, hq⟩
   simp only [impl_commonFrom.l2]
   rw [up1 i (by omega), up1 j (by omega), v2, sa, sb]
   rw [show wrap64 ((TT a b (i + 1) (j + 1) : Int) + 1) = (TT a b (i + 1) (j + 1) : Int) + 1 from w64 (by omega) (by omega), show wrap64 ((j : Int) - 1) = (j : Int) - 1 from w64 (by omega) (by omega), Int.toNat_natCast, Int.toNat_natCast]
   exact Ev.pos (by omega) (Ev.pos (by omega) (Ev.pos (by omega) (Ev.pos (by omega) (Ev.pos (by omega) (Ev.pos ((toList_iff _ _).2 he) (Ev.pos (by omega) (Ev.pos (by omega) (Ev.pos (by omega) (Ev.pos (by omega) (Ev.pos (by omega) (Ev.pos (by omega) hev)))))))))))
  ·rw [if_neg he] at hst
   obtain ⟨r, hev, hq⟩ := next ((max (TT a b (i + 1) j) (TT a b i (j + 1)) : Nat) : Int) (by rw [hst])
   refine ⟨r, Ev.succ ?_, hq⟩
   simp only [impl_commonFrom.l2]
   rw [up1 i (by omega), up1 j (by omega), v1, v3, sa, sb, mx_max]
   rw [show wrap64 ((j : Int) - 1) = (j : Int) - 1 from w64 (by omega) (by omega), Int.toNat_natCast, Int.toNat_natCast]
   exact Ev.pos (by omega) (Ev.pos (by omega) (Ev.pos (by omega) (Ev.pos (by omega) (Ev.pos (by omega) (Ev.neg (fun h => he ((toList_iff _ _).1 h)) (Ev.pos (by omega) (Ev.pos (by omega) (Ev.pos (by omega) (Ev.pos (by omega) (Ev.pos (by omega) (Ev.pos (by omega) (Ev.pos (by omega) hev))))))))))))
theorem impl_commonFrom_l1 : ∀ (i : Nat) (x : List (List Int)), i ≤ a.length → tabOk a b x i → (∀ k, k < i → x.getD k [] = List.replicate (b.length + 1) 0) → ∃ r, Ev (fun k => impl_commonFrom.l1 k a b x ((i : Int) - 1)) r ∧ tabOk a b r 0 := by
 intro i
 induction i with
 | zero =>
  intro x hi ht hz
  refine ⟨x, Ev.succ ?_, ht⟩
  simp only [impl_commonFrom.l1]
  exact Ev.neg (by omega) (Ev.now _)
 | succ i ih =>
  intro x hi ht hz
  have e1 : (((i + 1 : Nat) : Int) - 1) = (i : Int) := by omega
  rw [e1]
  obtain ⟨r, hev, hq⟩ := impl_commonFrom_l2 a b ha hb i (by omega) _ (fun y hy hy2 => ih y (by omega) hy hy2) b.length x (Nat.le_refl _) ht (fun k hk => hz k (by omega)) (zeroRow (hz i (by omega)) (TT_right a b i))
  refine ⟨r, Ev.succ ?_, hq⟩
  simp only [impl_commonFrom.l1]
  refine Ev.pos (by omega) ?_
  rw [show wrap64 ((b.length : Int) - 1) = (b.length : Int) - 1 from w64 (by omega) (by omega)]
  exact hev
theorem impl_commonFrom_ev : ∃ x, Ev (fun k => impl_commonFrom.f k a b) x ∧ tabOk a b x 0 := by
 have key : ∀ (n i : Nat) (x : List (List Int)), i + n = a.length + 1 → x.length = a.length + 1 → (∀ k, k < i → x.getD k [] = List.replicate (b.length + 1) 0) → ∃ r, Ev (fun k => impl_commonFrom.l0 k a b x ((a.length + 1 : Nat) : Int) (i : Int)) r ∧ tabOk a b r 0 := by
  intro n
  induction n with
  | zero =>
   intro i x hi hl hz
   obtain ⟨r, hev, hq⟩ := impl_commonFrom_l1 a b ha hb a.length x (Nat.le_refl _) ⟨hl, fun k h1 h2 => by
    have : k = a.length := by omega
    subst this
    unfold rowOk
    rw [hz a.length (by omega)]
    refine ⟨by simp, fun k _ hk => ?_⟩
    rw [TT_left]
    simp only [List.getD, List.getElem?_replicate]
    split <;> rfl⟩ (fun k hk => hz k (by omega))
   refine ⟨r, Ev.succ ?_, hq⟩
   simp only [impl_commonFrom.l0]
   refine Ev.neg (by omega) ?_
   rw [show wrap64 ((a.length : Int) - 1) = (a.length : Int) - 1 from w64 (by omega) (by omega)]
   exact hev
  | succ n ih =>
   intro i x hi hl hz
   obtain ⟨r, hev, hq⟩ := ih (i + 1) (x.set i (List.replicate (b.length + 1) 0)) (by omega) (by rw [List.length_set]; exact hl) (fun k hk => by
    by_cases e : k = i
    ·subst e; exact getD_set_eq' x k _ (by omega)
    ·rw [getD_set_ne' x i k _ e]; exact hz k (by omega))
   refine ⟨r, Ev.succ ?_, hq⟩
   simp only [impl_commonFrom.l0]
   rw [show wrap64 ((b.length : Int) + 1) = ((b.length + 1 : Nat) : Int) from up1 _ (by omega), up1 i (by omega), Int.toNat_natCast, Int.toNat_natCast]
   exact Ev.pos (by omega) (Ev.pos (by omega) (Ev.pos (by omega) (Ev.pos (by omega) (Ev.pos (by omega) hev))))
 obtain ⟨r, hev, hq⟩ := key (a.length + 1) 0 (List.replicate (a.length + 1) []) (by omega) (by simp) (fun k hk => absurd hk (by omega))
 refine ⟨r, ?_, hq⟩
 simp only [impl_commonFrom.f]
 rw [show wrap64 ((a.length : Int) + 1) = ((a.length + 1 : Nat) : Int) from up1 _ (by omega), Int.toNat_natCast]
 refine Ev.pos (by omega) (Ev.pos (by omega) (Ev.bnd0 rfl ?_))
 rw [List.length_replicate]
 exact hev
end
theorem tab_at {a b : List ByteArray} {x : List (List Int)} (h : tabOk a b x 0) (i j : Nat) (hi : i ≤ a.length) (hj : j ≤ b.length) : rd (rd_L2 x (i : Int)) (j : Int) = (TT a b i j : Int) := by
 rw [rdT_nat, rd_getD]
 exact (h.2 i (Nat.zero_le _) hi).2 j (Nat.zero_le _) hj
theorem tab_len {a b : List ByteArray} {x : List (List Int)} (h : tabOk a b x 0) (i : Nat) (hi : i ≤ a.length) : (rd_L2 x (i : Int)).length = b.length + 1 := by
 rw [rdT_nat]
 exact (h.2 i (Nat.zero_le _) hi).1
def alignL (a b : List ByteArray) : List Int := if linesOk 300 a = true ∧ linesOk 300 b = true then pairs 0 a b else []
theorem toList_ne {a b : ByteArray} (h : ¬ a = b) : ¬ a.toList = b.toList := fun e => h ((toList_iff _ _).1 e)
theorem drop_cons' {α : Type} (l : List α) (i : Nat) (h : i < l.length) : l.drop i = l[i] :: l.drop (i + 1) := List.drop_eq_getElem_cons h
theorem impl_align_l0 (a b : List ByteArray) (t : List (List Int)) (r : List Int) : ∀ (n i : Nat) (x : List Int), i + n = x.length → x.length ≤ 1000000 → (∀ j, j < i → x[j]? = some (-1)) → Ev (fun k => impl_align.l1 k a b t (List.replicate x.length (-1)) 0 0) r → Ev (fun k => impl_align.l0 k a b t x (x.length : Int) (i : Int)) r := by
 intro n
 induction n with
 | zero =>
  intro i x hi hl hx hr
  refine Ev.succ ?_
  simp only [impl_align.l0]
  refine Ev.neg (by omega) ?_
  have : x = List.replicate x.length (-1) := by
   apply List.ext_getElem?
   intro j
   by_cases h : j < i
   ·rw [hx j h, List.getElem?_replicate, if_pos (by omega)]
   ·rw [List.getElem?_eq_none (by omega), List.getElem?_eq_none (by simp; omega)]
  rw [this]
  exact hr
 | succ n ih =>
  intro i x hi hl hx hr
  refine Ev.succ ?_
  simp only [impl_align.l0]
  rw [up1 i (by omega), Int.toNat_natCast]
  refine Ev.pos (by omega) (Ev.pos (by omega) (Ev.pos (by omega) ?_))
  have := ih (i + 1) (x.set i (-1)) (by rw [List.length_set]; omega) (by rw [List.length_set]; omega) (by
   intro j hj
   by_cases h : j = i
   ·subst h
    rw [List.getElem?_set_self (by omega)]
   ·rw [List.getElem?_set_ne (by omega)]
    exact hx j (by omega)) (by rw [List.length_set]; exact hr)
  rw [List.length_set] at this
  exact this
section
variable (a b : List ByteArray) (t : List (List Int)) (ht : tabOk a b t 0) (ha : a.length ≤ 1000000) (hb : b.length ≤ 1000000)
include ha hb ht
theorem impl_align_l1 : ∀ (n i j : Nat) (acc : List Int), i ≤ a.length → j ≤ b.length → (a.length - i) + (b.length - j) ≤ n → acc.length = j → Ev (fun k => impl_align.l1 k a b t (acc ++ List.replicate (b.length - j) (-1)) (i : Int) (j : Int)) (acc ++ pairs i (a.drop i) (b.drop j)) := by
 intro n
 induction n with
 | zero =>
  intro i j acc hi hj hn hl
  have e1 : i = a.length := by omega
  have e2 : j = b.length := by omega
  subst e1; subst e2
  refine Ev.succ ?_
  simp only [impl_align.l1]
  refine Ev.neg (by omega) (Ev.succ ?_)
  simp only [impl_align.j2]
  exact Ev.neg (by simp) (Ev.some_ (by rw [List.drop_length, List.drop_length, pairs_nil, Nat.sub_self]; rfl))
 | succ n ih =>
  intro i j acc hi hj hn hl
  refine Ev.succ ?_
  simp only [impl_align.l1]
  by_cases hia : i < a.length
  ·refine Ev.pos (by omega) ?_
   by_cases hjb : j < b.length
   ·rw [show decide ((j : Int) < (b.length : Int)) = true from by simp; omega]
    refine Ev.succ ?_
    simp only [impl_align.j2]
    have hl0 := tab_len ht i (by omega)
    have hl1 := tab_len ht (i + 1) (by omega)
    have v1 := tab_at ht (i + 1) j (by omega) (by omega)
    have v2 := tab_at ht i (j + 1) (by omega) (by omega)
    have hxl := ht.1
    have hal : (acc ++ List.replicate (b.length - j) (-1 : Int)).length = b.length := by simp; omega
    have hrep : List.replicate (b.length - j) (-1 : Int) = -1 :: List.replicate (b.length - (j + 1)) (-1) := by
     rw [← List.replicate_succ]; congr 1; omega
    rw [up1 i (by omega), up1 j (by omega), v1, v2, rdOf_nat _ _ _ hia, rdOf_nat _ _ _ hjb]
    rw [drop_cons' a i hia, drop_cons' b j hjb, pairs_cons]
    by_cases he : a[i] = b[j]
    ·rw [if_pos he]
     refine Ev.pos (by first | rfl | trivial) (Ev.pos (by omega) (Ev.pos (by omega) (Ev.pos (by omega) (Ev.pos (by omega) (Ev.pos ((toList_iff _ _).2 he) (Ev.pos (by omega) ?_))))))
     have := ih (i + 1) (j + 1) (acc ++ [(i : Int)]) (by omega) (by omega) (by omega) (by simp; omega)
     rw [List.append_assoc, List.append_assoc, List.singleton_append, List.singleton_append] at this
     rw [Int.toNat_natCast, hrep, ← hl, List.set_append_right _ _ (Nat.le_refl _), Nat.sub_self, List.set_cons_zero, hl]
     exact this
    ·rw [if_neg he]
     refine Ev.pos (by first | rfl | trivial) (Ev.pos (by omega) (Ev.pos (by omega) (Ev.pos (by omega) (Ev.pos (by omega) (Ev.neg (toList_ne he) (Ev.pos (by omega) (Ev.pos (by omega) (Ev.pos (by omega) (Ev.pos (by omega) (Ev.pos (by omega) (Ev.pos (by omega) ?_)))))))))))
     have c1 : TT a b (i + 1) j = lcs (a.drop (i + 1)) (b[j] :: b.drop (j + 1)) := by rw [TT, drop_cons' b j hjb]
     have c2 : TT a b i (j + 1) = lcs (a[i] :: a.drop (i + 1)) (b.drop (j + 1)) := by rw [TT, drop_cons' a i hia]
     rw [← c1, ← c2]
     by_cases hge : TT a b (i + 1) j ≥ TT a b i (j + 1)
     ·rw [if_pos hge]
      refine Ev.pos (by omega) ?_
      have := ih (i + 1) j acc (by omega) (by omega) (by omega) hl
      rw [drop_cons' b j hjb] at this
      exact this
     ·rw [if_neg hge]
      refine Ev.neg (by omega) ?_
      have := ih i (j + 1) (acc ++ [-1]) (by omega) (by omega) (by omega) (by simp; omega)
      rw [List.append_assoc, List.append_assoc, List.singleton_append, List.singleton_append, drop_cons' a i hia, ← hrep] at this
      exact this
   ·have e2 : j = b.length := by omega
    subst e2
    rw [show decide (((b.length : Nat) : Int) < (b.length : Int)) = false from by simp]
    refine Ev.succ ?_
    simp only [impl_align.j2]
    exact Ev.neg (by simp) (Ev.some_ (by rw [List.drop_length, pairs_nil_right, Nat.sub_self]; rfl))
  ·refine Ev.neg (by omega) (Ev.succ ?_)
   simp only [impl_align.j2]
   have e1 : i = a.length := by omega
   subst e1
   exact Ev.neg (by simp) (Ev.some_ (by rw [List.drop_length, pairs_nil, List.length_drop]))
end
theorem impl_align_ev (a b : List ByteArray) (ha : a.length ≤ 1000000) (hb : b.length ≤ 1000000) : Ev (fun k => impl_align.f k a b) (pairs 0 a b) := by
 obtain ⟨x, hx, ht⟩ := impl_commonFrom_ev a b ha hb
 have h1 := impl_align_l1 a b x ht ha hb _ 0 0 [] (by omega) (by omega) (Nat.le_refl _) rfl
 have h0 := impl_align_l0 a b x (pairs 0 a b) b.length 0 (List.replicate b.length 0) (by simp) (by simp; omega) (fun j h => absurd h (by omega)) (by rw [List.length_replicate]; exact h1)
 simp only [impl_align.f]
 refine Ev.bnd hx (Ev.pos (by omega) (Ev.pos (by omega) (Ev.bnd0 rfl ?_)))
 rw [Int.toNat_natCast]
 exact h0
section
variable (a b : List ByteArray) (t : List (List Int)) (ht : tabOk a b t 0) (ha : a.length ≤ 1000000) (hb : b.length ≤ 1000000)
include hb
theorem spec_Align_l1 : ∀ (n j : Nat) (acc : List Int), j + n = b.length → acc.length ≤ j → Ev (fun k => spec_Align.l1 k b acc (j : Int)) (acc ++ List.replicate n (-1)) := by
 intro n
 induction n with
 | zero =>
  intro j acc hj hl
  refine Ev.succ ?_
  simp only [spec_Align.l1]
  exact Ev.neg (by omega) (Ev.some_ (by simp))
 | succ n ih =>
  intro j acc hj hl
  refine Ev.succ ?_
  simp only [spec_Align.l1]
  rw [up1 j (by omega)]
  refine Ev.pos (by omega) (Ev.pos (by omega) ?_)
  have := ih (j + 1) (acc ++ [-1]) (by omega) (by simp; omega)
  rw [List.append_assoc, List.singleton_append, ← List.replicate_succ] at this
  exact this
include ha ht
theorem spec_Align_l0 : ∀ (n i j : Nat) (acc : List Int), i ≤ a.length → j ≤ b.length → (a.length - i) + (b.length - j) ≤ n → acc.length ≤ j → Ev (fun k => spec_Align.l0 k a b acc t (i : Int) (j : Int)) (acc ++ pairs i (a.drop i) (b.drop j)) := by
 intro n
 induction n with
 | zero =>
  intro i j acc hi hj hn hl
  have e1 : i = a.length := by omega
  have e2 : j = b.length := by omega
  subst e1; subst e2
  refine Ev.succ ?_
  simp only [spec_Align.l0]
  refine Ev.neg (by omega) (Ev.succ ?_)
  simp only [spec_Align.j2]
  refine Ev.neg (by simp) ?_
  rw [List.drop_length, List.drop_length, pairs_nil]
  exact spec_Align_l1 b hb 0 b.length acc (by omega) hl
 | succ n ih =>
  intro i j acc hi hj hn hl
  refine Ev.succ ?_
  simp only [spec_Align.l0]
  by_cases hia : i < a.length
  ·refine Ev.pos (by omega) ?_
   by_cases hjb : j < b.length
   ·rw [show decide ((j : Int) < (b.length : Int)) = true from by simp; omega]
    refine Ev.succ ?_
    simp only [spec_Align.j2]
    have hl0 := tab_len ht i (by omega)
    have hl1 := tab_len ht (i + 1) (by omega)
    have v1 := tab_at ht (i + 1) j (by omega) (by omega)
    have v2 := tab_at ht i (j + 1) (by omega) (by omega)
    have hxl := ht.1
    rw [up1 i (by omega), up1 j (by omega), v1, v2, rdOf_nat _ _ _ hia, rdOf_nat _ _ _ hjb]
    rw [drop_cons' a i hia, drop_cons' b j hjb, pairs_cons]
    by_cases he : a[i] = b[j]
    ·rw [if_pos he]
     refine Ev.pos (by first | rfl | trivial) (Ev.pos (by omega) (Ev.pos (by omega) (Ev.pos (by omega) (Ev.pos (by omega) (Ev.pos ((toList_iff _ _).2 he) (Ev.pos (by omega) ?_))))))
     have := ih (i + 1) (j + 1) (acc ++ [(i : Int)]) (by omega) (by omega) (by omega) (by simp; omega)
     rw [List.append_assoc, List.singleton_append] at this
     exact this
    ·rw [if_neg he]
     refine Ev.pos (by first | rfl | trivial) (Ev.pos (by omega) (Ev.pos (by omega) (Ev.pos (by omega) (Ev.pos (by omega) (Ev.neg (toList_ne he) (Ev.pos (by omega) (Ev.pos (by omega) (Ev.pos (by omega) (Ev.pos (by omega) (Ev.pos (by omega) (Ev.pos (by omega) ?_)))))))))))
     have c1 : TT a b (i + 1) j = lcs (a.drop (i + 1)) (b[j] :: b.drop (j + 1)) := by rw [TT, drop_cons' b j hjb]
     have c2 : TT a b i (j + 1) = lcs (a[i] :: a.drop (i + 1)) (b.drop (j + 1)) := by rw [TT, drop_cons' a i hia]
     rw [← c1, ← c2]
     by_cases hge : TT a b (i + 1) j ≥ TT a b i (j + 1)
     ·rw [if_pos hge]
      refine Ev.pos (by omega) ?_
      have := ih (i + 1) j acc (by omega) (by omega) (by omega) hl
      rw [drop_cons' b j hjb] at this
      exact this
     ·rw [if_neg hge]
      refine Ev.neg (by omega) (Ev.pos (by omega) ?_)
      have := ih i (j + 1) (acc ++ [-1]) (by omega) (by omega) (by omega) (by simp; omega)
      rw [List.append_assoc, List.singleton_append, drop_cons' a i hia] at this
      exact this
   ·have e2 : j = b.length := by omega
    subst e2
    rw [show decide (((b.length : Nat) : Int) < (b.length : Int)) = false from by simp]
    refine Ev.succ ?_
    simp only [spec_Align.j2]
    refine Ev.neg (by simp) ?_
    rw [List.drop_length, pairs_nil_right]
    exact spec_Align_l1 b hb 0 b.length acc (by omega) hl
  ·refine Ev.neg (by omega) (Ev.succ ?_)
   simp only [spec_Align.j2]
   refine Ev.neg (by simp) ?_
   have e1 : i = a.length := by omega
   subst e1
   rw [List.drop_length, pairs_nil, List.length_drop]
   exact spec_Align_l1 b hb _ j acc (by omega) hl
end
theorem spec_Align_ev (a b : List ByteArray) (ha : Sized a) (hb : Sized b) : Ev (fun k => spec_Align.f k a b) (alignL a b) := by
 simp only [spec_Align.f]
 refine Ev.bnd0 rfl (Ev.bnd (spec_l04Ok_ev a ha) ?_)
 by_cases h1 : linesOk 300 a = true
 ·refine Ev.pos h1 (Ev.bnd (spec_l04Ok_ev b hb) (Ev.succ ?_))
  simp only [spec_Align.j0]
  by_cases h2 : linesOk 300 b = true
  ·have l1 := linesOk_len h1
   have l2 := linesOk_len h2
   obtain ⟨x, hx, ht⟩ := spec_l04Table_ev a b (by omega) (by omega)
   refine Ev.neg (by rw [h2]; simp) (Ev.bnd hx ?_)
   have := spec_Align_l0 a b x ht (by omega) (by omega) _ 0 0 [] (by omega) (by omega) (Nat.le_refl _) (by simp)
   rw [alignL, if_pos ⟨h1, h2⟩]
   exact this
  ·exact Ev.pos (by simp [h2]) (Ev.some_ (by rw [alignL, if_neg (fun h => h2 h.2)]))
 ·refine Ev.neg h1 (Ev.succ ?_)
  simp only [spec_Align.j0]
  exact Ev.pos (by first | rfl | trivial) (Ev.some_ (by rw [alignL, if_neg (fun h => h1 h.1)]))
theorem spec_LinesOk_ev (l : List ByteArray) (hl : Sized l) : Ev (fun k => spec_LinesOk.f k l) (linesOk 80 l) := by
 simp only [spec_LinesOk.f]
 exact Ev.bnd (spec_l03All_ev l 80 hl) (Ev.now _)
theorem impl_LinesOk_ev (l : List ByteArray) (hl : Sized l) : Ev (fun k => impl_LinesOk.f k l) (linesOk 80 l) := by
 simp only [impl_LinesOk.f]
 by_cases h : (l.length : Int) ≤ 80
 ·exact Ev.pos h (Ev.bnd (impl_areLines_ev l hl.1) (Ev.some_ (by simp [linesOk, h])))
 ·exact Ev.neg h (Ev.some_ (by simp [linesOk, h]))
theorem asc_range (n : Int) : ∀ (o : Option Int) (l : List Int), asc n o l = true → ∀ d ∈ l, 0 ≤ d ∧ d ≤ n - 1
 | _, [], _, d, h => by simp at h
 | none, v :: l, h, d, hd => by
  simp only [asc, Bool.and_eq_true, decide_eq_true_eq] at h
  rcases List.mem_cons.1 hd with rfl | hd
  ·exact h.1
  ·exact asc_range n _ l h.2 d hd
 | some p, v :: l, h, d, hd => by
  simp only [asc, Bool.and_eq_true, decide_eq_true_eq] at h
  rcases List.mem_cons.1 hd with rfl | hd
  ·exact h.1.1
  ·exact asc_range n _ l h.2 d hd
theorem go_range (ps : List (List Int)) (all : List S123) : ∀ (l : List S123) (born : List Int), bodiesGo ps all l born = true → ∀ b ∈ l, (0 ≤ b.f1 ∧ b.f1 ≤ (ps.length : Int) - 1) ∧ ∀ d ∈ b.f3, 0 ≤ d ∧ d ≤ (ps.length : Int) - 1
 | [], _, _, b, hb => by simp at hb
 | c :: l, born, h, b, hb => by
  rw [bodiesGo, Bool.and_eq_true] at h
  rcases List.mem_cons.1 hb with rfl | hb
  ·have h1 := h.1
   simp only [bodyOk, Bool.and_eq_true, decide_eq_true_eq] at h1
   exact ⟨h1.1.1.1.2, asc_range _ _ _ h1.1.2⟩
  ·exact go_range ps all l _ h.2 b hb
theorem weaveOk_range {ps : List (List Int)} {bs : List S123} (h : weaveOk ps bs = true) : ∀ b ∈ bs, (0 ≤ b.f1 ∧ b.f1 ≤ (ps.length : Int) - 1) ∧ ∀ d ∈ b.f3, 0 ≤ d ∧ d ≤ (ps.length : Int) - 1 := by
 simp only [weaveOk, Bool.and_eq_true, decide_eq_true_eq] at h
 exact go_range ps bs bs _ h.2
def atP {α : Type} (i : Nat) (ns : List (Nat × α)) : List α := (ns.filter fun x => decide (x.1 = i)).map (·.2)
def mergeN {α : Type} : Nat → List α → List (Nat × α) → List α
 | i, [], ns => atP i ns
 | i, b :: bs, ns => atP i ns ++ b :: mergeN (i + 1) bs ns
theorem atP_append {α : Type} (i : Nat) (a b : List (Nat × α)) : atP i (a ++ b) = atP i a ++ atP i b := by simp [atP]
theorem atP_one {α : Type} (i p : Nat) (x : α) : atP i [(p, x)] = if p = i then [x] else [] := by
 unfold atP
 by_cases h : p = i <;> simp [h]
theorem mergeN_past {α : Type} (bs : List α) : ∀ (i p : Nat) (ns : List (Nat × α)) (x : α), p < i → mergeN i bs (ns ++ [(p, x)]) = mergeN i bs ns := by
 induction bs with
 | nil =>
  intro i p ns x h
  simp only [mergeN, atP_append, atP_one]
  rw [if_neg (by omega), List.append_nil]
 | cons b bs ih =>
  intro i p ns x h
  simp only [mergeN, atP_append, atP_one]
  rw [if_neg (by omega), List.append_nil, ih (i + 1) p ns x (by omega)]
theorem mergeN_insert {α : Type} (bs : List α) : ∀ (i p : Nat) (ns : List (Nat × α)) (x : α), i ≤ p → p ≤ i + bs.length → (∀ y ∈ ns, y.1 ≤ p) →
  mergeN i bs (ns ++ [(p, x)]) = (mergeN i bs ns).insertIdx ((p - i) + (ns.filter fun y => decide (i ≤ y.1)).length) x := by
 induction bs with
 | nil =>
  intro i p ns x h1 h2 h3
  obtain rfl : p = i := by simp at h2; omega
  simp only [mergeN, atP_append, atP_one, if_pos]
  have e : (ns.filter fun y => decide (p ≤ y.1)) = ns.filter fun y => decide (y.1 = p) := by
   apply List.filter_congr
   intro y hy
   have := h3 y hy
   simp only [decide_eq_decide]
   omega
  rw [e, Nat.sub_self, Nat.zero_add]
  have hl : (ns.filter fun y => decide (y.1 = p)).length = (atP p ns).length := by simp [atP]
  rw [hl, List.insertIdx_length_self]
 | cons b bs ih =>
  intro i p ns x h1 h2 h3
  have hsplit : (ns.filter fun y => decide (i ≤ y.1)).length = (atP i ns).length + (ns.filter fun y => decide (i + 1 ≤ y.1)).length := by
   unfold atP
   rw [List.length_map]
   clear h3
   induction ns with
   | nil => rfl
   | cons y ns ihn =>
    simp only [List.filter_cons]
    by_cases c1 : y.1 = i
    ·rw [if_pos (by simp; omega), if_pos (by simp [c1]), if_neg (by simp; omega)]
     simp only [List.length_cons]
     omega
    ·by_cases c2 : i ≤ y.1
     ·rw [if_pos (by simp [c2]), if_neg (by simp [c1]), if_pos (by simp; omega)]
      simp only [List.length_cons]
      omega
     ·rw [if_neg (by simp; omega), if_neg (by simp [c1]), if_neg (by simp; omega)]
      exact ihn
  by_cases c : p = i
  ·subst c
   simp only [mergeN, atP_append, atP_one, if_pos]
   rw [mergeN_past bs (p + 1) p ns x (by omega)]
   have e2 : (ns.filter fun y => decide (p + 1 ≤ y.1)) = [] := by
    rw [List.filter_eq_nil_iff]
    intro y hy
    have := h3 y hy
    simp
    omega
   rw [hsplit, e2, Nat.sub_self, Nat.zero_add, List.length_nil, List.append_assoc, List.singleton_append]
   simp only [Nat.add_zero]
   generalize atP p ns = A
   generalize b :: mergeN (p + 1) bs ns = R
   induction A with
   | nil => simp
   | cons a A ihA => simp only [List.cons_append, List.length_cons, List.insertIdx_succ_cons, ihA]
  ·simp only [mergeN, atP_append, atP_one]
   rw [if_neg (by omega), List.append_nil, ih (i + 1) p ns x (by omega) (by simp at h2; omega) h3, hsplit]
   have e3 : p - i + ((atP i ns).length + (ns.filter fun y => decide (i + 1 ≤ y.1)).length) = (atP i ns).length + ((p - (i + 1) + (ns.filter fun y => decide (i + 1 ≤ y.1)).length) + 1) := by omega
   rw [e3]
   generalize p - (i + 1) + (ns.filter fun y => decide (i + 1 ≤ y.1)).length = q
   generalize atP i ns = A
   induction A with
   | nil => simp
   | cons a A ihA => simp only [List.cons_append, List.length_cons]; rw [show A.length + 1 + (q + 1) = (A.length + (q + 1)) + 1 by omega, List.insertIdx_succ_cons, ihA]
def numb (v : Int) : Nat → List (Nat × ByteArray) → List (Nat × S123)
 | _, [] => []
 | c, (p, s) :: t => (p, ⟨s, v, (c : Int), []⟩) :: numb v (c + 1) t
def numbL (v : Int) : Nat → List ByteArray → List S123
 | _, [] => []
 | c, s :: t => ⟨s, v, (c : Int), []⟩ :: numbL v (c + 1) t
theorem numb_length (v : Int) : ∀ (t : List (Nat × ByteArray)) (c : Nat), (numb v c t).length = t.length
 | [], c => rfl
 | (p, s) :: t, c => by simp [numb, numb_length v t (c + 1)]
theorem numb_append (v : Int) : ∀ (a b : List (Nat × ByteArray)) (c : Nat), numb v c (a ++ b) = numb v c a ++ numb v (c + a.length) b
 | [], b, c => by simp [numb]
 | (p, s) :: a, b, c => by
  simp only [List.cons_append, numb, numb_append v a b (c + 1), List.length_cons]
  rw [show c + 1 + a.length = c + (a.length + 1) by omega]
theorem numb_mem (v : Int) : ∀ (t : List (Nat × ByteArray)) (c : Nat) (y : Nat × S123), y ∈ numb v c t → ∃ s, (y.1, s) ∈ t ∧ y.2.f0 = s ∧ y.2.f3 = []
 | [], c, y, h => by simp [numb] at h
 | (p, s) :: t, c, y, h => by
  simp only [numb, List.mem_cons] at h
  rcases h with rfl | h
  ·exact ⟨s, by simp, rfl, rfl⟩
  ·obtain ⟨s', h1, h2⟩ := numb_mem v t (c + 1) y h
   exact ⟨s', List.mem_cons_of_mem _ h1, h2⟩
def UpN (t : List (Nat × ByteArray)) : Prop := t.Pairwise fun a b => a.1 ≤ b.1
def below (i : Nat) (t : List (Nat × ByteArray)) : Nat := (t.filter fun x => decide (x.1 < i)).length
theorem atP_gt {α : Type} (i : Nat) (ns : List (Nat × α)) (h : ∀ x ∈ ns, i < x.1) : atP i ns = [] := by
 unfold atP
 rw [List.map_eq_nil_iff, List.filter_eq_nil_iff]
 intro x hx
 have := h x hx
 simp
 omega
theorem atP_cons {α : Type} (i p : Nat) (x : α) (ns : List (Nat × α)) : atP i ((p, x) :: ns) = if p = i then x :: atP i ns else atP i ns := by
 unfold atP
 by_cases h : p = i <;> simp [h]
theorem below_none (i : Nat) (t : List (Nat × ByteArray)) (h : ∀ x ∈ t, i ≤ x.1) : below i t = 0 := by
 unfold below
 rw [List.length_eq_zero_iff, List.filter_eq_nil_iff]
 intro x hx
 have := h x hx
 simp
 omega
theorem numb_at (v : Int) (i : Nat) : ∀ (t : List (Nat × ByteArray)) (c : Nat), UpN t → atP i (numb v c t) = numbL v (c + below i t) (atP i t)
 | [], c, _ => by simp [numb, numbL, atP]
 | (p, s) :: t, c, h => by
  obtain ⟨h1, h2⟩ := List.pairwise_cons.1 h
  have ih := numb_at v i t (c + 1) h2
  simp only [numb, atP_cons]
  by_cases e : p = i
  ·subst e
   have hb : below p t = 0 := below_none p t (fun x hx => h1 x hx)
   have hb' : below p ((p, s) :: t) = 0 := below_none p _ (fun x hx => by rcases List.mem_cons.1 hx with rfl | hx; exact Nat.le_refl _; exact h1 x hx)
   rw [if_pos rfl, if_pos rfl, ih, hb, hb']
   simp [numbL]
  ·rw [if_neg e, if_neg e]
   by_cases l : p < i
   ·rw [ih]
    congr 1
    unfold below
    rw [List.filter_cons_of_pos (by simpa using l)]
    simp only [List.length_cons]
    omega
   ·have hg : ∀ x ∈ t, i < x.1 := fun x hx => by have := h1 x hx; omega
    rw [ih, atP_gt i t hg]
    simp [numbL]
theorem below_succ (i : Nat) : ∀ t : List (Nat × ByteArray), below (i + 1) t = below i t + (atP i t).length
 | [] => rfl
 | (p, s) :: t => by
  have ih := below_succ i t
  rw [atP_cons]
  unfold below at *
  by_cases e : p = i
  ·subst e
   rw [if_pos rfl, List.filter_cons_of_pos (by simp), List.filter_cons_of_neg (by simp)]
   simp only [List.length_cons]
   omega
  ·rw [if_neg e]
   by_cases l : p < i
   ·rw [List.filter_cons_of_pos (by simp; omega), List.filter_cons_of_pos (by simpa using l)]
    simp only [List.length_cons]
    omega
   ·rw [List.filter_cons_of_neg (by simp; omega), List.filter_cons_of_neg (by simpa using l)]
    exact ih
def scanN (L : List Int) : List Int → List ByteArray → Nat → List (Nat × ByteArray)
 | z :: st, s :: ls, p => if 0 ≤ z then scanN L st ls ((rd L z).toNat + 1) else (p, s) :: scanN L st ls p
 | _, _, _ => []
def Up (n : Nat) (L : List Int) : List Int → Nat → Prop
 | [], p => p ≤ n
 | z :: st, p => if 0 ≤ z then z < (L.length : Int) ∧ (p : Int) ≤ rd L z ∧ rd L z < (n : Int) ∧ Up n L st ((rd L z).toNat + 1) else Up n L st p
theorem Up.le {n : Nat} {L : List Int} : ∀ (st : List Int) (p : Nat), Up n L st p → p ≤ n
 | [], p, h => h
 | z :: st, p, h => by
  simp only [Up] at h
  split at h
  ·omega
  ·exact Up.le st p h
theorem scanN_ge {n : Nat} {L : List Int} : ∀ (st : List Int) (ls : List ByteArray) (p : Nat), Up n L st p → ∀ x ∈ scanN L st ls p, p ≤ x.1 ∧ x.1 ≤ n
 | [], _, _, _, x, hx => by simp [scanN] at hx
 | z :: st, [], _, _, x, hx => by simp [scanN] at hx
 | z :: st, s :: ls, p, h, x, hx => by
  have hp := Up.le _ _ h
  simp only [scanN] at hx
  simp only [Up] at h
  split at h
  ·rename_i hz
   rw [if_pos hz] at hx
   have := scanN_ge st ls _ h.2.2.2 x hx
   omega
  ·rename_i hz
   rw [if_neg hz] at hx
   rcases List.mem_cons.1 hx with rfl | hx
   ·exact ⟨Nat.le_refl _, hp⟩
   ·exact scanN_ge st ls p h x hx
theorem scanN_up {n : Nat} {L : List Int} : ∀ (st : List Int) (ls : List ByteArray) (p : Nat), Up n L st p → UpN (scanN L st ls p)
 | [], _, _, _ => by simp [scanN, UpN]
 | z :: st, [], _, _ => by simp [scanN, UpN]
 | z :: st, s :: ls, p, h => by
  have h0 := h
  simp only [Up] at h
  simp only [scanN]
  split at h
  ·rename_i hz
   rw [if_pos hz]
   exact scanN_up st ls _ h.2.2.2
  ·rename_i hz
   rw [if_neg hz]
   exact List.pairwise_cons.2 ⟨fun x hx => (scanN_ge st ls p h x hx).1, scanN_up st ls p h⟩
theorem scanN_length (L : List Int) : ∀ (st : List Int) (ls : List ByteArray) (p : Nat), (scanN L st ls p).length ≤ ls.length
 | [], ls, p => by cases ls <;> simp [scanN]
 | z :: st, [], p => by simp [scanN]
 | z :: st, s :: ls, p => by
  simp only [scanN]
  split
  ·have := scanN_length L st ls ((rd L z).toNat + 1)
   simp only [List.length_cons]; omega
  ·have := scanN_length L st ls p
   simp only [List.length_cons]; omega
theorem scanN_mem (L : List Int) : ∀ (st : List Int) (ls : List ByteArray) (p : Nat) (x : Nat × ByteArray), x ∈ scanN L st ls p → x.2 ∈ ls
 | [], ls, p, x, h => by cases ls <;> simp [scanN] at h
 | z :: st, [], p, x, h => by simp [scanN] at h
 | z :: st, s :: ls, p, x, h => by
  simp only [scanN] at h
  split at h
  ·exact List.mem_cons_of_mem _ (scanN_mem L st ls _ x h)
  ·rcases List.mem_cons.1 h with rfl | h
   ·simp
   ·exact List.mem_cons_of_mem _ (scanN_mem L st ls p x h)
theorem up_none {n : Nat} {L : List Int} : ∀ (m p : Nat), p ≤ n → Up n L (List.replicate m (-1)) p
 | 0, p, h => h
 | m + 1, p, h => by
  rw [List.replicate_succ]
  simp only [Up]
  rw [if_neg (by omega)]
  exact up_none m p h
theorem pairs_up {n : Nat} {L : List Int} (h1 : ∀ i : Nat, i < L.length → 0 ≤ rd L (i : Int) ∧ rd L (i : Int) < (n : Int)) (h2 : ∀ i : Nat, i + 1 < L.length → rd L (i : Int) < rd L ((i + 1 : Nat) : Int)) :
  ∀ (m : Nat) (i : Nat) (a b : List ByteArray) (p : Nat), a.length + b.length ≤ m → i + a.length ≤ L.length → p ≤ n → (i < L.length → (p : Int) ≤ rd L (i : Int)) → Up n L (pairs i a b) p := by
 intro m
 induction m with
 | zero =>
  intro i a b p hm hi hp hq
  obtain rfl : a = [] := List.length_eq_zero_iff.1 (by omega)
  rw [pairs_nil]
  exact up_none _ _ hp
 | succ m ih =>
  intro i a b p hm hi hp hq
  cases a with
  | nil => rw [pairs_nil]; exact up_none _ _ hp
  | cons x a =>
   cases b with
   | nil => rw [pairs_cons_nil]; exact hp
   | cons y b =>
    simp only [List.length_cons] at hm hi
    have hil : i < L.length := by omega
    have hv := h1 i hil
    have hpi := hq hil
    rw [pairs_cons]
    split
    ·simp only [Up]
     rw [if_pos (by omega)]
     refine ⟨by omega, hpi, hv.2, ih (i + 1) a b _ (by omega) (by omega) (by omega) (fun hl => ?_)⟩
     have := h2 i hl
     omega
    ·split
     ·refine ih (i + 1) a (y :: b) p (by simp only [List.length_cons]; omega) (by omega) hp (fun hl => ?_)
      have := h2 i hl
      omega
     ·simp only [Up]
      rw [if_neg (by omega)]
      exact ih i (x :: a) b p (by simp only [List.length_cons]; omega) (by simp only [List.length_cons]; omega) hp hq
def delsOf (D : Nat → Bool) (v : Int) : Nat → List S123 → List S123
 | _, [] => []
 | i, b :: l => (if D i = true then ⟨b.f0, b.f1, b.f2, b.f3 ++ [v]⟩ else b) :: delsOf D v (i + 1) l
theorem delsOf_length (D : Nat → Bool) (v : Int) : ∀ (l : List S123) (i : Nat), (delsOf D v i l).length = l.length
 | [], _ => rfl
 | b :: l, i => by simp [delsOf, delsOf_length D v l (i + 1)]
theorem delsOf_congr {D E : Nat → Bool} (v : Int) : ∀ (l : List S123) (i : Nat), (∀ m, i ≤ m → m < i + l.length → D m = E m) → delsOf D v i l = delsOf E v i l
 | [], _, _ => rfl
 | b :: l, i, h => by
  simp only [delsOf]
  rw [h i (Nat.le_refl _) (by simp), delsOf_congr v l (i + 1) (fun m h1 h2 => h m (by omega) (by simp only [List.length_cons]; omega))]
theorem delsOf_none (v : Int) : ∀ (l : List S123) (i : Nat), delsOf (fun _ => false) v i l = l
 | [], _ => rfl
 | b :: l, i => by simp [delsOf, delsOf_none v l (i + 1)]
theorem delsOf_get (D : Nat → Bool) (v : Int) : ∀ (l : List S123) (i m : Nat) (h : m < l.length), (delsOf D v i l)[m]? = some (if D (i + m) = true then ⟨l[m].f0, l[m].f1, l[m].f2, l[m].f3 ++ [v]⟩ else l[m])
 | [], _, m, h => absurd h (by simp)
 | b :: l, i, 0, h => by simp [delsOf]
 | b :: l, i, m + 1, h => by
  simp only [delsOf, List.getElem?_cons_succ, List.getElem_cons_succ]
  rw [delsOf_get D v l (i + 1) m (by simpa using h), show i + 1 + m = i + (m + 1) by omega]
theorem delsOf_set (D : Nat → Bool) (v : Int) : ∀ (l : List S123) (i m : Nat) (h : m < l.length), D (i + m) = false → (delsOf D v i l).set m ⟨l[m].f0, l[m].f1, l[m].f2, l[m].f3 ++ [v]⟩ = delsOf (fun y => D y || decide (y = i + m)) v i l
 | [], _, m, h, _ => absurd h (by simp)
 | b :: l, i, 0, h, hD => by
  simp only [delsOf, List.set_cons_zero, List.getElem_cons_zero, Nat.add_zero, decide_true, Bool.or_true, if_true]
  rw [delsOf_congr v l (i + 1) (E := fun y => D y || decide (y = i)) (fun m h1 h2 => by rw [show decide (m = i) = false by simp; omega, Bool.or_false])]
 | b :: l, i, m + 1, h, hD => by
  simp only [delsOf, List.set_cons_succ, List.getElem_cons_succ]
  rw [delsOf_set D v l (i + 1) m (by simpa using h) (by rw [show i + 1 + m = i + (m + 1) by omega]; exact hD), show i + 1 + m = i + (m + 1) by omega]
  congr 1
  simp
def gone (L st : List Int) (x m : Nat) : Bool := (List.range x).any fun t => decide (rd L (t : Int) = (m : Int)) && !decide ((t : Int) ∈ st)
theorem gone_succ (L st : List Int) (x m : Nat) : gone L st (x + 1) m = (gone L st x m || (decide (rd L (x : Int) = (m : Int)) && !decide ((x : Int) ∈ st))) := by
 unfold gone
 rw [List.range_succ, List.any_append]
 simp
theorem gone_iff (L st : List Int) (x m : Nat) : gone L st x m = true ↔ ∃ t : Nat, t < x ∧ rd L (t : Int) = (m : Int) ∧ (t : Int) ∉ st := by
 unfold gone
 rw [List.any_eq_true]
 constructor
 ·rintro ⟨t, ht, h⟩
  rw [Bool.and_eq_true, decide_eq_true_eq, Bool.not_eq_true', decide_eq_false_iff_not] at h
  exact ⟨t, List.mem_range.1 ht, h⟩
 ·rintro ⟨t, ht, h⟩
  refine ⟨t, List.mem_range.2 ht, ?_⟩
  rw [Bool.and_eq_true, decide_eq_true_eq, Bool.not_eq_true', decide_eq_false_iff_not]
  exact h
theorem mergeN_none {α : Type} : ∀ (bs : List α) (i : Nat), mergeN i bs [] = bs
 | [], i => by simp [mergeN, atP]
 | b :: bs, i => by simp [mergeN, atP, mergeN_none bs (i + 1)]
theorem allOk_sized0 {l : List ByteArray} (h : linesOk 300 l = true) : Sized l := by
 rw [linesOk, Bool.and_eq_true, decide_eq_true_eq] at h
 refine ⟨by omega, fun x hx => ?_⟩
 have := lineOk_size (List.all_eq_true.1 h.2 x hx)
 omega
theorem contains_ev (st : List Int) (x : Int) (h : st.length ≤ 140737488351232) : Ev (fun k => slices_Contains_int_int.f k st x) (decide (x ∈ st)) := by
 have key : ∀ n i : Nat, i + n = st.length → ∃ r : Int, Ev (fun k => slices_Index_int_int.l0 k st x (st.length : Int) (i : Int)) r ∧ (0 ≤ r ↔ x ∈ st.drop i) := by
  intro n
  induction n with
  | zero =>
   intro i hi
   refine ⟨-1, Ev.succ ?_, ?_⟩
   ·simp only [slices_Index_int_int.l0]
    exact Ev.neg (by omega) (Ev.now _)
   ·rw [drop_end st i (by omega)]
    simp
  | succ n ih =>
   intro i hi
   by_cases c : x = rd st (i : Int)
   ·refine ⟨(i : Int), Ev.succ ?_, ?_⟩
    ·simp only [slices_Index_int_int.l0]
     exact Ev.pos (by omega) (Ev.pos (by omega) (Ev.pos (by omega) (Ev.pos c (Ev.now _))))
    ·rw [drop_rd st i (by omega), ← c]
     simp
   ·obtain ⟨r, hr, hr2⟩ := ih (i + 1) (by omega)
    refine ⟨r, Ev.succ ?_, ?_⟩
    ·simp only [slices_Index_int_int.l0]
     rw [up1 i (by omega)]
     exact Ev.pos (by omega) (Ev.pos (by omega) (Ev.pos (by omega) (Ev.neg c hr)))
    ·rw [drop_rd st i (by omega), hr2]
     simp [c]
 obtain ⟨r, hr, hr2⟩ := key st.length 0 (by omega)
 simp only [slices_Contains_int_int.f, slices_Index_int_int.f]
 refine Ev.bnd hr (Ev.some_ ?_)
 rw [List.drop_zero] at hr2
 exact decide_eq_decide.2 hr2
theorem copyGraph_ev (ps : List (List Int)) (h : ps.length ≤ 1048576) (hx : ∀ r ∈ ps, r.length ≤ 1048576) : Ev (fun k => impl_copyGraph.f k ps) ps := by
 have key : ∀ n i : Nat, i + n = ps.length → Ev (fun k => impl_copyGraph.l0 k (ps.take i) ps (ps.length : Int) (i : Int)) ps := by
  intro n
  induction n with
  | zero =>
   intro i hi
   refine Ev.succ ?_
   simp only [impl_copyGraph.l0]
   exact Ev.neg (by omega) (Ev.some_ (List.take_of_length_le (by omega)))
  | succ n ih =>
   intro i hi
   refine Ev.succ ?_
   simp only [impl_copyGraph.l0]
   have hi' : i < ps.length := by omega
   have hm := hx _ (List.getElem_mem hi')
   rw [up1 i (by omega), rdL_nat ps i hi']
   refine Ev.pos (by omega) (Ev.pos (by omega) (Ev.pos (by omega) (Ev.bnd0 (a := ps[i]) ?_ ?_)))
   ·simp only [slices_Clone_int_int.f]
    rw [if_pos (by omega)]
   ·refine Ev.pos (by rw [List.length_take]; omega) ?_
    rw [List.take_append_getElem hi']
    exact ih (i + 1) (by omega)
 simp only [impl_copyGraph.f]
 exact key ps.length 0 (by omega)
theorem copyWeave_ev (ps : List (List Int)) (bs : List S123) (hf : Fine ps bs) : Ev (fun k => impl_copyWeave.f k ps bs) (ps, bs) := by
 have hb := hf.2.2.1
 have key : ∀ n i : Nat, i + n = bs.length → Ev (fun k => impl_copyWeave.l0 k bs (bs.length : Int) (i : Int) ps (bs.take i)) (ps, bs) := by
  intro n
  induction n with
  | zero =>
   intro i hi
   refine Ev.succ ?_
   simp only [impl_copyWeave.l0]
   exact Ev.neg (by omega) (Ev.some_ (by rw [List.take_of_length_le (by omega)]))
  | succ n ih =>
   intro i hi
   refine Ev.succ ?_
   simp only [impl_copyWeave.l0]
   have hi' : i < bs.length := by omega
   have hm := (hf.2.2.2 _ (List.getElem_mem hi')).2
   rw [up1 i (by omega), rdW_nat bs i hi']
   refine Ev.pos (by omega) (Ev.pos (by omega) (Ev.pos (by omega) (Ev.bnd0 (a := bs[i].f3) ?_ ?_)))
   ·simp only [slices_Clone_int_int.f]
    rw [if_pos (by omega)]
   ·refine Ev.pos (by rw [List.length_take]; omega) ?_
    have e : (⟨bs[i].f0, bs[i].f1, bs[i].f2, bs[i].f3⟩ : S123) = bs[i] := rfl
    rw [e, List.take_append_getElem hi']
    exact ih (i + 1) (by omega)
 simp only [impl_copyWeave.f]
 exact Ev.bnd (copyGraph_ev ps hf.1 hf.2.1) (key bs.length 0 (by omega))
section
variable (ps : List (List Int)) (parents L st : List Int) (lines : List ByteArray) (bs : List S123)
theorem add_l0_ev (hL : L.length ≤ 1048576) (_ : bs.length ≤ 1048576) (hbx : ∀ b ∈ bs, b.f3.length ≤ 1048576) (hst : st.length ≤ 1048576) (h1 : ∀ i : Nat, i < L.length → ∃ m : Nat, rd L (i : Int) = (m : Int) ∧ m < bs.length) (h2 : ∀ i j : Nat, i < L.length → j < L.length → rd L (i : Int) = rd L (j : Int) → i = j) {R : List (List Int) × List S123 × Bool}
  (hR : Ev (fun k => impl_Weave_add.l1 k ps parents L st lines (delsOf (gone L st L.length) (ps.length : Int) 0 bs) 0 0 0) R) :
  ∀ n x : Nat, x + n = L.length → Ev (fun k => impl_Weave_add.l0 k ps parents L st lines (delsOf (gone L st x) (ps.length : Int) 0 bs) (x : Int)) R := by
 intro n
 induction n with
 | zero =>
  intro x hx
  refine Ev.succ ?_
  simp only [impl_Weave_add.l0]
  obtain rfl : x = L.length := by omega
  exact Ev.neg (by omega) hR
 | succ n ih =>
  intro x hx
  have hi := ih (x + 1) (by omega)
  refine Ev.succ ?_
  simp only [impl_Weave_add.l0]
  rw [up1 x (by omega)]
  refine Ev.pos (by omega) (Ev.pos (by omega) (Ev.bnd (contains_ev st (x : Int) (by omega)) ?_))
  by_cases c : (x : Int) ∈ st
  ·refine Ev.pos (by simpa using c) ?_
   have e : gone L st (x + 1) = gone L st x := funext fun m => by rw [gone_succ]; simp [c]
   rw [e] at hi
   exact hi
  ·refine Ev.neg (by simpa using c) ?_
   obtain ⟨m, hm, hml⟩ := h1 x (by omega)
   have hg : gone L st x m = false := by
    rw [← Bool.not_eq_true, gone_iff]
    rintro ⟨t, ht, he, _⟩
    have := h2 t x (by omega) (by omega) (by rw [he, hm])
    omega
   have hlen : m < (delsOf (gone L st x) (ps.length : Int) 0 bs).length := by rw [delsOf_length]; exact hml
   have hget : (delsOf (gone L st x) (ps.length : Int) 0 bs)[m] = bs[m] := by
    have := delsOf_get (gone L st x) (ps.length : Int) bs 0 m hml
    rw [Nat.zero_add, hg, if_neg (by simp), List.getElem?_eq_getElem hlen] at this
    exact Option.some.inj this
   have hbm := hbx _ (List.getElem_mem hml)
   rw [hm, rdW_nat _ m hlen, hget, Int.toNat_natCast, delsOf_set _ _ bs 0 m hml (by rw [Nat.zero_add]; exact hg)]
   refine Ev.pos (by omega) (Ev.pos (by omega) (Ev.pos (by omega) ?_))
   have e : gone L st (x + 1) = fun y => gone L st x y || decide (y = 0 + m) := funext fun y => by
    rw [gone_succ, hm]
    simp only [c, decide_false, Bool.not_false, Bool.and_true, Nat.zero_add]
    congr 1
    exact decide_eq_decide.2 ⟨fun h => by omega, fun h => by omega⟩
   rw [e] at hi
   exact hi
end
section
variable (ps : List (List Int)) (parents L st : List Int) (lines : List ByteArray) (bD : List S123)
theorem add_l1_ev (hlen : st.length = lines.length) (hl : lines.length ≤ 1000000) (hb : bD.length ≤ 1048576) (hps : ps.length ≤ 1048576) (hpar : parents.length ≤ 1048576) :
  ∀ (n j p : Nat) (acc : List (Nat × ByteArray)), j + n = lines.length → Up bD.length L (st.drop j) p → acc.length ≤ j → (∀ y ∈ acc, y.1 ≤ p) → (mergeN 0 bD (numb (ps.length : Int) 0 acc)).length = bD.length + acc.length →
   ∃ M, M = mergeN 0 bD (numb (ps.length : Int) 0 (acc ++ scanN L (st.drop j) (lines.drop j) p)) ∧ M.length = bD.length + (acc ++ scanN L (st.drop j) (lines.drop j) p).length ∧
   Ev (fun k => impl_Weave_add.l1 k ps parents L st lines (mergeN 0 bD (numb (ps.length : Int) 0 acc)) ((p : Int) + (acc.length : Int)) (acc.length : Int) (j : Int)) (ps ++ [parents], M, decide ((M.length : Int) ≤ 300)) := by
 intro n
 induction n with
 | zero =>
  intro j p acc hj hu ha hp hm
  rw [drop_end st j (by omega), drop_end lines j (by omega)]
  simp only [scanN, List.append_nil]
  refine ⟨_, rfl, hm, Ev.succ ?_⟩
  simp only [impl_Weave_add.l1, impl_Weave_add.fin]
  refine Ev.neg (by omega) (Ev.bnd0 (a := parents) ?_ (Ev.pos (by omega) (Ev.now _)))
  simp only [slices_Clone_int_int.f]
  rw [if_pos (by omega)]
 | succ n ih =>
  intro j p acc hj hu ha hp hm
  have hpl := Up.le _ _ hu
  rw [drop_rd st j (by omega)] at hu
  simp only [Up] at hu
  rw [drop_rd st j (by omega), drop_rdOf ByteArray.empty lines j (by omega)]
  simp only [scanN]
  by_cases c : 0 ≤ rd st (j : Int)
  ·rw [if_pos c] at hu
   obtain ⟨h1, h2, h3, h4⟩ := hu
   rw [if_pos c]
   obtain ⟨M, hM, hM1, hM2⟩ := ih (j + 1) ((rd L (rd st (j : Int))).toNat + 1) acc (by omega) h4 (by omega) (fun y hy => by have := hp y hy; omega) hm
   refine ⟨M, hM, hM1, Ev.succ ?_⟩
   simp only [impl_Weave_add.l1]
   rw [w64 (n := rd L (rd st (j : Int)) + (acc.length : Int)) (by omega) (by omega), w64 (n := rd L (rd st (j : Int)) + (acc.length : Int) + 1) (by omega) (by omega), up1 j (by omega)]
   refine Ev.pos (by omega) (Ev.pos (by omega) (Ev.pos (by omega) (Ev.pos c (Ev.pos (by omega) ?_))))
   rw [show rd L (rd st (j : Int)) + (acc.length : Int) + 1 = (((rd L (rd st (j : Int))).toNat + 1 : Nat) : Int) + (acc.length : Int) by omega]
   exact hM2
  ·rw [if_neg c] at hu
   rw [if_neg c]
   have hnum : numb (ps.length : Int) 0 (acc ++ [(p, rdOf ByteArray.empty lines (j : Int))]) = numb (ps.length : Int) 0 acc ++ [(p, ⟨rdOf ByteArray.empty lines (j : Int), (ps.length : Int), (acc.length : Int), []⟩)] := by
    rw [numb_append]
    simp [numb]
   have hge : ∀ y ∈ numb (ps.length : Int) 0 acc, y.1 ≤ p := fun y hy => by
    obtain ⟨s, h1, _⟩ := numb_mem _ _ _ _ hy
    exact hp _ h1
   have hins := mergeN_insert bD 0 p (numb (ps.length : Int) 0 acc) (⟨rdOf ByteArray.empty lines (j : Int), (ps.length : Int), (acc.length : Int), []⟩ : S123) (by omega) (by omega) hge
   rw [← hnum] at hins
   have hfil : ((numb (ps.length : Int) 0 acc).filter fun y => decide (0 ≤ y.1)).length = acc.length := by
    rw [List.filter_eq_self.2 (fun y _ => by simp), numb_length]
   rw [hfil, Nat.sub_zero] at hins
   have hlm : (mergeN 0 bD (numb (ps.length : Int) 0 (acc ++ [(p, rdOf ByteArray.empty lines (j : Int))]))).length = bD.length + (acc ++ [(p, rdOf ByteArray.empty lines (j : Int))]).length := by
    rw [hins, List.length_insertIdx_of_le_length (by omega), hm, List.length_append]
    simp
    omega
   obtain ⟨M, hM, hM1, hM2⟩ := ih (j + 1) p (acc ++ [(p, rdOf ByteArray.empty lines (j : Int))]) (by omega) hu (by simp; omega) (fun y hy => by
    rcases List.mem_append.1 hy with h | h
    ·exact hp y h
    ·rw [List.mem_singleton.1 h]; exact Nat.le_refl _) hlm
   rw [List.append_assoc, List.singleton_append] at hM hM1
   refine ⟨M, hM, hM1, Ev.succ ?_⟩
   simp only [impl_Weave_add.l1]
   rw [w64 (n := (p : Int) + (acc.length : Int) + 1) (by omega) (by omega), w64 (n := (acc.length : Int) + 1) (by omega) (by omega), up1 j (by omega), show ((p : Int) + (acc.length : Int)).toNat = p + acc.length by omega, ← hins]
   refine Ev.pos (by omega) (Ev.pos (by omega) (Ev.pos (by omega) (Ev.neg (by omega) (Ev.pos (by omega) (Ev.pos (by omega) (Ev.pos (by omega) ?_))))))
   rw [List.length_append, List.length_singleton] at hM2
   rw [show (p : Int) + (acc.length : Int) + 1 = (p : Int) + ((acc.length + 1 : Nat) : Int) by omega, show (acc.length : Int) + 1 = ((acc.length + 1 : Nat) : Int) by omega]
   exact hM2
end
theorem rdLL_nat (l : List (List ByteArray)) (i : Nat) (h : i < l.length) : rd_L7 l (i : Int) = l[i] := by
 unfold rd_L7
 exact rdOf_nat _ l i h
section
variable (ps : List (List Int)) (parents L : List Int) (lines : List ByteArray) (st : List Int) (bs : List S123) (v : Int)
theorem sp_l0_ev (hlen : st.length = lines.length) (hl : lines.length ≤ 1000000) (hb : bs.length ≤ 1048576) {R : List (List Int) × List S123 × Int × Int} :
  ∀ (n j p : Nat) (acc : List (Nat × ByteArray)) (x12 : List (List ByteArray)) (x13 : List Bool), j + n = lines.length → Up bs.length L (st.drop j) p → acc.length ≤ j →
   x12.length = bs.length + 1 → (∀ i : Nat, i ≤ bs.length → rd_L7 x12 (i : Int) = atP i acc) → x13.length = bs.length →
   (∀ (y12 : List (List ByteArray)) (y13 : List Bool), y12.length = bs.length + 1 → (∀ i : Nat, i ≤ bs.length → rd_L7 y12 (i : Int) = atP i (acc ++ scanN L (st.drop j) (lines.drop j) p)) → y13.length = bs.length →
    (∀ m : Nat, m < bs.length → (gB y13 m = true ↔ gB x13 m = true ∨ ∃ z ∈ st.drop j, 0 ≤ z ∧ rd L z = (m : Int))) → Ev (fun k => spec_l06Add.l1 k parents v y12 y13 0 ps bs []) R) →
   Ev (fun k => spec_l06Add.l0 k parents lines v L st x12 x13 (p : Int) (j : Int) ps bs) R := by
 intro n
 induction n with
 | zero =>
  intro j p acc x12 x13 hj hu ha h12 hi12 h13 hR
  refine Ev.succ ?_
  simp only [spec_l06Add.l0]
  refine Ev.neg (by omega) (hR x12 x13 h12 (fun i hi => ?_) h13 (fun m hm => ?_))
  ·rw [hi12 i hi, drop_end st j (by omega)]
   simp [scanN]
  ·rw [drop_end st j (by omega)]
   simp
 | succ n ih =>
  intro j p acc x12 x13 hj hu ha h12 hi12 h13 hR
  have hpl := Up.le _ _ hu
  rw [drop_rd st j (by omega)] at hu hR
  rw [drop_rdOf ByteArray.empty lines j (by omega)] at hR
  simp only [Up] at hu
  simp only [scanN] at hR
  refine Ev.succ ?_
  simp only [spec_l06Add.l0]
  by_cases c : 0 ≤ rd st (j : Int)
  ·rw [if_pos c] at hu
   obtain ⟨h1, h2, h3, h4⟩ := hu
   rw [if_pos c] at hR
   obtain ⟨m0, hm0⟩ : ∃ m : Nat, rd L (rd st (j : Int)) = (m : Int) := ⟨(rd L (rd st (j : Int))).toNat, by omega⟩
   rw [hm0] at h2 h3 h4 hR ⊢
   rw [Int.toNat_natCast] at h4 hR
   rw [up1 m0 (by omega), w64 (n := ((m0 + 1 : Nat) : Int) - 1) (by omega) (by omega), up1 j (by omega), show (((m0 + 1 : Nat) : Int) - 1).toNat = m0 by omega]
   refine Ev.pos (by omega) (Ev.pos (by omega) (Ev.pos (by omega) (Ev.pos c (Ev.pos c (Ev.pos (by omega) (Ev.pos (by omega) (Ev.pos (by omega) ?_)))))))
   refine ih (j + 1) (m0 + 1) acc x12 (x13.set m0 true) (by omega) h4 (by omega) h12 hi12 (by rw [List.length_set]; exact h13) (fun y12 y13 g1 g2 g3 g4 => hR y12 y13 g1 g2 g3 (fun m hm => ?_))
   rw [g4 m hm, gB_set x13 m0 m (by omega), Bool.or_eq_true, decide_eq_true_eq]
   constructor
   ·rintro ((h | h) | ⟨z, hz, h⟩)
    ·exact .inl h
    ·exact .inr ⟨_, List.mem_cons_self .., c, by rw [hm0, h]⟩
    ·exact .inr ⟨z, List.mem_cons_of_mem _ hz, h⟩
   ·rintro (h | ⟨z, hz, h0, h⟩)
    ·exact .inl (.inl h)
    ·rcases List.mem_cons.1 hz with rfl | hz
     ·exact .inl (.inr (by rw [hm0] at h; omega))
     ·exact .inr ⟨z, hz, h0, h⟩
  ·rw [if_neg c] at hu hR
   have hp12 : p < x12.length := by omega
   have hrow := hi12 p hpl
   have hal : (atP p acc).length ≤ acc.length := by unfold atP; rw [List.length_map]; exact List.length_filter_le _ _
   rw [hrow, Int.toNat_natCast, up1 j (by omega)]
   refine Ev.pos (by omega) (Ev.pos (by omega) (Ev.pos (by omega) (Ev.neg c (Ev.pos (by omega) (Ev.pos (by omega) (Ev.pos (by omega) ?_))))))
   refine ih (j + 1) p (acc ++ [(p, rdOf ByteArray.empty lines (j : Int))]) _ x13 (by omega) hu (by simp; omega) (by rw [List.length_set]; exact h12) (fun i hi => ?_) h13 (fun y12 y13 g1 g2 g3 g4 => hR y12 y13 g1 (fun i hi => by rw [g2 i hi, List.append_assoc, List.singleton_append]) g3 (fun m hm => ?_))
   ·rw [rdLL_nat _ i (by rw [List.length_set]; omega), atP_append, atP_one]
    by_cases e : p = i
    ·subst e
     rw [List.getElem_set_self, if_pos rfl]
    ·rw [List.getElem_set_ne e, if_neg e, List.append_nil, ← hi12 i hi, rdLL_nat _ i (by omega)]
   ·rw [g4 m hm]
    constructor
    ·rintro (h | ⟨z, hz, h⟩)
     ·exact .inl h
     ·exact .inr ⟨z, List.mem_cons_of_mem _ hz, h⟩
    ·rintro (h | ⟨z, hz, h0, h⟩)
     ·exact .inl h
     ·rcases List.mem_cons.1 hz with rfl | hz
      ·exact absurd h0 c
      ·exact .inr ⟨z, hz, h0, h⟩
theorem sp_l1_ev (hps : ps.length ≤ 1048576) (hx : ∀ r ∈ ps, r.length ≤ 1048576) (hpar : parents.length ≤ 1048576) (x12 : List (List ByteArray)) (x13 t : List Bool) (hv : v = (ps.length : Int)) (ht : Ev (fun k => spec_l05Set.f k ps parents) t) {R : List (List Int) × List S123 × Int × Int}
  (hR : Ev (fun k => spec_l06Add.l2 k v x12 x13 t 0 0 ps bs (ps ++ [parents]) []) R) :
  ∀ n x : Nat, x + n = ps.length → Ev (fun k => spec_l06Add.l1 k parents v x12 x13 (x : Int) ps bs (ps.take x)) R := by
 intro n
 induction n with
 | zero =>
  intro x hx'
  refine Ev.succ ?_
  simp only [spec_l06Add.l1]
  rw [List.take_of_length_le (by omega)]
  refine Ev.neg (by omega) (Ev.bnd0 (a := []) rfl (Ev.pos (by simp; omega) (Ev.pos (by omega) (Ev.bnd ht ?_))))
  simpa using hR
 | succ n ih =>
  intro x hx'
  refine Ev.succ ?_
  simp only [spec_l06Add.l1]
  have hi' : x < ps.length := by omega
  have hm := hx _ (List.getElem_mem hi')
  rw [up1 x (by omega), rdL_nat ps x hi']
  refine Ev.pos (by omega) (Ev.bnd0 (a := []) rfl (Ev.pos (by omega) (Ev.pos (by omega) (Ev.pos (by simp; omega) (Ev.pos (by rw [List.length_take]; omega) ?_)))))
  rw [List.nil_append, List.take_append_getElem hi']
  exact ih (x + 1) (by omega)
end
def restM (bD : List S123) (ns : List (Nat × S123)) (i : Nat) : List S123 := match bD.drop (i - 1) with
 | [] => []
 | b :: t => b :: mergeN i t ns
theorem restM_end (bD : List S123) (ns : List (Nat × S123)) (i : Nat) (h : bD.length < i) : restM bD ns i = [] := by
 unfold restM
 rw [List.drop_eq_nil_iff.2 (by omega)]
theorem mergeN_rest (bD : List S123) (ns : List (Nat × S123)) (i : Nat) : mergeN i (bD.drop i) ns = atP i ns ++ restM bD ns (i + 1) := by
 unfold restM
 rw [Nat.add_sub_cancel]
 cases bD.drop i with
 | nil => simp [mergeN]
 | cons b t => simp [mergeN]
theorem restM_cons (bD : List S123) (ns : List (Nat × S123)) (i : Nat) (h : i < bD.length) : restM bD ns (i + 1) = bD[i] :: (atP (i + 1) ns ++ restM bD ns (i + 2)) := by
 have := mergeN_rest bD ns (i + 1)
 rw [← this]
 conv => lhs; unfold restM
 rw [Nat.add_sub_cancel, List.drop_eq_getElem_cons h]
def goneS (x13 t : List Bool) (bs : List S123) (m : Nat) : Bool := !gB x13 m && match bs[m]? with
 | some b => liveB (gB t) b.f1 b.f3
 | none => false
section
variable (ps P : List (List Int)) (bs : List S123) (v : Int) (news : List (Nat × ByteArray)) (x12 : List (List ByteArray)) (x13 t : List Bool)
theorem sp_l3_ev (i : Nat) (hi : i < x12.length) (h12 : rd_L7 x12 (i : Int) = atP i news) (hn : news.length ≤ 1000000) (hib : i ≤ 1048576) {R : List (List Int) × List S123 × Int × Int} :
  ∀ (n j ord : Nat) (acc : List S123), j + n = (atP i news).length → ord + n ≤ 1000000 → acc.length + n ≤ 1000000000 →
   Ev (fun k => spec_l06Add.l2 k v x12 x13 t ((ord + n : Nat) : Int) ((i + 1 : Nat) : Int) ps bs P (acc ++ numbL v ord ((atP i news).drop j))) R →
   Ev (fun k => spec_l06Add.l3 k v x12 x13 t (ord : Int) (i : Int) (j : Int) ps bs P acc) R := by
 intro n
 induction n with
 | zero =>
  intro j ord acc hj ho hacc hR
  refine Ev.succ ?_
  simp only [spec_l06Add.l3]
  rw [drop_end (atP i news) j (by omega)] at hR
  rw [h12, up1 i (by omega)]
  refine Ev.pos (by omega) (Ev.pos (by omega) (Ev.neg (by omega) ?_))
  simpa [numbL] using hR
 | succ n ih =>
  intro j ord acc hj ho hacc hR
  refine Ev.succ ?_
  simp only [spec_l06Add.l3]
  have hla : (atP i news).length ≤ news.length := by unfold atP; rw [List.length_map]; exact List.length_filter_le _ _
  rw [drop_rdOf ByteArray.empty (atP i news) j (by omega)] at hR
  rw [h12, up1 ord (by omega), up1 j (by omega)]
  refine Ev.pos (by omega) (Ev.pos (by omega) (Ev.pos (by omega) (Ev.pos (by omega) (Ev.pos (by omega) ?_))))
  refine ih (j + 1) (ord + 1) _ (by omega) (by omega) (by rw [List.length_append, List.length_singleton]; omega) ?_
  rw [List.append_assoc, show ord + 1 + n = ord + (n + 1) by omega]
  exact hR
theorem sp_l2_ev (hb : bs.length ≤ 1000000) (hbx : ∀ b ∈ bs, b.f3.length ≤ 1048576) (ht : t.length ≤ 1000000) (h12 : x12.length = bs.length + 1) (hi12 : ∀ i : Nat, i ≤ bs.length → rd_L7 x12 (i : Int) = atP i news) (h13 : x13.length = bs.length) (hn : news.length ≤ 100000) (hu : UpN news) (T : List S123) (hT : T.length ≤ 1000000000) :
  ∀ (n i : Nat) (acc : List S123), i + n = bs.length → acc ++ restM (delsOf (goneS x13 t bs) v 0 bs) (numb v 0 news) (i + 1) = T →
   Ev (fun k => spec_l06Add.l2 k v x12 x13 t (below (i + 1) news : Int) ((i + 1 : Nat) : Int) ps bs P acc) (if (T.length : Int) > 300 then ([], [], 0, 4) else (P, T, v, 0)) := by
 intro n
 induction n with
 | zero =>
  intro i acc hi hacc
  rw [restM_end _ _ _ (by rw [delsOf_length]; omega), List.append_nil] at hacc
  subst hacc
  refine Ev.succ ?_
  simp only [spec_l06Add.l2]
  refine Ev.neg (by omega) ?_
  by_cases c : (acc.length : Int) > 300
  ·exact Ev_eq (Ev.pos c (Ev.now _)) (by rw [if_pos c])
  ·exact Ev_eq (Ev.neg c (Ev.now _)) (by rw [if_neg c])
 | succ n ih =>
  intro i acc hi hacc
  have hi' : i < bs.length := by omega
  have hbm := hbx _ (List.getElem_mem hi')
  have hdl : i < (delsOf (goneS x13 t bs) v 0 bs).length := by rw [delsOf_length]; exact hi'
  have hget : (delsOf (goneS x13 t bs) v 0 bs)[i] = if goneS x13 t bs i = true then ⟨bs[i].f0, bs[i].f1, bs[i].f2, bs[i].f3 ++ [v]⟩ else bs[i] := by
   have := delsOf_get (goneS x13 t bs) v bs 0 i hi'
   rw [Nat.zero_add, List.getElem?_eq_getElem hdl] at this
   exact Option.some.inj this
  rw [restM_cons _ _ i hdl, hget] at hacc
  have hgone : goneS x13 t bs i = (!gB x13 i && liveB (gB t) bs[i].f1 bs[i].f3) := by
   unfold goneS
   rw [List.getElem?_eq_getElem hi']
  have hat : atP (i + 1) (numb v 0 news) = numbL v (below (i + 1) news) (atP (i + 1) news) := by rw [numb_at v (i + 1) news 0 hu, Nat.zero_add]
  have hlat : below (i + 1) news + (atP (i + 1) news).length ≤ news.length := by
   have h1 := below_succ (i + 1) news
   have h2 : below (i + 1 + 1) news ≤ news.length := List.length_filter_le _ _
   omega
  have hal : acc.length < 1000000000 := by
   have := congrArg List.length hacc
   rw [List.length_append, List.length_cons] at this
   omega
  -- what is done with the body as it is told
  have step : ∀ b' : S123, b' = (if goneS x13 t bs i = true then ⟨bs[i].f0, bs[i].f1, bs[i].f2, bs[i].f3 ++ [v]⟩ else bs[i]) →
    Ev (fun k => spec_l06Add.j3 k v x12 x13 t (below (i + 1) news : Int) ((i + 1 : Nat) : Int) ps bs P (acc ++ [b'])) (if (T.length : Int) > 300 then ([], [], 0, 4) else (P, T, v, 0)) := by
   intro b' hb'
   rw [← hb', hat] at hacc
   have hlen := congrArg List.length hacc
   simp only [List.length_append, List.length_cons] at hlen
   refine Ev.succ ?_
   simp only [spec_l06Add.j3]
   have hnl : (numbL v (below (i + 1) news) (atP (i + 1) news)).length = (atP (i + 1) news).length := by
    rw [← hat]
    unfold atP
    rw [List.length_map, List.length_map]
    have : ∀ (l : List (Nat × ByteArray)) (c : Nat), ((numb v c l).filter fun x => decide (x.1 = i + 1)).length = (l.filter fun x => decide (x.1 = i + 1)).length := by
     intro l
     induction l with
     | nil => intro c; rfl
     | cons y l ih2 =>
      intro c
      obtain ⟨a, s⟩ := y
      simp only [numb, List.filter_cons]
      by_cases e : a = i + 1 <;> simp [e, ih2]
    exact this news 0
   refine sp_l3_ev ps P bs v news x12 x13 t (i + 1) (by omega) (hi12 (i + 1) (by omega)) (by omega) (by omega) (atP (i + 1) news).length 0 (below (i + 1) news) _ (by omega) (by omega) (by rw [List.length_append, List.length_singleton]; omega) ?_
   rw [List.drop_zero, ← below_succ]
   exact ih (i + 1) _ (by omega) (by rw [List.append_assoc, List.append_assoc]; exact hacc)
  refine Ev.succ ?_
  simp only [spec_l06Add.l2]
  rw [w64 (n := ((i + 1 : Nat) : Int) - 1) (by omega) (by omega), show ((i + 1 : Nat) : Int) - 1 = (i : Int) by omega, rdW_nat bs i hi', rdB_nat]
  refine Ev.pos (by omega) (Ev.pos (by omega) (Ev.pos (by omega) (Ev.pos (by omega) (Ev.bnd0 (a := []) rfl (Ev.pos (by simp; omega) (Ev.bnd0 (a := bs[i].f3) rfl (Ev.pos (by omega) ?_)))))))
  by_cases c : gB x13 i = true
  ·refine Ev.pos c (Ev.pos (by omega) (step _ ?_))
   rw [hgone, c]
   rfl
  ·refine Ev.neg c (Ev.bnd (spec_l06Live_ev _ _ _ _ t ht (by omega)) ?_)
   have c' : gB x13 i = false := by simpa using c
   by_cases d : liveB (gB t) bs[i].f1 bs[i].f3 = true
   ·refine Ev.pos d (Ev.pos (by omega) (Ev.pos (by omega) (step _ ?_)))
    rw [hgone, c', d]
    rfl
   ·refine Ev.neg d (Ev.pos (by omega) (step _ ?_))
    have d' : liveB (gB t) bs[i].f1 bs[i].f3 = false := by simpa using d
    rw [hgone, d', Bool.and_false]
    rfl
theorem sp_start_ev (hb : bs.length ≤ 1000000) (hbx : ∀ b ∈ bs, b.f3.length ≤ 1048576) (ht : t.length ≤ 1000000) (h12 : x12.length = bs.length + 1) (hi12 : ∀ i : Nat, i ≤ bs.length → rd_L7 x12 (i : Int) = atP i news) (h13 : x13.length = bs.length) (hn : news.length ≤ 100000) (hu : UpN news) (T : List S123) (hT : T.length ≤ 1000000000) (hM : mergeN 0 (delsOf (goneS x13 t bs) v 0 bs) (numb v 0 news) = T) :
  Ev (fun k => spec_l06Add.l2 k v x12 x13 t 0 0 ps bs P []) (if (T.length : Int) > 300 then ([], [], 0, 4) else (P, T, v, 0)) := by
 have hm := mergeN_rest (delsOf (goneS x13 t bs) v 0 bs) (numb v 0 news) 0
 rw [List.drop_zero, hM, numb_at v 0 news 0 hu, Nat.zero_add] at hm
 have hb0 : below 0 news = 0 := below_none 0 news (fun x _ => Nat.zero_le _)
 have hlat : (atP 0 news).length ≤ news.length := by unfold atP; rw [List.length_map]; exact List.length_filter_le _ _
 refine Ev.succ ?_
 simp only [spec_l06Add.l2]
 refine Ev.pos (by omega) (Ev.neg (by omega) (Ev.succ ?_))
 simp only [spec_l06Add.j3]
 refine sp_l3_ev ps P bs v news x12 x13 t 0 (by omega) (hi12 0 (by omega)) (by omega) (by omega) (atP 0 news).length 0 0 [] (by omega) (by omega) (by simp; omega) ?_
 have h1 := below_succ 0 news
 rw [hb0] at h1 hm
 rw [List.drop_zero, ← h1, List.nil_append]
 exact sp_l2_ev ps P bs v news x12 x13 t hb hbx ht h12 hi12 h13 hn hu T hT bs.length 0 _ (by omega) hm.symm
end
section
variable (ps : List (List Int)) (bs : List S123) (hg : graphOk ps = true) (hf : Fine ps bs) (h3 : bs.length ≤ 300) (x : List Int) (hxl : x.length = ps.length) (hw : Words x) (hc : Clo ps x ps.length)
include hg hf h3 hxl hw hc
theorem clo_bits (v : Nat) (hv : v < ps.length) : (wd x v).testBit = pS ps [(v : Int)] := by
 have _ := hg
 have _ := hf
 have _ := h3
 have _ := hxl
 have _ := hw
 refine bool_ext fun u => ?_
 rw [hc v hv u, pS_iff]
 constructor
 ·intro h; exact ⟨v, by simp, hv, h⟩
 ·rintro ⟨s, hs, _, ha⟩
  have : s = v := by have := List.mem_singleton.1 hs; omega
  exact this ▸ ha
theorem union_bits (l : List Int) (hl : l.length ≤ 140737488351232) (hp : ∀ p ∈ l, 0 ≤ p ∧ p < (ps.length : Int)) : ∃ s : Nat, Ev (fun k => impl_unionOf.f k x l) (s : Int) ∧ s < 2 ^ 64 ∧ s.testBit = pS ps l := by
 have _ := hg
 have _ := hf
 have _ := h3
 obtain ⟨s, hs, hs1, hs2⟩ := impl_unionOf_ev x hw l hl (fun p h => by have := hp p h; omega)
 refine ⟨s, hs, hs1, bool_ext fun u => ?_⟩
 rw [hs2 u, pS_iff]
 constructor
 ·rintro ⟨p, hp1, hp2⟩
  have := hp _ hp1
  exact ⟨p, hp1, by omega, (hc p (by omega) u).1 hp2⟩
 ·rintro ⟨p, hp1, hp2, ha⟩
  exact ⟨p, hp1, (hc p hp2 u).2 ha⟩
theorem impl_end (born : List Int) (hb : born.length = ps.length) : ∀ (m v : Nat), v + m = ps.length → Ev (fun k => impl_bodiesOk.l2 k born x (x.length : Int) (v : Int) ps bs) (endOk ps bs born m v) := by
 have hn := graphOk_len hg
 intro m
 induction m with
 | zero =>
  intro v hv
  refine Ev.succ ?_
  simp only [impl_bodiesOk.l2]
  exact Ev.neg (by omega) (Ev.some_ rfl)
 | succ m ih =>
  intro v hv
  refine Ev.succ ?_
  simp only [impl_bodiesOk.l2]
  rw [up1 v (by omega), endOk, wd_cast hw (show v < x.length by omega)]
  refine Ev.pos (by omega) (Ev.pos (by omega) (Ev.pos (by omega) (Ev.pos (by omega) ?_)))
  by_cases c : rd born (v : Int) > 80
  ·exact Ev.pos c (Ev.some_ (by rw [decide_eq_false (by omega)]; simp))
  ·refine Ev.neg c (Ev.bnd (impl_liveIn_ev ps bs (wd x v) (wd_lt hw (by omega)) hf.2.2.1 (fun b hb => (hf.2.2.2 b hb).2)) ?_)
   rw [clo_bits ps bs hg hf h3 x hxl hw hc v (by omega), decide_eq_true (show rd born (v : Int) ≤ 80 by omega), Bool.true_and]
   by_cases c2 : ((placesL (pS ps [(v : Int)]) bs 0).length : Int) > 80
   ·exact Ev.pos c2 (Ev.some_ (by rw [decide_eq_false (by omega)]; simp))
   ·rw [decide_eq_true (by omega), Bool.true_and]
    exact Ev.neg c2 (ih (v + 1) (by omega))
theorem impl_dels (born : List Int) (i : Nat) (b : S123) (hb : ∀ d ∈ b.f3, 0 ≤ d ∧ d ≤ (ps.length : Int) - 1) (hl : b.f3.length ≤ 1048576) (hi : i < 1000) (R : Bool) (hR : Ev (fun k => impl_bodiesOk.l0 k x born bs (bs.length : Int) ((i + 1 : Nat) : Int) ps bs) R) :
  ∀ (m j : Nat), j + m = b.f3.length → Ev (fun k => impl_bodiesOk.l1 k x born bs (bs.length : Int) (i : Int) b.f3 (b.f3.length : Int) (j : Int) ps bs b.f0 b.f1 b.f2 b.f3) (((b.f3.drop j).all fun d => liveB (pS ps (row ps d.toNat)) b.f1 b.f3) && R) := by
 have hn := graphOk_len hg
 have hdn := graphOk_down hg
 intro m
 induction m with
 | zero =>
  intro j hj
  refine Ev.succ ?_
  simp only [impl_bodiesOk.l1]
  rw [drop_end _ j (by omega), up1 i (by omega)]
  refine Ev.neg (by omega) ?_
  rw [List.all_nil, Bool.true_and]
  exact hR
 | succ m ih =>
  intro j hj
  have hrd : rd b.f3 (j : Int) = (b.f3)[j]'(by omega) := rd_nat _ _ _
  have hd := hb _ (List.getElem_mem (show j < b.f3.length by omega))
  obtain ⟨u, hu⟩ := Int.eq_ofNat_of_zero_le hd.1
  rw [hu] at hd
  have hul : u < ps.length := by omega
  have h4 := rows4 hg _ (List.getElem_mem hul)
  obtain ⟨s, hs, hs1, hs2⟩ := union_bits ps bs hg hf h3 x hxl hw hc (ps[u]'hul) (by omega) (fun p hp => by have := hdn u hul p (by rw [row_get ps u hul]; exact hp); omega)
  refine Ev.succ ?_
  simp only [impl_bodiesOk.l1]
  rw [hrd, hu, rdL_nat ps u hul, up1 j (by omega), List.drop_eq_getElem_cons (show j < b.f3.length by omega), List.all_cons, hu, Int.toNat_natCast]
  refine Ev.pos (by omega) (Ev.pos (by omega) (Ev.pos (by omega) (Ev.pos (by omega) (Ev.pos (by omega) (Ev.bnd hs (Ev.bnd (impl_isLive_ev _ _ _ _ s hs1 (by omega)) ?_))))))
  rw [hs2, ← row_get ps u hul]
  by_cases c : liveB (pS ps (row ps u)) b.f1 b.f3 = true
  ·rw [c, Bool.true_and]
   exact Ev.pos (by first | rfl | trivial) (ih (j + 1) (by omega))
  ·rw [Bool.eq_false_iff.2 c, Bool.false_and, Bool.false_and]
   exact Ev.neg (by simp) (Ev.now _)
theorem impl_bodies : ∀ (m i : Nat) (born : List Int), i + m = bs.length → born.length = ps.length → Born born i → Ev (fun k => impl_bodiesOk.l0 k x born bs (bs.length : Int) (i : Int) ps bs) (bodiesGo ps bs (bs.drop i) born) := by
 have hn := graphOk_len hg
 intro m
 induction m with
 | zero =>
  intro i born hi hl hb
  refine Ev.succ ?_
  simp only [impl_bodiesOk.l0]
  rw [drop_end bs i (by omega)]
  exact Ev.neg (by omega) (impl_end ps bs hg hf h3 x hxl hw hc born hl ps.length 0 (by omega))
 | succ m ih =>
  intro i born hi hl hb
  have hm := hf.2.2.2 _ (List.getElem_mem (show i < bs.length by omega))
  have hbad : ∀ {b : S123} {l : List S123}, bodyOk ps born b = false → bodiesGo ps bs (b :: l) born = false := fun h => by rw [bodiesGo, h, Bool.false_and]
  refine Ev.succ ?_
  simp only [impl_bodiesOk.l0]
  rw [rdW_nat bs i (by omega), List.drop_eq_getElem_cons (show i < bs.length by omega)]
  generalize hbe : bs[i]'(by omega) = b at hm ⊢
  refine Ev.pos (by omega) (Ev.pos (by omega) (Ev.pos (by omega) (Ev.bnd0 (impl_LineOk_eq b.f0) ?_)))
  by_cases c1 : lineOk b.f0 = true
  ·refine Ev.pos c1 (Ev.bnd0 (impl_isPlace_eq _ x.length (by omega)) ?_)
   rw [hxl]
   by_cases c2 : 0 ≤ b.f1 ∧ b.f1 ≤ (ps.length : Int) - 1
   ·refine Ev.pos (by simpa using c2) (Ev.pos c2.1 (Ev.pos (by omega) ?_))
    by_cases c3 : b.f2 = rd born b.f1
    ·refine Ev.pos c3 (Ev.bnd (impl_ascends_ev b.f3 (ps.length : Int) (by omega) (by omega) (by omega)) (Ev.succ ?_))
     simp only [impl_bodiesOk.j1]
     by_cases c4 : asc (ps.length : Int) none b.f3 = true
     ·refine Ev.neg (by simp [c4]) (Ev.pos c2.1 (Ev.pos (by omega) ?_))
      obtain ⟨u, hu⟩ := Int.eq_ofNat_of_zero_le c2.1
      have hbu := hb u (by omega)
      rw [← hu] at hbu
      rw [w64 (by omega) (by omega)]
      have key := impl_dels ps bs hg hf h3 x hxl hw hc (bornOf born b) i b (asc_bound _ _ _ c4) hm.2 (by omega) _ (ih (i + 1) (bornOf born b) (by omega) (by rw [spec_bornOf]; exact hl) (hb.step b c2.1 (by omega))) b.f3.length 0 (by omega)
      refine Ev_eq key ?_
      rw [bodiesGo, bodyOk, c1, decide_eq_true c2, decide_eq_true c3, c4, List.drop_zero]
      simp
     ·exact Ev.pos (by simp [Bool.eq_false_iff.2 c4]) (Ev.some_ (hbad (by simp [bodyOk, Bool.eq_false_iff.2 c4])).symm)
    ·refine Ev.neg c3 (Ev.succ ?_)
     simp only [impl_bodiesOk.j1]
     exact Ev.pos trivial (Ev.some_ (hbad (by simp [bodyOk, c3])).symm)
   ·refine Ev.neg (by simpa using c2) (Ev.succ ?_)
    simp only [impl_bodiesOk.j1]
    exact Ev.pos trivial (Ev.some_ (hbad (by rw [bodyOk, decide_eq_false c2]; simp)).symm)
  ·refine Ev.neg c1 (Ev.succ ?_)
   simp only [impl_bodiesOk.j1]
   exact Ev.pos trivial (Ev.some_ (hbad (by simp [bodyOk, Bool.eq_false_iff.2 c1])).symm)
end
theorem impl_WeaveOk_ev (ps : List (List Int)) (bs : List S123) (hf : Fine ps bs) : Ev (fun k => impl_WeaveOk.f k ps bs) (weaveOk ps bs) := by
 have hf1 := hf.1
 simp only [impl_WeaveOk.f]
 unfold weaveOk
 by_cases h3 : bs.length ≤ 300
 ·refine Ev.pos (by omega) (Ev.bnd (impl_GraphOk_ev ps (by omega) (fun x hx => by have := hf.2.1 x hx; omega)) ?_)
  by_cases hg : graphOk ps = true
  ·refine Ev.pos hg ?_
   have hd := graphOk_down hg
   have hn := graphOk_len hg
   obtain ⟨x, hx1, hxl, hw, hc⟩ := impl_closures_ev ps hd (by omega) (rows4 hg)
   refine Ev.bnd hx1 (Ev.bnd ?_ (Ev.now _))
   simp only [impl_bodiesOk.f]
   refine Ev.pos (by omega) (Ev.pos (by omega) ?_)
   rw [Int.toNat_natCast, hxl, hg, decide_eq_true h3, Bool.true_and, Bool.true_and]
   have := impl_bodies ps bs hg hf h3 x hxl hw hc bs.length 0 (List.replicate ps.length 0) (by omega) (by simp) (born0 _)
   simpa using this
  ·exact Ev.neg hg (Ev.some_ (by rw [Bool.eq_false_iff.2 hg]; simp))
 ·exact Ev.neg (by omega) (Ev.some_ (by rw [decide_eq_false h3]; simp))
theorem placesL_iff (p : Nat → Bool) : ∀ (bs : List S123) (i m : Nat), ((i + m : Nat) : Int) ∈ placesL p bs i ↔ ∃ h : m < bs.length, liveB p bs[m].f1 bs[m].f3 = true
 | [], i, m => by simp [placesL]
 | b :: bs, i, 0 => by
  simp only [placesL, Nat.add_zero, List.mem_append, List.getElem_cons_zero, List.length_cons]
  constructor
  ·rintro (h | h)
   ·split at h
    ·rename_i c; exact ⟨by omega, c⟩
    ·simp at h
   ·have := placesL_mem p bs (i + 1) _ h
    omega
  ·rintro ⟨_, h⟩
   left
   rw [if_pos h]
   simp
 | b :: bs, i, m + 1 => by
  have ih := placesL_iff p bs (i + 1) m
  simp only [placesL, List.mem_append, List.getElem_cons_succ, List.length_cons]
  rw [show i + (m + 1) = i + 1 + m by omega, ih]
  constructor
  ·rintro (h | ⟨h, h2⟩)
   ·split at h
    ·simp at h; omega
    ·simp at h
   ·exact ⟨by omega, h2⟩
  ·rintro ⟨h, h2⟩
   exact .inr ⟨by omega, h2⟩
theorem placesL_rise (p : Nat → Bool) : ∀ (bs : List S123) (i : Nat), (placesL p bs i).Pairwise (· < ·)
 | [], i => by simp [placesL]
 | b :: bs, i => by
  have ih := placesL_rise p bs (i + 1)
  simp only [placesL]
  split
  ·refine List.pairwise_cons.2 ⟨fun x hx => ?_, ih⟩
   have := placesL_mem p bs (i + 1) x hx
   omega
  ·simpa using ih
theorem rise_lt {L : List Int} (h : L.Pairwise (· < ·)) {i j : Nat} (hij : i < j) (hj : j < L.length) : rd L (i : Int) < rd L (j : Int) := by
 rw [rd_nat L i (by omega), rd_nat L j hj]
 exact List.pairwise_iff_getElem.1 h i j (by omega) hj hij
theorem rise_inj {L : List Int} (h : L.Pairwise (· < ·)) {i j : Nat} (hi : i < L.length) (hj : j < L.length) (e : rd L (i : Int) = rd L (j : Int)) : i = j := by
 rcases Nat.lt_trichotomy i j with c | c | c
 ·have := rise_lt h c hj; omega
 ·exact c
 ·have := rise_lt h c hi; omega
theorem up_mem {n : Nat} {L : List Int} : ∀ (st : List Int) (p : Nat), Up n L st p → ∀ z ∈ st, 0 ≤ z → z < (L.length : Int)
 | [], _, _, z, hz, _ => by simp at hz
 | y :: st, p, h, z, hz, h0 => by
  simp only [Up] at h
  rcases List.mem_cons.1 hz with rfl | hz
  ·rw [if_pos h0] at h
   exact h.1
  ·split at h
   ·exact up_mem st _ h.2.2.2 z hz h0
   ·exact up_mem st _ h z hz h0
theorem go_lines (ps : List (List Int)) (all : List S123) : ∀ (l : List S123) (born : List Int), bodiesGo ps all l born = true → ∀ b ∈ l, lineOk b.f0 = true ∧ asc (ps.length : Int) none b.f3 = true
 | [], _, _, b, hb => by simp at hb
 | c :: l, born, h, b, hb => by
  rw [bodiesGo, Bool.and_eq_true] at h
  rcases List.mem_cons.1 hb with rfl | hb
  ·have h1 := h.1
   simp only [bodyOk, Bool.and_eq_true] at h1
   exact ⟨h1.1.1.1.1, h1.1.2⟩
  ·exact go_lines ps all l _ h.2 b hb
theorem weaveOk_lines {ps : List (List Int)} {bs : List S123} (h : weaveOk ps bs = true) : ∀ b ∈ bs, lineOk b.f0 = true ∧ asc (ps.length : Int) none b.f3 = true := by
 simp only [weaveOk, Bool.and_eq_true, decide_eq_true_eq] at h
 exact go_lines ps bs bs _ h.2
theorem pS_same {ps : List (List Int)} {l : List Int} {p : Nat → Bool} (h : ∀ u, p u = true ↔ ∃ s : Nat, (s : Int) ∈ l ∧ s < ps.length ∧ Anc ps s u) : p = pS ps l := by
 funext u
 rw [Bool.eq_iff_iff, h u, pS_iff]
noncomputable def addT (ps : List (List Int)) (bs : List S123) (parents : List Int) (lines : List ByteArray) : List S123 :=
 let L := placesL (pS ps parents) bs 0
 let st := pairs 0 (linesL bs L) lines
 mergeN 0 (delsOf (gone L st L.length) (ps.length : Int) 0 bs) (numb (ps.length : Int) 0 (scanN L st lines 0))
open Classical in
noncomputable def addR (ps : List (List Int)) (bs : List S123) (parents : List Int) (lines : List ByteArray) : List (List Int) × List S123 × Int × Int :=
 if weaveOk ps bs = true then (if (parents.length : Int) ≤ 4 ∧ asc (ps.length : Int) none parents = true then (if linesOk 80 lines = true then (if ps.length = 40 then ([], [], 0, 4) else (if ((addT ps bs parents lines).length : Int) > 300 then ([], [], 0, 4) else (ps ++ [parents], addT ps bs parents lines, (ps.length : Int), 0))) else ([], [], 0, 3)) else ([], [], 0, 2)) else ([], [], 0, 1)
section
variable (ps : List (List Int)) (bs : List S123) (parents : List Int) (lines : List ByteArray) (hf : Fine ps bs) (hw : weaveOk ps bs = true) (hp4 : (parents.length : Int) ≤ 4) (hasc : asc (ps.length : Int) none parents = true) (hlo : linesOk 80 lines = true)
include hf hw hp4 hasc hlo
theorem add_facts : ∃ L st, L = placesL (pS ps parents) bs 0 ∧ st = pairs 0 (linesL bs L) lines ∧ st.length = lines.length ∧ lines.length ≤ 80 ∧ L.length ≤ bs.length ∧ bs.length ≤ 300 ∧ ps.length ≤ 40 ∧ L.Pairwise (· < ·) ∧
  (∀ i : Nat, i < L.length → ∃ m : Nat, rd L (i : Int) = (m : Int) ∧ m < bs.length) ∧ Up bs.length L st 0 ∧ linesOk 300 (linesL bs L) = true ∧ linesOk 300 lines = true := by
 have _ := hf
 have _ := hp4
 have _ := hasc
 obtain ⟨hg, h3⟩ := weaveOk_graph hw
 have hn := graphOk_len hg
 have hll := linesOk_len hlo
 refine ⟨_, _, rfl, rfl, pairs_length _ _ _, by omega, placesL_length _ _ _, h3, hn, placesL_rise _ _ _, fun i hi => ?_, ?_, ?_, ?_⟩
 ·obtain ⟨m, h1, _, h2⟩ := placesL_in (pS ps parents) bs i hi
  exact ⟨m, h1, h2⟩
 ·refine pairs_up (fun i hi => ?_) (fun i hi => ?_) _ 0 _ _ 0 (Nat.le_refl _) (by simp [linesL]) (Nat.zero_le _) (fun hi => ?_)
  ·obtain ⟨m, h1, _, h2⟩ := placesL_in (pS ps parents) bs i hi
   rw [h1]; omega
  ·exact rise_lt (placesL_rise _ _ _) (by omega) hi
  ·obtain ⟨m, h1, _, h2⟩ := placesL_in (pS ps parents) bs 0 hi
   rw [h1]; omega
 ·have hpl := placesL_length (pS ps parents) bs 0
  rw [linesOk, Bool.and_eq_true, decide_eq_true_eq]
  refine ⟨by simp only [linesL, List.length_map]; omega, List.all_eq_true.2 fun x hx => ?_⟩
  obtain ⟨y, hy, rfl⟩ := List.mem_map.1 hx
  obtain ⟨j, hj, rfl⟩ := List.getElem_of_mem hy
  obtain ⟨m, _, h1, h2⟩ := placesL_in (pS ps parents) bs j hj
  rw [h1, rdW_nat bs m h2]
  exact (weaveOk_lines hw _ (List.getElem_mem h2)).1
 ·rw [linesOk, Bool.and_eq_true, decide_eq_true_eq] at hlo ⊢
  exact ⟨by omega, hlo.2⟩
theorem impl_add_ev (h40 : ps.length ≠ 40) : Ev (fun k => impl_Weave_add.f k ps bs parents lines) (ps ++ [parents], addT ps bs parents lines, decide (((addT ps bs parents lines).length : Int) ≤ 300)) ∧ (addT ps bs parents lines).length ≤ bs.length + lines.length := by
 obtain ⟨L, st, rfl, rfl, hst, hl80, hLl, h3, hn, hrise, hplace, hup, hl1, hl2⟩ := add_facts ps bs parents lines hf hw hp4 hasc hlo
 obtain ⟨hg, _⟩ := weaveOk_graph hw
 have hd := graphOk_down hg
 obtain ⟨x, hx, hxl, hxw, hxc⟩ := impl_closures_ev ps hd (by omega) (rows4 hg)
 obtain ⟨s, hs, hs64, hsb⟩ := union_bits ps bs hg hf h3 x hxl hxw hxc parents (by omega) (fun p hp => by have := asc_range _ _ _ hasc p hp; omega)
 have hLe := impl_liveIn_ev ps bs s hs64 (by omega) (fun b hb => (hf.2.2.2 b hb).2)
 rw [hsb] at hLe
 generalize hLq : placesL (pS ps parents) bs 0 = L at *
 have hls := impl_linesAt_ev ps bs L (by omega) (fun j hj => by obtain ⟨m, h1, h2⟩ := hplace j hj; exact ⟨m, h1, by rw [← rd_nat L j hj, h1], h2⟩)
 have hll : (linesL bs L).length ≤ 300 := by simp only [linesL, List.length_map]; omega
 have hal := impl_align_ev (linesL bs L) lines (by omega) (by omega)
 generalize hsq : pairs 0 (linesL bs L) lines = st at *
 obtain ⟨M, hM, hM1, hM2⟩ := add_l1_ev ps parents L st lines (delsOf (gone L st L.length) (ps.length : Int) 0 bs) hst (by omega) (by rw [delsOf_length]; omega) (by omega) (by omega) lines.length 0 0 [] (by omega) (by rw [delsOf_length, List.drop_zero]; exact hup) (by simp) (by simp) (by rw [show mergeN 0 (delsOf (gone L st L.length) (ps.length : Int) 0 bs) (numb (ps.length : Int) 0 []) = delsOf (gone L st L.length) (ps.length : Int) 0 bs from mergeN_none _ _]; simp)
 simp only [List.nil_append, List.drop_zero] at hM hM1 hM2
 have hT : addT ps bs parents lines = M := by
  rw [hM]
  unfold addT
  simp only [hLq, hsq]
 rw [hT]
 refine ⟨?_, ?_⟩
 ·simp only [impl_Weave_add.f]
  have h0 := add_l0_ev ps parents L st lines bs (by omega) (by omega) (fun b hb => (hf.2.2.2 b hb).2) (by omega) hplace (fun i j hi hj e => rise_inj hrise hi hj e) (R := (ps ++ [parents], M, decide ((M.length : Int) ≤ 300))) (by
   have := hM2
   rw [show mergeN 0 (delsOf (gone L st L.length) (ps.length : Int) 0 bs) (numb (ps.length : Int) 0 []) = delsOf (gone L st L.length) (ps.length : Int) 0 bs from mergeN_none _ _] at this
   simpa using this) L.length 0 (by omega)
  rw [show gone L st 0 = fun _ => false from funext fun m => by simp [gone], delsOf_none] at h0
  exact Ev.neg (by omega) (Ev.bnd hx (Ev.bnd hs (Ev.bnd hLe (Ev.bnd hls (Ev.bnd hal h0)))))
 ·rw [hM1, delsOf_length]
  have := scanN_length L st lines 0
  omega
theorem spec_add_ev : Ev (fun k => spec_l06Add.f k ps bs parents lines) (if ps.length = 40 then ([], [], 0, 4) else (if ((addT ps bs parents lines).length : Int) > 300 then ([], [], 0, 4) else (ps ++ [parents], addT ps bs parents lines, (ps.length : Int), 0))) := by
 obtain ⟨L, st, hLd, hsd, hst, hl80, hLl, h3, hn, hrise, hplace, hup, hl1, hl2⟩ := add_facts ps bs parents lines hf hw hp4 hasc hlo
 obtain ⟨hg, _⟩ := weaveOk_graph hw
 have hd := graphOk_down hg
 obtain ⟨t, ht, htl, hte⟩ := spec_l05Set_ev ps parents hd (by omega) (by omega) (rows4 hg)
 have e := pS_same hte
 have hpar : Ev (fun k => spec_l06Parents.f k ps bs parents) true := by
  simp only [spec_l06Parents.f]
  exact Ev.pos hp4 (Ev.bnd (spec_l05Rise_ev parents (ps.length : Int) (by omega) (by omega) (by omega)) (Ev.some_ hasc))
 have hlines : Ev (fun k => spec_LinesOk.f k lines) true := Ev_eq (spec_LinesOk_ev lines (allOk_sized0 hl2)) hlo
 simp only [spec_l06Add.f]
 refine Ev.bnd hpar (Ev.pos rfl (Ev.bnd hlines (Ev.pos rfl ?_)))
 by_cases c40 : ps.length = 40
 ·rw [if_pos c40]
  exact Ev.pos (by omega) (Ev.now _)
 rw [if_neg c40]
 have hseen : Ev (fun k => spec_l06Seen.f k ps bs parents) L := by
  simp only [spec_l06Seen.f]
  rw [hLd, ← e]
  exact Ev.bnd ht (Ev.bnd (spec_l06Places_ev ps bs t (by omega) (fun b hb => (hf.2.2.2 b hb).2) (by omega)) (Ev.now _))
 have hll : (linesL bs L).length ≤ 300 := by simp only [linesL, List.length_map]; omega
 have hls := spec_l06Lines_ev ps bs L (by omega) (fun j hj => by obtain ⟨m, h1, h2⟩ := hplace j hj; exact ⟨m, h1, by rw [← rd_nat L j hj, h1], h2⟩)
 have hal : Ev (fun k => spec_Align.f k (linesL bs L) lines) st := Ev_eq (spec_Align_ev _ _ (allOk_sized0 hl1) (allOk_sized0 hl2)) (by rw [alignL, if_pos ⟨hl1, hl2⟩, hsd])
 refine Ev.neg (by omega) (Ev.bnd hseen (Ev.bnd hls (Ev.bnd hal ?_)))
 rw [up1 bs.length (by omega), Int.toNat_natCast, Int.toNat_natCast]
 refine Ev.pos (by omega) (Ev.pos (by omega) (Ev.pos (by omega) (Ev.pos (by omega) ?_)))
 have hsc := scanN_length L st lines 0
 refine sp_l0_ev ps parents L lines st bs (ps.length : Int) hst (by omega) (by omega) lines.length 0 0 [] _ _ (by omega) (by rw [List.drop_zero]; exact hup) (by simp) (by simp) (fun i hi => by rw [rdLL_nat _ i (by simp; omega)]; simp [atP]) (by simp) (fun y12 y13 g1 g2 g3 g4 => ?_)
 simp only [List.nil_append, List.drop_zero] at g2 g4
 have hgone : ∀ m, 0 ≤ m → m < 0 + bs.length → goneS y13 t bs m = gone L st L.length m := by
  intro m _ hm
  rw [Nat.zero_add] at hm
  have hb13 : gB (List.replicate bs.length false) m = false := by
   unfold gB
   rw [List.getD_eq_getElem?_getD, List.getElem?_replicate]
   split <;> rfl
  have hlive : liveB (gB t) bs[m].f1 bs[m].f3 = true ↔ ∃ i : Nat, i < L.length ∧ rd L (i : Int) = (m : Int) := by
   have := placesL_iff (pS ps parents) bs 0 m
   rw [Nat.zero_add, ← hLd] at this
   rw [e]
   constructor
   ·intro h
    obtain ⟨i, hi, he⟩ := List.getElem_of_mem (this.2 ⟨hm, h⟩)
    exact ⟨i, hi, by rw [rd_nat L i hi, he]⟩
   ·rintro ⟨i, hi, he⟩
    obtain ⟨_, h⟩ := this.1 (by rw [← he]; exact rd_mem L i hi)
    exact h
  have h13 := g4 m hm
  rw [hb13] at h13
  unfold goneS
  rw [List.getElem?_eq_getElem hm, Bool.eq_iff_iff, gone_iff, Bool.and_eq_true, Bool.not_eq_true']
  constructor
  ·rintro ⟨h1, h2⟩
   obtain ⟨i, hi, he⟩ := hlive.1 h2
   refine ⟨i, hi, he, fun hmem => ?_⟩
   have := h13.2 (.inr ⟨(i : Int), hmem, by omega, he⟩)
   rw [h1] at this
   exact absurd this (by simp)
  ·rintro ⟨i, hi, he, hmem⟩
   refine ⟨?_, hlive.2 ⟨i, hi, he⟩⟩
   rw [← Bool.not_eq_true]
   intro h
   rcases h13.1 h with h | ⟨z, hz, h0, hz2⟩
   ·exact absurd h (by simp)
   ·have hzl := up_mem st 0 hup z hz h0
    obtain ⟨z', rfl⟩ := Int.eq_ofNat_of_zero_le h0
    have := rise_inj hrise hi (by omega) (he.trans hz2.symm)
    subst this
    exact hmem hz
 have hT : mergeN 0 (delsOf (goneS y13 t bs) (ps.length : Int) 0 bs) (numb (ps.length : Int) 0 (scanN L st lines 0)) = addT ps bs parents lines := by
  rw [delsOf_congr (ps.length : Int) bs 0 hgone]
  unfold addT
  simp only [← hLd, ← hsd]
 have hTl := (impl_add_ev ps bs parents lines hf hw hp4 hasc hlo c40).2
 have hrow : ∀ r ∈ ps, r.length ≤ 1048576 := hf.2.1
 have h1 := sp_l1_ev ps parents bs (ps.length : Int) (by omega) hrow (by omega) y12 y13 t rfl ht (sp_start_ev ps (ps ++ [parents]) bs (ps.length : Int) (scanN L st lines 0) y12 y13 t (by omega) (fun b hb => (hf.2.2.2 b hb).2) (by omega) g1 g2 g3 (by omega) (scanN_up st lines 0 hup) _ (by omega) hT) ps.length 0 (by omega)
 simpa using h1
end
theorem pairs_right : ∀ (i : Nat) (a b : List ByteArray) (j : Nat) (hj : j < (pairs i a b).length), (pairs i a b)[j] ≠ -1 → ∃ (hb : j < b.length) (p : Nat) (hp : p < a.length), (pairs i a b)[j] = ((i + p : Nat) : Int) ∧ a[p] = b[j]
 | i, [], b, j, hj, h => by
  exfalso
  apply h
  simp [pairs_nil]
 | i, x :: a, [], j, hj, h => by simp [pairs_cons_nil] at hj
 | i, x :: a, y :: b, j, hj, h => by
  have hl := pairs_length i (x :: a) (y :: b)
  have hlen : j < (y :: b).length := by omega
  by_cases he : x = y
  ·have e : pairs i (x :: a) (y :: b) = (i : Int) :: pairs (i + 1) a b := by rw [pairs_cons, if_pos he]
   cases j with
   | zero => exact ⟨hlen, 0, by simp, by simp [e], by simpa using he⟩
   | succ j =>
    simp only [e, List.getElem_cons_succ] at h ⊢
    obtain ⟨hb, p, hp, h1, h2⟩ := pairs_right (i + 1) a b j (by simp [e] at hj; exact hj) h
    exact ⟨hlen, p + 1, by simp; omega, by rw [h1]; omega, by simpa using h2⟩
  ·by_cases h2 : lcs a (y :: b) ≥ lcs (x :: a) b
   ·have e : pairs i (x :: a) (y :: b) = pairs (i + 1) a (y :: b) := by rw [pairs_cons, if_neg he, if_pos h2]
    simp only [e] at h ⊢
    obtain ⟨hb, p, hp, h1, h3⟩ := pairs_right (i + 1) a (y :: b) j (by rw [← e]; exact hj) h
    exact ⟨hlen, p + 1, by simp; omega, by rw [h1]; omega, by simpa using h3⟩
   ·have e : pairs i (x :: a) (y :: b) = -1 :: pairs i (x :: a) b := by rw [pairs_cons, if_neg he, if_neg h2]
    cases j with
    | zero => simp [e] at h
    | succ j =>
     simp only [e, List.getElem_cons_succ] at h ⊢
     obtain ⟨hb, p, hp, h1, h3⟩ := pairs_right i (x :: a) b j (by simp [e] at hj; exact hj) h
     exact ⟨hlen, p, hp, h1, by simpa using h3⟩
termination_by _ a b => a.length + b.length
theorem pairs_ge (i : Nat) (a b : List ByteArray) : ∀ x ∈ pairs i a b, x = -1 ∨ (i : Int) ≤ x := by
 intro x hx
 obtain ⟨j, hj, rfl⟩ := List.mem_iff_getElem.1 hx
 by_cases h : (pairs i a b)[j] = -1
 ·exact Or.inl h
 ·obtain ⟨_, p, _, h1, _⟩ := pairs_right i a b j hj h
  exact Or.inr (by omega)
theorem liveB_congr {p q : Nat → Bool} {n : Nat} (hpq : ∀ u, u < n → p u = q u) {ins : Int} {dels : List Int} (h1 : 0 ≤ ins ∧ ins ≤ (n : Int) - 1) (h2 : ∀ d ∈ dels, 0 ≤ d ∧ d ≤ (n : Int) - 1) : liveB p ins dels = liveB q ins dels := by
 unfold liveB
 rw [hpq ins.toNat (by omega)]
 have e : (dels.all fun d => !(decide (0 ≤ d) && p d.toNat)) = dels.all fun d => !(decide (0 ≤ d) && q d.toNat) := by
  rw [Bool.eq_iff_iff, List.all_eq_true, List.all_eq_true]
  constructor
  ·intro h d hd
   have := h2 d hd
   rw [← hpq d.toNat (by omega)]
   exact h d hd
  ·intro h d hd
   have := h2 d hd
   rw [hpq d.toNat (by omega)]
   exact h d hd
 rw [e]
def liveOf (q : Nat → Bool) (b : S123) : Bool := liveB q b.f1 b.f3
theorem linesL_live (q : Nat → Bool) (all : List S123) : ∀ (n i : Nat), i + n = all.length → linesL all (placesL q (all.drop i) i) = ((all.drop i).filter (liveOf q)).map (·.f0)
 | 0, i, h => by rw [List.drop_eq_nil_of_le (by omega)]; simp [placesL, linesL]
 | n + 1, i, h => by
  have hr := rdW_nat all i (by omega)
  have ih := linesL_live q all n (i + 1) (by omega)
  rw [List.drop_eq_getElem_cons (show i < all.length by omega)]
  unfold linesL at ih ⊢
  rw [placesL, List.map_append, ih]
  by_cases c : liveB q all[i].f1 all[i].f3 = true
  ·rw [if_pos c, List.filter_cons_of_pos (show liveOf q all[i] = true from c)]
   simp [hr]
  ·rw [if_neg c, List.filter_cons_of_neg (show ¬ liveOf q all[i] = true from c)]
   simp
theorem linesL_all (q : Nat → Bool) (all : List S123) : linesL all (placesL q all 0) = (all.filter (liveOf q)).map (·.f0) := by
 have := linesL_live q all all.length 0 (by omega)
 simpa using this
theorem places_count (q : Nat → Bool) (all : List S123) : (placesL q all 0).length = ((all.filter (liveOf q)).map (·.f0)).length := by
 rw [← linesL_all]
 unfold linesL
 rw [List.length_map]
theorem atP_filter {α : Type} (P : α → Bool) (ns : List (Nat × α)) (h : ∀ y ∈ ns, P y.2 = false) (i : Nat) : (atP i ns).filter P = [] := by
 rw [List.filter_eq_nil_iff]
 intro x hx
 unfold atP at hx
 obtain ⟨y, hy, rfl⟩ := List.mem_map.1 hx
 rw [h y (List.mem_filter.1 hy).1]
 simp
theorem mergeN_filter {α : Type} (P : α → Bool) (ns : List (Nat × α)) (h : ∀ y ∈ ns, P y.2 = false) : ∀ (bs : List α) (i : Nat), (mergeN i bs ns).filter P = bs.filter P
 | [], i => by simp only [mergeN]; rw [atP_filter P ns h]; rfl
 | b :: bs, i => by
  simp only [mergeN]
  rw [List.filter_append, atP_filter P ns h, List.nil_append, List.filter_cons, List.filter_cons, mergeN_filter P ns h bs (i + 1)]
theorem mergeN_out {α : Type} (p : Nat) (x : α) (ns : List (Nat × α)) : ∀ (bs : List α) (i : Nat), p < i → mergeN i bs ((p, x) :: ns) = mergeN i bs ns
 | [], i, h => by simp only [mergeN, atP_cons]; rw [if_neg (by omega)]
 | b :: bs, i, h => by simp only [mergeN, atP_cons]; rw [if_neg (by omega), mergeN_out p x ns bs (i + 1) (by omega)]
theorem mergeN_here {α : Type} (p : Nat) (x : α) (ns : List (Nat × α)) : ∀ (bs : List α), mergeN p bs ((p, x) :: ns) = x :: mergeN p bs ns
 | [] => by simp [mergeN, atP_cons]
 | b :: bs => by simp only [mergeN, atP_cons]; rw [if_pos trivial, mergeN_out p x ns bs (p + 1) (by omega)]; rfl
theorem mergeN_next {α : Type} (ns : List (Nat × α)) (bs : List α) (i : Nat) (h : i < bs.length) (hn : ∀ y ∈ ns, i < y.1) : mergeN i (bs.drop i) ns = bs[i] :: mergeN (i + 1) (bs.drop (i + 1)) ns := by
 rw [List.drop_eq_getElem_cons h]
 simp only [mergeN]
 rw [atP_gt i ns hn]
 rfl
theorem numb_places (v : Int) : ∀ (t : List (Nat × ByteArray)) (c : Nat) (y : Nat × S123), y ∈ numb v c t → y.2.f1 = v ∧ y.2.f3 = [] ∧ ∃ x ∈ t, x.1 = y.1
 | [], c, y, h => by simp [numb] at h
 | (p, s) :: t, c, y, h => by
  simp only [numb, List.mem_cons] at h
  rcases h with rfl | h
  ·exact ⟨rfl, rfl, (p, s), by simp, rfl⟩
  ·obtain ⟨h1, h2, x, h3, h4⟩ := numb_places v t (c + 1) y h
   exact ⟨h1, h2, x, List.mem_cons_of_mem _ h3, h4⟩
theorem liveB_app (q : Nat → Bool) (ins : Int) (dels : List Int) (n : Nat) : liveB q ins (dels ++ [(n : Int)]) = (liveB q ins dels && !q n) := by
 unfold liveB
 rw [List.all_append]
 simp [Bool.and_assoc]
theorem delsOf_old (D : Nat → Bool) (q : Nat → Bool) (n : Nat) (hq : q n = false) : ∀ (l : List S123) (i : Nat), ((delsOf D (n : Int) i l).filter (liveOf q)).map (·.f0) = (l.filter (liveOf q)).map (·.f0)
 | [], _ => rfl
 | b :: l, i => by
  have ih := delsOf_old D q n hq l (i + 1)
  simp only [delsOf]
  have e : liveOf q (if D i = true then ⟨b.f0, b.f1, b.f2, b.f3 ++ [(n : Int)]⟩ else b) = liveOf q b := by
   split
   ·unfold liveOf
    rw [liveB_app, hq]
    simp
   ·rfl
  have e2 : (if D i = true then (⟨b.f0, b.f1, b.f2, b.f3 ++ [(n : Int)]⟩ : S123) else b).f0 = b.f0 := by split <;> rfl
  rw [List.filter_cons, List.filter_cons, e]
  split
  ·simp only [List.map_cons]
   rw [ih, e2]
  ·exact ih
theorem live_new (q : Nat → Bool) (n : Nat) (b : S123) (h1 : b.f1 = (n : Int)) (h2 : b.f3 = []) : liveOf q b = q n := by
 unfold liveOf liveB
 rw [h1, h2]
 simp
theorem addT_old (D : Nat → Bool) (q : Nat → Bool) (n : Nat) (hq : q n = false) (bs : List S123) (t : List (Nat × ByteArray)) : ((mergeN 0 (delsOf D (n : Int) 0 bs) (numb (n : Int) 0 t)).filter (liveOf q)).map (·.f0) = (bs.filter (liveOf q)).map (·.f0) := by
 rw [mergeN_filter (liveOf q) _ (fun y hy => by obtain ⟨h1, h2, _⟩ := numb_places _ _ _ _ hy; rw [live_new q n y.2 h1 h2, hq]), delsOf_old D q n hq]
theorem up_ge {n : Nat} {L : List Int} : ∀ (st : List Int) (p : Nat), Up n L st p → ∀ z ∈ st, 0 ≤ z → (p : Int) ≤ rd L z
 | [], _, _, z, hz, _ => by simp at hz
 | y :: st, p, h, z, hz, h0 => by
  simp only [Up] at h
  rcases List.mem_cons.1 hz with rfl | hz
  ·rw [if_pos h0] at h
   exact h.2.1
  ·split at h
   ·have := up_ge st _ h.2.2.2 z hz h0
    omega
   ·exact up_ge st p h z hz h0
theorem reads_new (q : Nat → Bool) (n : Nat) (hq : q n = true) (L : List Int) (B : List S123) : ∀ (st : List Int) (ls : List ByteArray) (p c : Nat), st.length = ls.length → Up B.length L st p →
  (∀ (j : Nat) (h : j < st.length) (h' : j < ls.length), 0 ≤ st[j] → ∃ (m : Nat) (hm : m < B.length), rd L st[j] = (m : Int) ∧ B[m].f0 = ls[j]) →
  (∀ (m : Nat) (h : m < B.length), p ≤ m → (liveOf q B[m] = true ↔ ∃ z ∈ st, 0 ≤ z ∧ rd L z = (m : Int))) →
  ((mergeN p (B.drop p) (numb (n : Int) c (scanN L st ls p))).filter (liveOf q)).map (·.f0) = ls
 | [], ls, p, c, hl, hu, hj, hk => by
  obtain rfl : ls = [] := List.length_eq_zero_iff.1 (by simpa using hl.symm)
  simp only [scanN, numb]
  rw [mergeN_none, List.map_eq_nil_iff, List.filter_eq_nil_iff]
  intro b hb
  obtain ⟨m, hm, rfl⟩ := List.getElem_of_mem hb
  rw [List.length_drop] at hm
  rw [List.getElem_drop, hk (p + m) (by omega) (by omega)]
  simp
 | z :: st, [], p, c, hl, hu, hj, hk => by simp at hl
 | z :: st, s :: ls, p, c, hl, hu, hj, hk => by
  have hu0 := hu
  have hj' : ∀ (j : Nat) (h : j < st.length) (h' : j < ls.length), 0 ≤ st[j] → ∃ (m : Nat) (hm : m < B.length), rd L st[j] = (m : Int) ∧ B[m].f0 = ls[j] := fun j h h' h0 => by
   have := hj (j + 1) (by simpa using h) (by simpa using h') (by simpa using h0)
   simpa using this
  simp only [Up] at hu
  simp only [scanN]
  by_cases c0 : 0 ≤ z
  ·rw [if_pos c0] at hu ⊢
   obtain ⟨u1, u2, u3, u4⟩ := hu
   obtain ⟨m, hm, h1, h2⟩ := hj 0 (by simp) (by simp) (by simpa using c0)
   simp only [List.getElem_cons_zero] at h1 h2
   rw [h1, Int.toNat_natCast] at u4 ⊢
   rw [h1] at u2
   have ih := reads_new q n hq L B st ls (m + 1) c (by simpa using hl) u4 hj' (fun x hx hmx => by
    rw [hk x hx (by omega)]
    constructor
    ·rintro ⟨y, hy, y0, y1⟩
     rcases List.mem_cons.1 hy with rfl | hy
     ·exact absurd (h1.symm.trans y1) (by omega)
     ·exact ⟨y, hy, y0, y1⟩
    ·rintro ⟨y, hy, h⟩
     exact ⟨y, List.mem_cons_of_mem _ hy, h⟩)
   have hpl : ∀ y ∈ numb (n : Int) c (scanN L st ls (m + 1)), m < y.1 := fun y hy => by
    obtain ⟨_, _, x, hx, hxy⟩ := numb_places _ _ _ _ hy
    have := (scanN_ge st ls (m + 1) u4 x hx).1
    omega
   have skip : ∀ (d x : Nat), x + d = m → p ≤ x → (mergeN x (B.drop x) (numb (n : Int) c (scanN L st ls (m + 1)))).filter (liveOf q) = (mergeN m (B.drop m) (numb (n : Int) c (scanN L st ls (m + 1)))).filter (liveOf q) := by
    intro d
    induction d with
    | zero =>
     intro x hx _
     obtain rfl : x = m := by omega
     rfl
    | succ d ihd =>
     intro x hx hpx
     rw [mergeN_next _ B x (by omega) (fun y hy => by have := hpl y hy; omega), List.filter_cons_of_neg, ihd (x + 1) (by omega) (by omega)]
     rw [hk x (by omega) hpx]
     rintro ⟨y, hy, y0, y1⟩
     rcases List.mem_cons.1 hy with rfl | hy
     ·exact absurd (h1.symm.trans y1) (by omega)
     ·have := up_ge st _ u4 y hy y0
      omega
   rw [skip (m - p) p (by omega) (by omega), mergeN_next _ B m hm hpl, List.filter_cons_of_pos ((hk m hm (by omega)).2 ⟨z, by simp, c0, h1⟩)]
   simp only [List.map_cons]
   rw [ih, h2]
  ·rw [if_neg c0] at hu ⊢
   simp only [numb]
   rw [mergeN_here, List.filter_cons_of_pos (by rw [live_new q n _ rfl rfl]; exact hq)]
   simp only [List.map_cons]
   rw [reads_new q n hq L B st ls p (c + 1) (by simpa using hl) hu hj' (fun x hx hpx => by
    rw [hk x hx hpx]
    constructor
    ·rintro ⟨y, hy, y0, y1⟩
     rcases List.mem_cons.1 hy with rfl | hy
     ·exact absurd y0 c0
     ·exact ⟨y, hy, y0, y1⟩
    ·rintro ⟨y, hy, h⟩
     exact ⟨y, List.mem_cons_of_mem _ hy, h⟩)]
theorem row_old (ps : List (List Int)) (r : List Int) (v : Nat) (h : v < ps.length) : row (ps ++ [r]) v = row ps v := by
 unfold row
 rw [List.getD_eq_getElem?_getD, List.getElem?_append_left h, ← List.getD_eq_getElem?_getD]
theorem row_new (ps : List (List Int)) (r : List Int) : row (ps ++ [r]) ps.length = r := by
 unfold row
 rw [List.getD_eq_getElem?_getD, List.getElem?_append_right (Nat.le_refl _), Nat.sub_self]
 rfl
theorem anc_old {ps : List (List Int)} (hd : Down ps) (r : List Int) {v u : Nat} (hv : v < ps.length) : Anc (ps ++ [r]) v u ↔ Anc ps v u := by
 constructor
 ·intro h
  induction h with
  | refl => exact .refl _
  | step hp _ ih =>
   rw [row_old ps r _ hv] at hp
   have := hd _ hv _ hp
   exact .step hp (ih (by omega))
 ·intro h
  induction h with
  | refl => exact .refl _
  | step hp _ ih =>
   have := hd _ hv _ hp
   exact .step (by rw [row_old ps r _ hv]; exact hp) (ih (by omega))
theorem pS_old {ps : List (List Int)} (hd : Down ps) (r S : List Int) (hS : ∀ s ∈ S, s < (ps.length : Int)) : pS (ps ++ [r]) S = pS ps S := by
 refine bool_ext fun u => ?_
 rw [pS_iff, pS_iff]
 constructor
 ·rintro ⟨s, h1, h2, h3⟩
  have := hS _ h1
  exact ⟨s, h1, by omega, (anc_old hd r (by omega)).1 h3⟩
 ·rintro ⟨s, h1, h2, h3⟩
  exact ⟨s, h1, by rw [List.length_append]; omega, (anc_old hd r h2).2 h3⟩
theorem pS_out {ps : List (List Int)} (hd : Down ps) (S : List Int) (u : Nat) (hu : ps.length ≤ u) : pS ps S u = false := by
 rw [Bool.eq_false_iff]
 intro h
 obtain ⟨s, h1, h2, h3⟩ := (pS_iff _ _ _).1 h
 have := h3.le hd h2
 omega
theorem pS_new {ps : List (List Int)} (hd : Down ps) (r : List Int) (hr : ∀ s ∈ r, 0 ≤ s ∧ s < (ps.length : Int)) (u : Nat) : pS (ps ++ [r]) [(ps.length : Int)] u = true ↔ u = ps.length ∨ pS ps r u = true := by
 rw [pS_iff, pS_iff]
 constructor
 ·rintro ⟨s, h1, h2, h3⟩
  obtain rfl : s = ps.length := by rw [List.mem_singleton] at h1; omega
  cases h3 with
  | refl => exact .inl rfl
  | step hp h =>
   rw [row_new] at hp
   have := hr _ hp
   exact .inr ⟨_, hp, by omega, (anc_old hd r (by omega)).1 h⟩
 ·rintro (rfl | ⟨s, h1, h2, h3⟩)
  ·exact ⟨ps.length, by simp, by simp, .refl _⟩
  ·exact ⟨ps.length, by simp, by simp, .step (p := s) (by rw [row_new]; exact h1) ((anc_old hd r h2).2 h3)⟩
theorem gAll_snoc (r : List Int) : ∀ (ps : List (List Int)) (v : Nat), gAll v ps = true → r.length ≤ 4 → asc ((v + ps.length : Nat) : Int) none r = true → gAll v (ps ++ [r]) = true
 | [], v, _, h4, ha => by
  simp only [List.nil_append, gAll, Bool.and_true, Bool.and_eq_true, decide_eq_true_eq]
  exact ⟨h4, ha⟩
 | x :: ps, v, h, h4, ha => by
  simp only [gAll, Bool.and_eq_true] at h
  simp only [List.cons_append, gAll, Bool.and_eq_true]
  exact ⟨h.1, gAll_snoc r ps (v + 1) h.2 h4 (by rw [show v + 1 + ps.length = v + (x :: ps).length by simp; omega]; exact ha)⟩
theorem graphOk_snoc {ps : List (List Int)} (r : List Int) (h : graphOk ps = true) (h40 : ps.length < 40) (h4 : r.length ≤ 4) (ha : asc (ps.length : Int) none r = true) : graphOk (ps ++ [r]) = true := by
 simp only [graphOk, Bool.and_eq_true, decide_eq_true_eq] at h ⊢
 exact ⟨by simp; omega, gAll_snoc r ps 0 h.2 h4 (by rw [Nat.zero_add]; exact ha)⟩
theorem asc_mono : ∀ (l : List Int) (n m : Int) (o : Option Int), n ≤ m → asc n o l = true → asc m o l = true
 | [], _, _, none, _, _ => by simp [asc]
 | [], _, _, some _, _, _ => by simp [asc]
 | x :: l, n, m, none, hnm, h => by
  simp only [asc, Bool.and_eq_true, decide_eq_true_eq] at h ⊢
  exact ⟨by omega, asc_mono l n m _ hnm h.2⟩
 | x :: l, n, m, some p, hnm, h => by
  simp only [asc, Bool.and_eq_true, decide_eq_true_eq] at h ⊢
  exact ⟨⟨by omega, h.1.2⟩, asc_mono l n m _ hnm h.2⟩
theorem asc_snoc (n : Int) (h0 : 0 ≤ n) : ∀ (l : List Int) (o : Option Int), (∀ p, o = some p → p < n) → asc n o l = true → asc (n + 1) o (l ++ [n]) = true
 | [], none, _, _ => by simp [asc]; omega
 | [], some p, hp, _ => by have := hp p rfl; simp [asc]; omega
 | x :: l, none, _, h => by
  simp only [asc, Bool.and_eq_true, decide_eq_true_eq] at h
  simp only [List.cons_append, asc, Bool.and_eq_true, decide_eq_true_eq]
  exact ⟨by omega, asc_snoc n h0 l _ (fun p hp => by cases hp; omega) h.2⟩
 | x :: l, some p, _, h => by
  simp only [asc, Bool.and_eq_true, decide_eq_true_eq] at h
  simp only [List.cons_append, asc, Bool.and_eq_true, decide_eq_true_eq]
  exact ⟨⟨by omega, h.1.2⟩, asc_snoc n h0 l _ (fun p hp => by cases hp; omega) h.2⟩
theorem endOk_iff (ps : List (List Int)) (bs : List S123) (born : List Int) : ∀ (n v : Nat), endOk ps bs born n v = true ↔ ∀ u : Nat, v ≤ u → u < v + n → rd born (u : Int) ≤ 80 ∧ (placesL (pS ps [(u : Int)]) bs 0).length ≤ 80
 | 0, v => by simp only [endOk, true_iff]; intro u h1 h2; omega
 | n + 1, v => by
  simp only [endOk, Bool.and_eq_true, decide_eq_true_eq]
  rw [endOk_iff ps bs born n (v + 1)]
  constructor
  ·rintro ⟨h1, h2⟩ u hu hu'
   by_cases e : u = v
   ·subst e; exact h1
   ·exact h2 u (by omega) (by omega)
  ·intro h
   exact ⟨h v (Nat.le_refl _) (by omega), fun u h1 h2 => h u (by omega) (by omega)⟩
theorem rd_left (a b : List Int) (u : Nat) (h : u < a.length) : rd (a ++ b) (u : Int) = rd a (u : Int) := by
 simp [rd, List.getD, List.getElem?_append_left h]
theorem rd_last (a : List Int) (x : Int) : rd (a ++ [x]) (a.length : Int) = x := by
 simp [rd, List.getD]
section
variable {ps : List (List Int)} (bs T : List S123) (parents : List Int) (D : Nat → Bool) (hd : Down ps) (hpar : ∀ s ∈ parents, 0 ≤ s ∧ s < (ps.length : Int)) (hD : ∀ (m : Nat) (h : m < bs.length), D m = true → liveB (pS ps parents) bs[m].f1 bs[m].f3 = true)
include hd hpar hD
theorem body_old (born : List Int) (hb : born.length = ps.length) (c : Int) (i : Nat) (h : i < bs.length) (ho : bodyOk ps born bs[i] = true) : bodyOk (ps ++ [parents]) (born ++ [c]) (if D i = true then ⟨bs[i].f0, bs[i].f1, bs[i].f2, bs[i].f3 ++ [(ps.length : Int)]⟩ else bs[i]) = true := by
 have hDi := hD i h
 generalize bs[i] = b at ho hDi ⊢
 simp only [bodyOk, Bool.and_eq_true, decide_eq_true_eq, List.all_eq_true] at ho
 obtain ⟨⟨⟨⟨h1, h2⟩, h3⟩, h4⟩, h5⟩ := ho
 obtain ⟨u, hu⟩ := Int.eq_ofNat_of_zero_le h2.1
 have hl : (((ps ++ [parents]).length : Nat) : Int) = (ps.length : Int) + 1 := by simp
 have hrd : rd (born ++ [c]) b.f1 = rd born b.f1 := by rw [hu, rd_left _ _ _ (by omega)]
 have hold : ∀ d ∈ b.f3, pS (ps ++ [parents]) (row (ps ++ [parents]) d.toNat) = pS ps (row ps d.toNat) := fun d hd' => by
  have hb' := asc_bound _ _ _ h4 d hd'
  rw [row_old _ _ _ (by omega), pS_old hd]
  intro s hs
  have := hd d.toNat (by omega) s hs
  omega
 by_cases e : D i = true
 ·rw [if_pos e]
  simp only [bodyOk, Bool.and_eq_true, decide_eq_true_eq, List.all_eq_true]
  rw [hrd, hl]
  refine ⟨⟨⟨⟨h1, by omega⟩, h3⟩, asc_snoc _ (by omega) _ _ (fun p hp => by cases hp) h4⟩, fun d hd' => ?_⟩
  rw [liveB_app]
  rcases List.mem_append.1 hd' with hd' | hd'
  ·rw [hold d hd', h5 d hd', pS_out hd _ _ (Nat.le_refl _)]
   rfl
  ·rw [List.mem_singleton.1 hd', Int.toNat_natCast, row_new, pS_old hd _ _ (fun s hs => (hpar s hs).2), hDi e, pS_out hd _ _ (Nat.le_refl _)]
   rfl
 ·rw [if_neg e]
  simp only [bodyOk, Bool.and_eq_true, decide_eq_true_eq, List.all_eq_true]
  rw [hrd, hl]
  refine ⟨⟨⟨⟨h1, by omega⟩, h3⟩, asc_mono _ _ _ _ (by omega) h4⟩, fun d hd' => ?_⟩
  rw [hold d hd', h5 d hd']
theorem go_new : ∀ (k i : Nat) (ns : List (Nat × ByteArray)) (c : Nat) (born : List Int), (bs.length - i) + ns.length = k → i ≤ bs.length → UpN ns → (∀ y ∈ ns, i ≤ y.1 ∧ y.1 ≤ bs.length) → (∀ y ∈ ns, lineOk y.2 = true) → born.length = ps.length → bodiesGo ps bs (bs.drop i) born = true →
  (∀ B : List Int, B.length = ps.length → endOk ps bs B ps.length 0 = true → endOk (ps ++ [parents]) T (B ++ [((c + ns.length : Nat) : Int)]) (ps ++ [parents]).length 0 = true) →
  bodiesGo (ps ++ [parents]) T (mergeN i ((delsOf D (ps.length : Int) 0 bs).drop i) (numb (ps.length : Int) c ns)) (born ++ [(c : Int)]) = true := by
 intro k
 induction k with
 | zero =>
  intro i ns c born hk hi hu hp hl hb hgo hend
  obtain rfl : ns = [] := List.length_eq_zero_iff.1 (by omega)
  rw [List.drop_eq_nil_of_le (by omega)] at hgo
  rw [List.drop_eq_nil_of_le (by rw [delsOf_length]; omega)]
  exact hend born hb hgo
 | succ k ih =>
  intro i ns c born hk hi hu hp hl hb hgo hend
  -- a body that was there
  have old : (∀ y ∈ ns, i < y.1) → i < bs.length → bodiesGo (ps ++ [parents]) T (mergeN i ((delsOf D (ps.length : Int) 0 bs).drop i) (numb (ps.length : Int) c ns)) (born ++ [(c : Int)]) = true := by
   intro hgt hil
   have hdl : i < (delsOf D (ps.length : Int) 0 bs).length := by rw [delsOf_length]; exact hil
   have hget : (delsOf D (ps.length : Int) 0 bs)[i] = if D i = true then ⟨bs[i].f0, bs[i].f1, bs[i].f2, bs[i].f3 ++ [(ps.length : Int)]⟩ else bs[i] := by
    have := delsOf_get D (ps.length : Int) bs 0 i hil
    rw [Nat.zero_add, List.getElem?_eq_getElem hdl] at this
    exact Option.some.inj this
   rw [List.drop_eq_getElem_cons hil, bodiesGo, Bool.and_eq_true] at hgo
   have ho := body_old bs parents D hd hpar hD born hb (c : Int) i hil hgo.1
   have hf1 : (if D i = true then (⟨bs[i].f0, bs[i].f1, bs[i].f2, bs[i].f3 ++ [(ps.length : Int)]⟩ : S123) else bs[i]).f1 = bs[i].f1 := by split <;> rfl
   have h2 : 0 ≤ bs[i].f1 ∧ bs[i].f1 ≤ (ps.length : Int) - 1 := by
    have := hgo.1
    simp only [bodyOk, Bool.and_eq_true, decide_eq_true_eq] at this
    exact this.1.1.1.2
   obtain ⟨u, hu'⟩ := Int.eq_ofNat_of_zero_le h2.1
   have hbn : bornOf (born ++ [(c : Int)]) (if D i = true then ⟨bs[i].f0, bs[i].f1, bs[i].f2, bs[i].f3 ++ [(ps.length : Int)]⟩ else bs[i]) = bornOf born bs[i] ++ [(c : Int)] := by
    unfold bornOf
    rw [hf1, hu', rd_left _ _ _ (by omega), Int.toNat_natCast, List.set_append_left _ _ (by omega)]
   rw [mergeN_next _ _ i hdl (fun y hy => by
    obtain ⟨_, _, x, hx, hxy⟩ := numb_places _ _ _ _ hy
    have := hgt x hx
    omega), hget, bodiesGo, ho, Bool.true_and, hbn]
   exact ih (i + 1) ns c _ (by omega) (by omega) hu (fun y hy => ⟨by have := hgt y hy; omega, (hp y hy).2⟩) hl (by unfold bornOf; rw [List.length_set]; exact hb) hgo.2 hend
  cases ns with
  | nil =>
   simp only [List.length_nil, Nat.add_zero] at hk
   exact old (by simp) (by omega)
  | cons y ns =>
   obtain ⟨p, s⟩ := y
   obtain ⟨u1, u2⟩ := List.pairwise_cons.1 hu
   have hp0 := hp (p, s) (by simp)
   by_cases e : p = i
   ·subst e
    simp only [numb]
    have hl' : (((ps ++ [parents]).length : Nat) : Int) = (ps.length : Int) + 1 := by simp
    have hbo : bodyOk (ps ++ [parents]) (born ++ [(c : Int)]) ⟨s, (ps.length : Int), (c : Int), []⟩ = true := by
     have hlo := hl (p, s) (by simp)
     simp only [bodyOk, Bool.and_eq_true, decide_eq_true_eq, List.all_eq_true]
     rw [hl', ← hb, rd_last]
     exact ⟨⟨⟨⟨hlo, by omega⟩, rfl⟩, by simp [asc]⟩, by simp⟩
    have hbn : bornOf (born ++ [(c : Int)]) ⟨s, (ps.length : Int), (c : Int), []⟩ = born ++ [((c + 1 : Nat) : Int)] := by
     unfold bornOf
     simp only
     rw [← hb, rd_last, Int.toNat_natCast, List.set_append_right _ _ (Nat.le_refl _), Nat.sub_self]
     simp
    rw [mergeN_here, bodiesGo, hbo, Bool.true_and, hbn]
    exact ih p ns (c + 1) born (by simp only [List.length_cons] at hk; omega) hi u2 (fun y hy => hp y (List.mem_cons_of_mem _ hy)) (fun y hy => hl y (List.mem_cons_of_mem _ hy)) hb hgo (fun B h1 h2 => by
     have := hend B h1 h2
     rw [List.length_cons, show c + (ns.length + 1) = c + 1 + ns.length by omega] at this
     exact this)
   ·exact old (fun y hy => by
     rcases List.mem_cons.1 hy with rfl | hy
     ·show i < p
      omega
     ·have := u1 y hy
      simp only at this
      omega) (by omega)
end
section
variable (ps : List (List Int)) (bs : List S123) (parents : List Int) (lines : List ByteArray) (hf : Fine ps bs) (hw : weaveOk ps bs = true) (hp4 : (parents.length : Int) ≤ 4) (hasc : asc (ps.length : Int) none parents = true) (hlo : linesOk 80 lines = true)
include hf hw hp4 hasc hlo
theorem add_old (u : Nat) (hu : u < ps.length) : ((addT ps bs parents lines).filter (liveOf (pS (ps ++ [parents]) [(u : Int)]))).map (·.f0) = (bs.filter (liveOf (pS ps [(u : Int)]))).map (·.f0) := by
 have _ := hf
 have _ := hp4
 have _ := hasc
 have _ := hlo
 have hd := graphOk_down (weaveOk_graph hw).1
 rw [pS_old hd parents [(u : Int)] (fun s hs => by rw [List.mem_singleton.1 hs]; omega)]
 exact addT_old _ _ ps.length (pS_out hd _ _ (Nat.le_refl _)) bs _
theorem add_new : ((addT ps bs parents lines).filter (liveOf (pS (ps ++ [parents]) [(ps.length : Int)]))).map (·.f0) = lines := by
 have hd := graphOk_down (weaveOk_graph hw).1
 have hpar := asc_bound _ _ _ hasc
 have hpS := pS_new hd parents (fun s hs => by have := hpar s hs; omega)
 obtain ⟨L, st, rfl, rfl, hstl, hl80, hL, hb3, hn40, hrise, hin, hup, ho1, ho2⟩ := add_facts ps bs parents lines hf hw hp4 hasc hlo
 have hdel : ∀ (m : Nat) (h : m < bs.length), liveB (pS (ps ++ [parents]) [(ps.length : Int)]) bs[m].f1 bs[m].f3 = liveB (pS ps parents) bs[m].f1 bs[m].f3 := fun m h => by
  have h1 := (weaveOk_range hw _ (List.getElem_mem h)).1
  refine liveB_congr (n := ps.length) (fun u hu => ?_) h1 (fun d hd' => asc_bound _ _ _ (weaveOk_lines hw _ (List.getElem_mem h)).2 d hd')
  rw [Bool.eq_iff_iff, hpS]
  exact ⟨fun h => h.resolve_left (by omega), .inr⟩
 have hqn : pS (ps ++ [parents]) [(ps.length : Int)] ps.length = true := (hpS _).2 (.inl rfl)
 have hlen : (delsOf (gone (placesL (pS ps parents) bs 0) (pairs 0 (linesL bs (placesL (pS ps parents) bs 0)) lines) (placesL (pS ps parents) bs 0).length) (ps.length : Int) 0 bs).length = bs.length := delsOf_length _ _ _ _
 have := reads_new (pS (ps ++ [parents]) [(ps.length : Int)]) ps.length hqn (placesL (pS ps parents) bs 0) (delsOf (gone (placesL (pS ps parents) bs 0) (pairs 0 (linesL bs (placesL (pS ps parents) bs 0)) lines) (placesL (pS ps parents) bs 0).length) (ps.length : Int) 0 bs)
  (pairs 0 (linesL bs (placesL (pS ps parents) bs 0)) lines) lines 0 0 hstl (by rw [hlen]; exact hup) ?_ ?_
 ·rw [List.drop_zero] at this
  exact this
 ·intro j h h' h0
  obtain ⟨hb, x, hx, e1, e2⟩ := pairs_right 0 _ _ j h (by omega)
  have hx' : x < (placesL (pS ps parents) bs 0).length := by unfold linesL at hx; rwa [List.length_map] at hx
  obtain ⟨m, hm, hm'⟩ := hin x hx'
  refine ⟨m, by omega, by rw [e1, Nat.zero_add, hm], ?_⟩
  have hget := delsOf_get (gone (placesL (pS ps parents) bs 0) (pairs 0 (linesL bs (placesL (pS ps parents) bs 0)) lines) (placesL (pS ps parents) bs 0).length) (ps.length : Int) bs 0 m hm'
  rw [List.getElem?_eq_getElem (by omega)] at hget
  rw [Option.some.inj hget, ← e2]
  have e3 : (linesL bs (placesL (pS ps parents) bs 0))[x]? = some bs[m].f0 := by
   have : (placesL (pS ps parents) bs 0)[x] = (m : Int) := by rw [← hm]; simp [rd, List.getD, List.getElem?_eq_getElem hx']
   unfold linesL
   rw [List.getElem?_map, List.getElem?_eq_getElem hx', this, Option.map_some, rdW_nat bs m hm']
  rw [List.getElem?_eq_getElem hx] at e3
  rw [Option.some.inj e3]
  split <;> rfl
 ·intro m h _
  have hm' : m < bs.length := by omega
  have hget := delsOf_get (gone (placesL (pS ps parents) bs 0) (pairs 0 (linesL bs (placesL (pS ps parents) bs 0)) lines) (placesL (pS ps parents) bs 0).length) (ps.length : Int) bs 0 m hm'
  rw [List.getElem?_eq_getElem h, Nat.zero_add] at hget
  rw [Option.some.inj hget]
  have hLm := placesL_iff (pS ps parents) bs 0 m
  rw [Nat.zero_add] at hLm
  have hfind : (∃ hh : m < bs.length, liveB (pS ps parents) bs[m].f1 bs[m].f3 = true) ↔ ∃ t : Nat, t < (placesL (pS ps parents) bs 0).length ∧ rd (placesL (pS ps parents) bs 0) (t : Int) = (m : Int) := by
   rw [← hLm]
   constructor
   ·intro hmem
    obtain ⟨t, ht, e⟩ := List.getElem_of_mem hmem
    exact ⟨t, ht, by rw [← e]; simp [rd, List.getD, List.getElem?_eq_getElem ht]⟩
   ·rintro ⟨t, ht, e⟩
    rw [← e]
    have : rd (placesL (pS ps parents) bs 0) (t : Int) = (placesL (pS ps parents) bs 0)[t] := by simp [rd, List.getD, List.getElem?_eq_getElem ht]
    rw [this]
    exact List.getElem_mem ht
  have hz : ∀ z ∈ pairs 0 (linesL bs (placesL (pS ps parents) bs 0)) lines, 0 ≤ z → z < ((placesL (pS ps parents) bs 0).length : Int) := up_mem _ _ hup
  by_cases e : gone (placesL (pS ps parents) bs 0) (pairs 0 (linesL bs (placesL (pS ps parents) bs 0)) lines) (placesL (pS ps parents) bs 0).length m = true
  ·rw [if_pos e]
   unfold liveOf
   rw [liveB_app, hqn]
   simp only [Bool.not_true, Bool.and_false, Bool.false_eq_true, false_iff]
   rintro ⟨z, hz1, hz0, hz2⟩
   obtain ⟨t, ht, t1, t2⟩ := (gone_iff _ _ _ _).1 e
   have hzl := hz z hz1 hz0
   have : t = z.toNat := rise_inj hrise ht (by omega) (by rw [t1, Int.toNat_of_nonneg hz0, hz2])
   apply t2
   rw [this, Int.toNat_of_nonneg hz0]
   exact hz1
  ·rw [if_neg e]
   unfold liveOf
   rw [hdel m hm']
   constructor
   ·intro hlive
    obtain ⟨t, ht, te⟩ := hfind.1 ⟨hm', hlive⟩
    by_cases hmem : (t : Int) ∈ pairs 0 (linesL bs (placesL (pS ps parents) bs 0)) lines
    ·exact ⟨_, hmem, by omega, te⟩
    ·exact absurd ((gone_iff _ _ _ _).2 ⟨t, ht, te, hmem⟩) e
   ·rintro ⟨z, hz1, hz0, hz2⟩
    have hzl := hz z hz1 hz0
    obtain ⟨_, h⟩ := hfind.2 ⟨z.toNat, by omega, by rw [Int.toNat_of_nonneg hz0]; exact hz2⟩
    exact h
theorem add_ok (h40 : ps.length ≠ 40) (h300 : (addT ps bs parents lines).length ≤ 300) : weaveOk (ps ++ [parents]) (addT ps bs parents lines) = true := by
 have hold := add_old ps bs parents lines hf hw hp4 hasc hlo
 have hnew := add_new ps bs parents lines hf hw hp4 hasc hlo
 have hd := graphOk_down (weaveOk_graph hw).1
 have hpar := asc_bound _ _ _ hasc
 obtain ⟨L, st, hL, hst, hstl, hl80, hLl, hb3, hn40, hrise, hin, hup, ho1, ho2⟩ := add_facts ps bs parents lines hf hw hp4 hasc hlo
 have hw' := hw
 unfold weaveOk at hw'
 rw [Bool.and_eq_true, Bool.and_eq_true, decide_eq_true_eq] at hw'
 unfold weaveOk
 rw [Bool.and_eq_true, Bool.and_eq_true, decide_eq_true_eq]
 refine ⟨⟨graphOk_snoc _ hw'.1.1 (by omega) (by omega) hasc, h300⟩, ?_⟩
 have hT : addT ps bs parents lines = mergeN 0 ((delsOf (gone L st L.length) (ps.length : Int) 0 bs).drop 0) (numb (ps.length : Int) 0 (scanN L st lines 0)) := by
  subst hst
  subst hL
  rw [List.drop_zero]
  rfl
 have hrep : List.replicate (ps ++ [parents]).length (0 : Int) = List.replicate ps.length 0 ++ [((0 : Nat) : Int)] := by
  rw [List.length_append, List.length_singleton, List.replicate_succ']
  rfl
 rw [hrep]
 have hsl := scanN_length L st lines 0
 have key := go_new bs (addT ps bs parents lines) parents (gone L st L.length) hd (fun s hs => by have := hpar s hs; omega) (fun m hm hg => by
   obtain ⟨t, ht, t1, _⟩ := (gone_iff _ _ _ _).1 hg
   have hLm := placesL_iff (pS ps parents) bs 0 m
   rw [Nat.zero_add, ← hL] at hLm
   obtain ⟨_, h⟩ := hLm.1 (by rw [← t1, show rd L (t : Int) = L[t] from by simp [rd, List.getD, List.getElem?_eq_getElem ht]]; exact List.getElem_mem ht)
   exact h)
  _ 0 (scanN L st lines 0) 0 (List.replicate ps.length 0) rfl (by omega) (scanN_up st lines 0 hup) (fun y hy => scanN_ge st lines 0 hup y hy) (fun y hy => by
   rw [linesOk, Bool.and_eq_true, decide_eq_true_eq] at hlo
   exact List.all_eq_true.1 hlo.2 _ (scanN_mem _ _ _ _ _ hy)) (by simp) (by rw [List.drop_zero]; exact hw'.2) (fun B hB he => ?_)
 ·rw [← hT] at key
  exact key
 ·rw [endOk_iff] at he ⊢
  intro u _ hu
  rw [Nat.zero_add, List.length_append, List.length_singleton] at hu
  by_cases e : u = ps.length
  ·subst e
   rw [places_count, hnew]
   refine ⟨?_, by omega⟩
   rw [← hB, rd_last]
   omega
  ·have := he u (by omega) (by omega)
   rw [places_count, hold u (by omega), ← places_count, rd_left _ _ _ (by omega)]
   exact this
end
theorem count_split (i n : Nat) {α : Type} : ∀ ns : List (Nat × α), (ns.filter fun y => decide (y.1 = i)).length + (ns.filter fun y => decide (i + 1 ≤ y.1 ∧ y.1 ≤ n)).length = (ns.filter fun y => decide (i ≤ y.1 ∧ y.1 ≤ n)).length + (ns.filter fun y => decide (y.1 = i ∧ n < i)).length
 | [] => rfl
 | y :: ns => by
  have ih := count_split i n ns
  simp only [List.filter_cons]
  by_cases c1 : y.1 = i
  ·by_cases c2 : n < i
   ·rw [if_pos (by simpa using c1), if_neg (by simp; omega), if_neg (by simp; omega), if_pos (by simp; omega)]
    simp only [List.length_cons]
    omega
   ·rw [if_pos (by simpa using c1), if_neg (by simp; omega), if_pos (by simp; omega), if_neg (by simp; omega)]
    simp only [List.length_cons]
    omega
  ·rw [if_neg (by simpa using c1)]
   by_cases c3 : i ≤ y.1 ∧ y.1 ≤ n
   ·rw [if_pos (by simp; omega), if_pos (by simpa using c3), if_neg (by simp; omega)]
    simp only [List.length_cons]
    omega
   ·rw [if_neg (by simp; omega), if_neg (by simpa using c3), if_neg (by simp; omega)]
    exact ih
theorem mergeN_count {α : Type} (ns : List (Nat × α)) : ∀ (bs : List α) (i : Nat), (mergeN i bs ns).length = bs.length + (ns.filter fun y => decide (i ≤ y.1 ∧ y.1 ≤ i + bs.length)).length
 | [], i => by
  simp only [mergeN, atP, List.length_map, List.length_nil, Nat.zero_add, Nat.add_zero]
  congr 1
  apply List.filter_congr
  intro y _
  simp only [decide_eq_decide]
  omega
 | b :: bs, i => by
  have ih := mergeN_count ns bs (i + 1)
  have h := count_split i (i + (bs.length + 1)) ns
  have h0 : (ns.filter fun y => decide (y.1 = i ∧ i + (bs.length + 1) < i)).length = 0 := by
   rw [List.length_eq_zero_iff, List.filter_eq_nil_iff]
   intro y _
   simp
  simp only [mergeN, List.length_append, List.length_cons, ih]
  rw [show i + 1 + bs.length = i + (bs.length + 1) by omega]
  unfold atP
  rw [List.length_map]
  omega
theorem scanN_count (L : List Int) : ∀ (st : List Int) (ls : List ByteArray) (p : Nat), st.length = ls.length → (∀ z ∈ st, z = -1 ∨ 0 ≤ z) → (scanN L st ls p).length + (st.filter fun x => decide (x ≠ -1)).length = ls.length
 | [], ls, p, h, _ => by
  obtain rfl : ls = [] := List.length_eq_zero_iff.1 (by simpa using h.symm)
  rfl
 | z :: st, [], p, h, _ => by simp at h
 | z :: st, s :: ls, p, h, hz => by
  have h' : st.length = ls.length := by simpa using h
  have hz' := fun y hy => hz y (List.mem_cons_of_mem _ hy)
  simp only [scanN, List.filter_cons]
  rcases hz z (by simp) with rfl | h0
  ·rw [if_neg (by omega), if_neg (by simp)]
   have := scanN_count L st ls p h' hz'
   simp only [List.length_cons]
   omega
  ·rw [if_pos h0, if_pos (by simp; omega)]
   have := scanN_count L st ls ((rd L z).toNat + 1) h' hz'
   simp only [List.length_cons]
   omega
section
variable (ps : List (List Int)) (bs : List S123) (parents : List Int) (lines : List ByteArray) (hf : Fine ps bs) (hw : weaveOk ps bs = true) (hp4 : (parents.length : Int) ≤ 4) (hasc : asc (ps.length : Int) none parents = true) (hlo : linesOk 80 lines = true)
include hf hw hp4 hasc hlo
theorem add_count : (addT ps bs parents lines).length + lcs (linesL bs (placesL (pS ps parents) bs 0)) lines = bs.length + lines.length := by
 obtain ⟨L, st, rfl, rfl, hstl, hl80, hL, hb3, hn40, hrise, hin, hup, ho1, ho2⟩ := add_facts ps bs parents lines hf hw hp4 hasc hlo
 unfold addT
 rw [mergeN_count, delsOf_length, ← pairs_count 0]
 have hsc := scanN_count (placesL (pS ps parents) bs 0) _ lines 0 hstl (fun z hz => by have := pairs_ge 0 _ _ z hz; omega)
 have hall : (numb (ps.length : Int) 0 (scanN (placesL (pS ps parents) bs 0) (pairs 0 (linesL bs (placesL (pS ps parents) bs 0)) lines) lines 0)).filter (fun y => decide (0 ≤ y.1 ∧ y.1 ≤ 0 + bs.length)) = numb (ps.length : Int) 0 (scanN (placesL (pS ps parents) bs 0) (pairs 0 (linesL bs (placesL (pS ps parents) bs 0)) lines) lines 0) := by
  rw [List.filter_eq_self]
  intro y hy
  obtain ⟨_, _, x, hx, hxy⟩ := numb_places _ _ _ _ hy
  have := scanN_ge _ _ 0 hup x hx
  simp
  omega
 rw [hall, numb_length]
 omega
end
def lowO : Option Int → Int
 | none => 0
 | some p => p + 1
theorem asc_len (n : Int) : ∀ (l : List Int) (o : Option Int), asc n o l = true → (l.length : Int) ≤ n - lowO o ∨ l = []
 | [], _, _ => .inr rfl
 | x :: l, o, h => by
  left
  have hx : 0 ≤ x ∧ x ≤ n - 1 ∧ lowO o ≤ x ∧ asc n (some x) l = true := by
   cases o with
   | none =>
    simp only [asc, Bool.and_eq_true, decide_eq_true_eq] at h
    exact ⟨h.1.1, h.1.2, h.1.1, h.2⟩
   | some p =>
    simp only [asc, Bool.and_eq_true, decide_eq_true_eq] at h
    exact ⟨h.1.1.1, h.1.1.2, by have := h.1.2; show p + 1 ≤ x; omega, h.2⟩
  have ih := asc_len n l (some x) hx.2.2.2
  simp only [lowO] at ih
  simp only [List.length_cons]
  rcases ih with ih | rfl
  ·omega
  ·simp; omega
noncomputable def textAt (ps : List (List Int)) (bs : List S123) (v : Nat) : List ByteArray := (bs.filter (liveOf (pS ps [(v : Int)]))).map (·.f0)
theorem textAt_eq (ps : List (List Int)) (bs : List S123) (v : Nat) : linesL bs (placesL (pS ps [(v : Int)]) bs 0) = textAt ps bs v := linesL_all _ _
theorem weaveOk_fine {ps : List (List Int)} {bs : List S123} (h : weaveOk ps bs = true) : Fine ps bs := by
 obtain ⟨hg, h3⟩ := weaveOk_graph h
 have hn := graphOk_len hg
 refine ⟨by omega, fun r hr => by have := rows4 hg r hr; omega, by omega, fun b hb => ?_⟩
 obtain ⟨h1, h2⟩ := weaveOk_lines h b hb
 have hs := lineOk_size h1
 have hd : b.f3.length ≤ 40 := by
  rcases asc_len _ _ none h2 with h | h
  ·simp only [lowO] at h; omega
  ·rw [h]; simp
 exact ⟨by omega, by omega⟩
theorem weaveOk_none : weaveOk [] [] = true := by simp [weaveOk, graphOk, gAll, bodiesGo, endOk]
def May (ps : List (List Int)) (bs : List S123) (p : List Int) (t : List ByteArray) : Prop := (p.length : Int) ≤ 4 ∧ asc (ps.length : Int) none p = true ∧ linesOk 80 t = true ∧ ps.length ≠ 40 ∧ (addT ps bs p t).length ≤ 300
inductive Steps : List (List Int × List ByteArray) → List (List Int) → List S123 → List (List Int) → List S123 → Prop
 | nil (ps : List (List Int)) (bs : List S123) : Steps [] ps bs ps bs
 | cons {l : List (List Int × List ByteArray)} {ps : List (List Int)} {bs : List S123} {ps' : List (List Int)} {bs' : List S123} (p : List Int) (t : List ByteArray) : May ps bs p t → Steps l (ps ++ [p]) (addT ps bs p t) ps' bs' → Steps ((p, t) :: l) ps bs ps' bs'
theorem Steps.snoc {l : List (List Int × List ByteArray)} {ps : List (List Int)} {bs : List S123} {ps' : List (List Int)} {bs' : List S123} (h : Steps l ps bs ps' bs') {p : List Int} {t : List ByteArray} (hm : May ps' bs' p t) : Steps (l ++ [(p, t)]) ps bs (ps' ++ [p]) (addT ps' bs' p t) := by
 induction h with
 | nil ps bs => exact .cons p t hm (.nil _ _)
 | cons p1 t1 h1 _ ih => exact .cons p1 t1 h1 (ih hm)
theorem Steps.ok {l : List (List Int × List ByteArray)} {ps : List (List Int)} {bs : List S123} {ps' : List (List Int)} {bs' : List S123} (h : Steps l ps bs ps' bs') : weaveOk ps bs = true →
  weaveOk ps' bs' = true ∧ ps' = ps ++ l.map (·.1) ∧ (∀ v, v < ps.length → textAt ps' bs' v = textAt ps bs v) ∧ ∀ (v : Nat) (hv : v < l.length), textAt ps' bs' (ps.length + v) = l[v].2 := by
 induction h with
 | nil ps bs => intro hw; exact ⟨hw, by simp, fun _ _ => rfl, fun v hv => absurd hv (by simp)⟩
 | @cons l ps bs ps' bs' p t hm _ ih =>
  intro hw
  obtain ⟨m1, m2, m3, m4, m5⟩ := hm
  have hf := weaveOk_fine hw
  obtain ⟨h1, h2, h3, h4⟩ := ih (add_ok ps bs p t hf hw m1 m2 m3 m4 m5)
  have hl : (ps ++ [p]).length = ps.length + 1 := by simp
  refine ⟨h1, by rw [h2]; simp, fun v hv => ?_, fun v hv => ?_⟩
  ·rw [h3 v (by omega)]
   exact add_old ps bs p t hf hw m1 m2 m3 v hv
  ·cases v with
   | zero =>
    rw [Nat.add_zero, h3 ps.length (by omega)]
    exact add_new ps bs p t hf hw m1 m2 m3
   | succ v =>
    have := h4 v (by simpa using hv)
    rw [hl, show ps.length + 1 + v = ps.length + (v + 1) by omega] at this
    rw [this]
    simp
theorem and255 (x : Int) : 0 ≤ Go.bits .and .i64 x 255 ∧ Go.bits .and .i64 x 255 ≤ 255 := by
 have h : (BitVec.ofInt IntKind.i64.bits x).toNat &&& (BitVec.ofInt IntKind.i64.bits 255).toNat ≤ 255 := by
  have e : (BitVec.ofInt IntKind.i64.bits 255).toNat = 255 := by rfl
  rw [e]
  exact Nat.and_le_right
 simp only [Go.bits, BitVec.toNat_and]
 rw [IntKind.wrap_i64]
 omega
theorem spec_l01Byte_eq (s : List Int) (i h : Int) (hi : 0 ≤ i) (hs : s.length ≤ 140737488351232) : ∃ v i' h', spec_l01Byte.f s i h = some (v, i', h') ∧ 0 ≤ v ∧ v ≤ 255 ∧ 0 ≤ i' := by
 unfold spec_l01Byte.f
 by_cases c : i < (s.length : Int)
 ·rw [if_pos c, if_pos hi, show wrap64 (i + 1) = i + 1 from w64 (by omega) (by omega)]
  exact ⟨_, _, _, rfl, (and255 _).1, (and255 _).2, by omega⟩
 ·rw [if_neg c]
  exact ⟨_, _, _, rfl, (and255 _).1, (and255 _).2, hi⟩
theorem spec_l01Below_eq (s : List Int) (i h n : Int) (hi : 0 ≤ i) (hs : s.length ≤ 140737488351232) (h0 : 1 ≤ n) (h1 : n ≤ 256) : ∃ v i' h', spec_l01Below.f s i h n = some (v, i', h') ∧ 0 ≤ v ∧ v < n ∧ 0 ≤ i' := by
 obtain ⟨v, i', h', e, v0, v1, hi'⟩ := spec_l01Byte_eq s i h hi hs
 unfold spec_l01Below.f
 rw [if_neg (by omega), if_pos h1, e, Option.bind_some, if_neg (by omega)]
 refine ⟨_, _, _, rfl, ?_, ?_, hi'⟩
 ·rw [Int.tmod_eq_emod_of_nonneg v0]
  exact Int.emod_nonneg _ (by omega)
 ·rw [Int.tmod_eq_emod_of_nonneg v0]
  exact Int.emod_lt_of_pos _ (by omega)
theorem spec_l01New_ev (s : List Int) : ∃ h, Ev (fun k => spec_l01New.f k s) (s, 0, h) := by
 simp only [spec_l01New.f]
 have key : ∀ (n i : Nat) (h : Int), i + n = s.length → ∃ h', Ev (fun k => spec_l01New.l0 k s h (i : Int)) (s, 0, h') := by
  intro n
  induction n with
  | zero =>
   intro i h hi
   refine ⟨h, Ev.succ ?_⟩
   simp only [spec_l01New.l0]
   exact Ev.neg (by omega) (Ev.now _)
  | succ n ih =>
   intro i h hi
   by_cases c : (i : Int) < 4000
   ·obtain ⟨h', hh⟩ := ih (i + 1) (Go.bits .and .i64 (wrap64 ((wrap64 ((wrap64 (h * 131)) + (wrap64 (rd s (i : Int))))) + 7)) 1073741823) (by omega)
    refine ⟨h', Ev.succ ?_⟩
    simp only [spec_l01New.l0]
    rw [up1 i (by omega)]
    exact Ev.pos (by omega) (Ev.pos c (Ev.pos (by omega) hh))
   ·refine ⟨h, Ev.succ ?_⟩
    simp only [spec_l01New.l0]
    exact Ev.pos (by omega) (Ev.neg c (Ev.now _))
 exact key s.length 0 _ (by omega)
theorem spec_l01Once_eq (s : List Int) (i h n : Int) (hi : 0 ≤ i) (hs : s.length ≤ 140737488351232) (h0 : 1 ≤ n) (h1 : n ≤ 256) : ∃ v i' h', spec_l01Once.f s i h n = some (v, i', h') ∧ 0 ≤ i' := by
 obtain ⟨v, i', h', e, v0, v1, hi'⟩ := spec_l01Below_eq s i h n hi hs h0 h1
 unfold spec_l01Once.f
 rw [e, Option.bind_some]
 exact ⟨_, _, _, rfl, hi'⟩
theorem spec_l01Pick_eq (s : List Int) (i h : Int) (l : List ByteArray) (hi : 0 ≤ i) (hs : s.length ≤ 140737488351232) (h0 : 1 ≤ l.length) (h1 : l.length ≤ 256) : ∃ v i' h', spec_l01Pick.f s i h l = some (v, i', h') ∧ v ∈ l ∧ 0 ≤ i' := by
 obtain ⟨v, i', h', e, v0, v1, hi'⟩ := spec_l01Below_eq s i h (l.length : Int) hi hs (by omega) (by omega)
 unfold spec_l01Pick.f
 rw [e, Option.bind_some, if_pos v0, if_pos v1]
 refine ⟨_, _, _, rfl, ?_, hi'⟩
 obtain ⟨j, rfl⟩ := Int.eq_ofNat_of_zero_le v0
 rw [rdOf_nat _ _ _ (by omega)]
 exact List.getElem_mem _
theorem spec_l03Line_eq (s : List Int) (i h : Int) (hi : 0 ≤ i) (hs : s.length ≤ 140737488351232) : ∃ v i' h', spec_l03Line.f s i h = some (v, i', h') ∧ lineOk v = true ∧ 0 ≤ i' := by
 unfold spec_l03Line.f
 obtain ⟨v, i', h', e, hv, hi'⟩ := spec_l01Pick_eq s i h [(⟨#[97]⟩ : ByteArray), (⟨#[98]⟩ : ByteArray), (⟨#[99]⟩ : ByteArray), (⟨#[100]⟩ : ByteArray), (⟨#[101]⟩ : ByteArray), (⟨#[]⟩ : ByteArray), (⟨#[105, 102, 32, 120]⟩ : ByteArray), (⟨#[101, 110, 100]⟩ : ByteArray), (⟨#[97]⟩ : ByteArray), (⟨#[98]⟩ : ByteArray)] hi hs (by simp) (by simp)
 rw [e, Option.bind_some]
 refine ⟨_, _, _, rfl, ?_, hi'⟩
 simp only [List.mem_cons, List.not_mem_nil, or_false] at hv
 rcases hv with rfl | rfl | rfl | rfl | rfl | rfl | rfl | rfl | rfl | rfl <;> rfl
theorem allOk_snoc {l : List ByteArray} {x : ByteArray} (h : allOk l = true) (hx : lineOk x = true) : allOk (l ++ [x]) = true := by
 simp only [allOk, List.all_append, List.all_cons, List.all_nil, Bool.and_true, Bool.and_eq_true]
 exact ⟨h, hx⟩
theorem allOk_get {l : List ByteArray} (h : allOk l = true) (i : Nat) (hi : i < l.length) : lineOk l[i] = true := List.all_eq_true.1 h _ (List.getElem_mem hi)
theorem spec_l03Lines_ev (s : List Int) (i h : Int) (m : Nat) (hi : 0 ≤ i) (hs : s.length ≤ 140737488351232) (hm : m ≤ 250) : ∃ r i' h', Ev (fun k => spec_l03Lines.f k s i h (m : Int)) (r, i', h') ∧ r.length ≤ m ∧ allOk r = true ∧ 0 ≤ i' := by
 simp only [spec_l03Lines.f]
 have key : ∀ (n j : Nat) (acc : List ByteArray) (i h : Int), j + n = m → 0 ≤ i → acc.length = j → allOk acc = true → ∃ r i' h', Ev (fun k => spec_l03Lines.l0 k (m : Int) acc (j : Int) s i h) (r, i', h') ∧ r.length ≤ m ∧ allOk r = true ∧ 0 ≤ i' := by
  intro n
  induction n with
  | zero =>
   intro j acc i h hj hi hl ha
   obtain ⟨v, i', h', e, v0, v1, hi'⟩ := spec_l01Below_eq s i h ((m + 1 : Nat) : Int) hi hs (by omega) (by omega)
   refine ⟨acc, i', h', Ev.succ ?_, by omega, ha, hi'⟩
   simp only [spec_l03Lines.l0]
   rw [up1 m (by omega)]
   exact Ev.bnd0 e (Ev.neg (by simp only; omega) (Ev.now _))
  | succ n ih =>
   intro j acc i h hj hi hl ha
   obtain ⟨v, i', h', e, v0, v1, hi'⟩ := spec_l01Below_eq s i h ((m + 1 : Nat) : Int) hi hs (by omega) (by omega)
   by_cases c : (j : Int) < v
   ·obtain ⟨x, i2, h2, e2, hx, hi2⟩ := spec_l03Line_eq s i' h' hi' hs
    obtain ⟨r, i3, h3, hr, hrl, hra, hi3⟩ := ih (j + 1) (acc ++ [x]) i2 h2 (by omega) hi2 (by simp; omega) (allOk_snoc ha hx)
    refine ⟨r, i3, h3, Ev.succ ?_, hrl, hra, hi3⟩
    simp only [spec_l03Lines.l0]
    rw [up1 m (by omega), up1 j (by omega)]
    exact Ev.bnd0 e (Ev.pos c (Ev.bnd0 e2 (Ev.pos (by omega) hr)))
   ·refine ⟨acc, i', h', Ev.succ ?_, by omega, ha, hi'⟩
    simp only [spec_l03Lines.l0]
    rw [up1 m (by omega)]
    exact Ev.bnd0 e (Ev.neg c (Ev.now _))
 exact key m 0 [] i h (by omega) hi rfl rfl
theorem spec_l04Near_ev (s : List Int) (i h : Int) (a : List ByteArray) (hi : 0 ≤ i) (hs : s.length ≤ 140737488351232) (hm : a.length ≤ 1000) (ha : allOk a = true) : ∃ r i' h', Ev (fun k => spec_l04Near.f k s i h a) (r, i', h') ∧ r.length ≤ 2 * a.length + 1 ∧ allOk r = true ∧ 0 ≤ i' := by
 simp only [spec_l04Near.f]
 have key : ∀ (n j : Nat) (acc : List ByteArray) (i h : Int), j + n = a.length → 0 ≤ i → acc.length ≤ 2 * j → allOk acc = true → ∃ r i' h', Ev (fun k => spec_l04Near.l0 k a acc (j : Int) s i h) (r, i', h') ∧ r.length ≤ 2 * a.length + 1 ∧ allOk r = true ∧ 0 ≤ i' := by
  intro n
  induction n with
  | zero =>
   intro j acc i h hj hi hl hc
   obtain ⟨v, i', h', e, hi'⟩ := spec_l01Once_eq s i h 4 hi hs (by omega) (by omega)
   by_cases c : v = true
   ·obtain ⟨x, i2, h2, e2, hx, hi2⟩ := spec_l03Line_eq s i' h' hi' hs
    refine ⟨acc ++ [x], i2, h2, Ev.succ ?_, by simp; omega, allOk_snoc hc hx, hi2⟩
    simp only [spec_l04Near.l0]
    exact Ev.neg (by omega) (Ev.bnd0 e (Ev.pos c (Ev.bnd0 e2 (Ev.pos (by omega) (Ev.now _)))))
   ·refine ⟨acc, i', h', Ev.succ ?_, by omega, hc, hi'⟩
    simp only [spec_l04Near.l0]
    exact Ev.neg (by omega) (Ev.bnd0 e (Ev.neg c (Ev.now _)))
  | succ n ih =>
   intro j acc i h hj hi hl hc
   have hja : j < a.length := by omega
   obtain ⟨v, i', h', e, v0, v1, hi'⟩ := spec_l01Below_eq s i h 6 hi hs (by omega) (by omega)
   obtain ⟨x, i2, h2, e2, hx, hi2⟩ := spec_l03Line_eq s i' h' hi' hs
   by_cases c0 : v = 0
   ·obtain ⟨r, i3, h3, hr, hrl, hra⟩ := ih (j + 1) (acc ++ [x]) i2 h2 (by omega) hi2 (by simp; omega) (allOk_snoc hc hx)
    refine ⟨r, i3, h3, Ev.succ ?_, hrl, hra⟩
    simp only [spec_l04Near.l0]
    rw [up1 j (by omega)]
    exact Ev.pos (by omega) (Ev.bnd0 e (Ev.pos c0 (Ev.bnd0 e2 (Ev.pos (by omega) hr))))
   by_cases c1 : v = 1
   ·obtain ⟨r, i3, h3, hr, hrl, hra⟩ := ih (j + 1) (acc ++ [x, a[j]]) i2 h2 (by omega) hi2 (by simp; omega) (by
     have := allOk_snoc (allOk_snoc hc hx) (allOk_get ha j hja)
     rw [List.append_assoc] at this
     exact this)
    refine ⟨r, i3, h3, Ev.succ ?_, hrl, hra⟩
    simp only [spec_l04Near.l0]
    rw [up1 j (by omega), rdOf_nat _ _ _ hja]
    exact Ev.pos (by omega) (Ev.bnd0 e (Ev.neg c0 (Ev.pos c1 (Ev.bnd0 e2 (Ev.pos (by omega) (Ev.bnd0 rfl (Ev.pos (by simp; omega) hr)))))))
   by_cases c2 : v = 2
   ·obtain ⟨r, i3, h3, hr, hrl, hra⟩ := ih (j + 1) acc i' h' (by omega) hi' (by omega) hc
    refine ⟨r, i3, h3, Ev.succ ?_, hrl, hra⟩
    simp only [spec_l04Near.l0]
    rw [up1 j (by omega)]
    exact Ev.pos (by omega) (Ev.bnd0 e (Ev.neg c0 (Ev.neg c1 (Ev.pos c2 hr))))
   ·obtain ⟨r, i3, h3, hr, hrl, hra⟩ := ih (j + 1) (acc ++ [a[j]]) i' h' (by omega) hi' (by simp; omega) (allOk_snoc hc (allOk_get ha j hja))
    refine ⟨r, i3, h3, Ev.succ ?_, hrl, hra⟩
    simp only [spec_l04Near.l0]
    rw [up1 j (by omega), rdOf_nat _ _ _ hja]
    exact Ev.pos (by omega) (Ev.bnd0 e (Ev.neg c0 (Ev.neg c1 (Ev.neg c2 (Ev.pos (by omega) (Ev.pos (by omega) hr))))))
 exact key a.length 0 [] i h (by omega) hi (by simp) rfl
theorem spec_l05Parents_ev (s : List Int) (i h : Int) (n : Nat) (hi : 0 ≤ i) (hs : s.length ≤ 140737488351232) (hn : n ≤ 200) : ∃ r i' h', Ev (fun k => spec_l05Parents.f k s i h (n : Int)) (r, i', h') ∧ (r.length : Int) ≤ 4 ∧ asc (n : Int) none r = true ∧ 0 ≤ i' := by
 simp only [spec_l05Parents.f]
 have key : ∀ (m v : Nat) (out : List Int) (i h : Int), v + m = n → out.length ≤ 4 → asc (v : Int) none out = true → 0 ≤ i → ∃ r i' h', Ev (fun k => spec_l05Parents.l0 k (n : Int) out (v : Int) s i h) (r, i', h') ∧ (r.length : Int) ≤ 4 ∧ asc (n : Int) none r = true ∧ 0 ≤ i' := by
  intro m
  induction m with
  | zero =>
   intro v out i h hv hl ha hi
   obtain rfl : v = n := by omega
   refine ⟨out, i, h, Ev.succ ?_, by omega, ha, hi⟩
   simp only [spec_l05Parents.l0]
   exact Ev.neg (by omega) (Ev.now _)
  | succ m ih =>
   intro v out i h hv hl ha hi
   have skip : ∀ i h : Int, 0 ≤ i → ∃ r i' h', Ev (fun k => spec_l05Parents.l0 k (n : Int) out ((v + 1 : Nat) : Int) s i h) (r, i', h') ∧ (r.length : Int) ≤ 4 ∧ asc (n : Int) none r = true ∧ 0 ≤ i' := fun i h hi => ih (v + 1) out i h (by omega) hl (asc_mono _ _ _ _ (by omega) ha) hi
   have hs2 := fun (c : out.length < 4) => asc_snoc (v : Int) (by omega) out none (fun p hp => by cases hp) ha
   have take : out.length < 4 → ∀ i h : Int, 0 ≤ i → ∃ r i' h', Ev (fun k => spec_l05Parents.l0 k (n : Int) (out ++ [(v : Int)]) ((v + 1 : Nat) : Int) s i h) (r, i', h') ∧ (r.length : Int) ≤ 4 ∧ asc (n : Int) none r = true ∧ 0 ≤ i' := fun c i h hi => ih (v + 1) (out ++ [(v : Int)]) i h (by omega) (by simp; omega) (hs2 c) hi
   by_cases c4 : (out.length : Int) < 4
   ·have c4' : out.length < 4 := by omega
    have w2 : wrap64 ((n : Int) + 2) = (n : Int) + 2 := w64 (by omega) (by omega)
    -- the second draw
    have second : ∀ i h : Int, 0 ≤ i → ∃ r i' h', Ev (fun k => (spec_l01Once.f s i h (wrap64 ((n : Int) + 2))).bind fun bt => if bt.1 = true then (if out.length < 17592186044416 then spec_l05Parents.l0 k (n : Int) (out ++ [(v : Int)]) (wrap64 ((v : Int) + 1)) s bt.2.1 bt.2.2 else none) else spec_l05Parents.l0 k (n : Int) out (wrap64 ((v : Int) + 1)) s bt.2.1 bt.2.2) (r, i', h') ∧ (r.length : Int) ≤ 4 ∧ asc (n : Int) none r = true ∧ 0 ≤ i' := by
     intro i h hi
     obtain ⟨b, i1, h1, e, hi1⟩ := spec_l01Once_eq s i h ((n : Int) + 2) hi hs (by omega) (by omega)
     rw [w2, up1 v (by omega)]
     cases b with
     | true =>
      obtain ⟨r, i2, h2, er, p1, p2, p3⟩ := take c4' i1 h1 hi1
      exact ⟨r, i2, h2, Ev.bnd0 e (Ev.pos rfl (Ev.pos (by omega) er)), p1, p2, p3⟩
     | false =>
      obtain ⟨r, i2, h2, er, p1, p2, p3⟩ := skip i1 h1 hi1
      exact ⟨r, i2, h2, Ev.bnd0 e (Ev.neg (by simp) er), p1, p2, p3⟩
    by_cases c5 : (v : Int) = wrap64 ((n : Int) - 1)
    ·obtain ⟨b, i1, h1, e, hi1⟩ := spec_l01Once_eq s i h 4 hi hs (by omega) (by omega)
     cases b with
     | true =>
      obtain ⟨r, i2, h2, er, p1, p2, p3⟩ := second i1 h1 hi1
      refine ⟨r, i2, h2, Ev.succ ?_, p1, p2, p3⟩
      simp only [spec_l05Parents.l0]
      exact Ev.pos (by omega) (Ev.pos c4 (Ev.pos c5 (Ev.bnd0 e (Ev.pos rfl er))))
     | false =>
      obtain ⟨r, i2, h2, er, p1, p2, p3⟩ := take c4' i1 h1 hi1
      refine ⟨r, i2, h2, Ev.succ ?_, p1, p2, p3⟩
      simp only [spec_l05Parents.l0]
      rw [up1 v (by omega)]
      exact Ev.pos (by omega) (Ev.pos c4 (Ev.pos c5 (Ev.bnd0 e (Ev.neg (by simp) (Ev.pos (by omega) er)))))
    ·obtain ⟨r, i2, h2, er, p1, p2, p3⟩ := second i h hi
     refine ⟨r, i2, h2, Ev.succ ?_, p1, p2, p3⟩
     simp only [spec_l05Parents.l0]
     exact Ev.pos (by omega) (Ev.pos c4 (Ev.neg c5 er))
   ·obtain ⟨r, i2, h2, er, p1, p2, p3⟩ := skip i h hi
    refine ⟨r, i2, h2, Ev.succ ?_, p1, p2, p3⟩
    simp only [spec_l05Parents.l0]
    rw [up1 v (by omega)]
    exact Ev.pos (by omega) (Ev.neg c4 er)
 exact key n 0 [] i h (by omega) (by simp) (by simp [asc]) hi
section
variable {ps : List (List Int)} {bs : List S123} (hw : weaveOk ps bs = true)
include hw
theorem spec_l06Add_any (parents : List Int) (lines : List ByteArray) (hpar : parents.length ≤ 1048576) (hls : Sized lines) : ∃ R, Ev (fun k => spec_l06Add.f k ps bs parents lines) R ∧
  ((May ps bs parents lines ∧ R = (ps ++ [parents], addT ps bs parents lines, (ps.length : Int), 0)) ∨ (¬ May ps bs parents lines ∧ R.2.2.2 ≠ 0)) := by
 have hf := weaveOk_fine hw
 have hn := graphOk_len (weaveOk_graph hw).1
 by_cases ha : (parents.length : Int) ≤ 4 ∧ asc (ps.length : Int) none parents = true
 ·by_cases hl : linesOk 80 lines = true
  ·have h := spec_add_ev ps bs parents lines hf hw ha.1 ha.2 hl
   by_cases c40 : ps.length = 40
   ·rw [if_pos c40] at h
    exact ⟨_, h, .inr ⟨fun m => m.2.2.2.1 c40, by simp⟩⟩
   ·rw [if_neg c40] at h
    by_cases c300 : ((addT ps bs parents lines).length : Int) > 300
    ·rw [if_pos c300] at h
     exact ⟨_, h, .inr ⟨fun m => by have := m.2.2.2.2; omega, by simp⟩⟩
    ·rw [if_neg c300] at h
     exact ⟨_, h, .inl ⟨⟨ha.1, ha.2, hl, c40, by omega⟩, rfl⟩⟩
  ·refine ⟨([], [], 0, 3), ?_, .inr ⟨fun m => hl m.2.2.1, by simp⟩⟩
   simp only [spec_l06Add.f]
   have hpar2 : Ev (fun k => spec_l06Parents.f k ps bs parents) true := by
    simp only [spec_l06Parents.f]
    exact Ev.pos ha.1 (Ev.bnd (spec_l05Rise_ev parents (ps.length : Int) (by omega) (by omega) (by omega)) (Ev.some_ ha.2))
   exact Ev.bnd hpar2 (Ev.pos rfl (Ev.bnd (spec_LinesOk_ev lines hls) (Ev.neg hl (Ev.now _))))
 ·refine ⟨([], [], 0, 2), ?_, .inr ⟨fun m => ha ⟨m.1, m.2.1⟩, by simp⟩⟩
  simp only [spec_l06Add.f]
  have hpar2 : Ev (fun k => spec_l06Parents.f k ps bs parents) false := by
   simp only [spec_l06Parents.f]
   by_cases h4 : (parents.length : Int) ≤ 4
   ·exact Ev.pos h4 (Ev.bnd (spec_l05Rise_ev parents (ps.length : Int) (by omega) (by omega) (by omega)) (Ev.some_ (by simpa [h4] using ha)))
   ·exact Ev.neg h4 (Ev.now _)
  exact Ev.bnd hpar2 (Ev.neg (by simp) (Ev.now _))
theorem spec_seen_ev (parents : List Int) (hp : parents.length ≤ 1000) : Ev (fun k => spec_l06Seen.f k ps bs parents) (placesL (pS ps parents) bs 0) ∧ Ev (fun k => spec_l06Lines.f k ps bs (placesL (pS ps parents) bs 0)) (linesL bs (placesL (pS ps parents) bs 0)) ∧ (linesL bs (placesL (pS ps parents) bs 0)).length ≤ 300 ∧ allOk (linesL bs (placesL (pS ps parents) bs 0)) = true := by
 have hf := weaveOk_fine hw
 obtain ⟨hg, h3⟩ := weaveOk_graph hw
 have hd := graphOk_down hg
 have hn := graphOk_len hg
 obtain ⟨t, ht, htl, hte⟩ := spec_l05Set_ev ps parents hd (by omega) (by omega) (rows4 hg)
 have e := pS_same hte
 have hpl := placesL_length (pS ps parents) bs 0
 refine ⟨?_, ?_, ?_, ?_⟩
 ·simp only [spec_l06Seen.f]
  rw [← e]
  exact Ev.bnd ht (Ev.bnd (spec_l06Places_ev ps bs t (by omega) (fun b hb => (hf.2.2.2 b hb).2) (by omega)) (Ev.now _))
 ·exact spec_l06Lines_ev ps bs _ (by omega) (placesL_in _ _)
 ·simp only [linesL, List.length_map]
  omega
 ·rw [linesL_all]
  refine List.all_eq_true.2 (fun x hx => ?_)
  obtain ⟨b, hb, rfl⟩ := List.mem_map.1 hx
  exact (weaveOk_lines hw b (List.mem_filter.1 hb).1).1
end
theorem allOk_take {l : List ByteArray} (h : allOk l = true) (n : Nat) : allOk (l.take n) = true := List.all_eq_true.2 (fun x hx => List.all_eq_true.1 h x (List.mem_of_mem_take hx))
theorem linesOk_of {l : List ByteArray} (m : Int) (h : allOk l = true) (hl : (l.length : Int) ≤ m) : linesOk m l = true := by
 rw [linesOk, Bool.and_eq_true, decide_eq_true_eq]
 exact ⟨hl, h⟩
theorem steps_none {l : List (List Int × List ByteArray)} {bs : List S123} (h : Steps l [] [] [] bs) : bs = [] := by
 obtain ⟨hw, _⟩ := h.ok weaveOk_none
 cases bs with
 | nil => rfl
 | cons b bs =>
  have := (weaveOk_range hw b (by simp)).1
  simp at this
  omega
theorem may_first (t : List ByteArray) (h : linesOk 80 t = true) (hl : t.length ≤ 80) : May [] [] [] t := by
 refine ⟨by simp, by simp [asc], h, by simp, ?_⟩
 have := add_count [] [] [] t (weaveOk_fine weaveOk_none) weaveOk_none (by simp) (by simp [asc]) h
 simp at this
 omega
theorem spec_l06Right_ev (s : List Int) (i h : Int) (n : Nat) (hi : 0 ≤ i) (hs : s.length ≤ 140737488351232) (hn : n ≤ 100) : ∃ l ps bs i' h', Ev (fun k => spec_l06Right.f k s i h (n : Int)) (ps, bs, i', h') ∧ Steps l [] [] ps bs ∧ ps.length ≤ n ∧ (0 < n → 0 < ps.length) ∧ 0 ≤ i' := by
 simp only [spec_l06Right.f]
 have key : ∀ (m v : Nat) (l : List (List Int × List ByteArray)) (ps : List (List Int)) (bs : List S123) (i h : Int), v + m = n → Steps l [] [] ps bs → ps.length ≤ v → (0 < v → 0 < ps.length) → 0 ≤ i →
   ∃ l ps' bs' i' h', Ev (fun k => spec_l06Right.l0 k (n : Int) (v : Int) s i h ps bs) (ps', bs', i', h') ∧ Steps l [] [] ps' bs' ∧ ps'.length ≤ n ∧ (0 < n → 0 < ps'.length) ∧ 0 ≤ i' := by
  intro m
  induction m with
  | zero =>
   intro v l ps bs i h hv hst hl h0 hi
   refine ⟨l, ps, bs, i, h, Ev.succ ?_, hst, by omega, fun _ => h0 (by omega), hi⟩
   simp only [spec_l06Right.l0]
   exact Ev.neg (by omega) (Ev.now _)
  | succ m ih =>
   intro v l ps bs i h hv hst hl h0 hi
   obtain ⟨hw, _⟩ := hst.ok weaveOk_none
   obtain ⟨P, i1, h1, eP, hP4, hPa, hi1⟩ := spec_l05Parents_ev s i h v hi hs (by omega)
   obtain ⟨es, el, hll, hla⟩ := spec_seen_ev hw P (by omega)
   obtain ⟨r, i2, h2, er, hrl, hra, hi2⟩ := spec_l04Near_ev s i1 h1 _ hi1 hs (by omega) hla
   -- the version that is added
   have last : ∀ (t : List ByteArray) (i h : Int), 0 ≤ i → allOk t = true → t.length ≤ 30 → ∃ l ps' bs' i' h', Ev (fun k => (spec_l06Add.f k ps bs P t).bind fun bt => if bt.2.2.2 = 0 then spec_l06Right.l0 k (n : Int) (wrap64 ((v : Int) + 1)) s i h bt.1 bt.2.1 else spec_l06Right.l0 k (n : Int) (wrap64 ((v : Int) + 1)) s i h ps bs) (ps', bs', i', h') ∧ Steps l [] [] ps' bs' ∧ ps'.length ≤ n ∧ (0 < n → 0 < ps'.length) ∧ 0 ≤ i' := by
    intro t i h hi ht htl
    rw [up1 v (by omega)]
    obtain ⟨R, hR, hc⟩ := spec_l06Add_any hw P t (by omega) (allOk_sized0 (linesOk_of 300 ht (by omega)))
    rcases hc with ⟨hm, rfl⟩ | ⟨hm, hne⟩
    ·obtain ⟨l', ps', bs', i', h', e', p1, p2, p3, p4⟩ := ih (v + 1) _ _ _ i h (by omega) (hst.snoc hm) (by simp; omega) (fun _ => by simp) hi
     exact ⟨l', ps', bs', i', h', Ev.bnd hR (Ev.pos rfl e'), p1, p2, p3, p4⟩
    ·have hv0 : 0 < ps.length := by
      by_cases c : v = 0
      ·exfalso
       subst c
       obtain rfl : ps = [] := List.length_eq_zero_iff.1 (by omega)
       obtain rfl := steps_none hst
       obtain rfl : P = [] := by
        cases P with
        | nil => rfl
        | cons p P =>
         have := asc_bound _ _ _ hPa p (by simp)
         omega
       exact hm (may_first t (linesOk_of 80 ht (by omega)) (by omega))
      ·exact h0 (by omega)
     obtain ⟨l', ps', bs', i', h', e', p1, p2, p3, p4⟩ := ih (v + 1) l ps bs i h (by omega) hst (by omega) (fun _ => hv0) hi
     exact ⟨l', ps', bs', i', h', Ev.bnd hR (Ev.neg hne e'), p1, p2, p3, p4⟩
   have j2 : ∀ (t : List ByteArray) (i h : Int), 0 ≤ i → allOk t = true → t.length ≤ 700 → ∃ l ps' bs' i' h', Ev (fun k => spec_l06Right.j2 k (n : Int) (v : Int) P t s i h ps bs) (ps', bs', i', h') ∧ Steps l [] [] ps' bs' ∧ ps'.length ≤ n ∧ (0 < n → 0 < ps'.length) ∧ 0 ≤ i' := by
    intro t i h hi ht htl
    by_cases c : (t.length : Int) > 30
    ·obtain ⟨l', ps', bs', i', h', e', p1, p2, p3, p4⟩ := last (t.take 30) i h hi (allOk_take ht 30) (by simp; omega)
     refine ⟨l', ps', bs', i', h', Ev.succ ?_, p1, p2, p3, p4⟩
     simp only [spec_l06Right.j2]
     exact Ev.pos c (Ev.pos (by omega) e')
    ·obtain ⟨l', ps', bs', i', h', e', p1, p2, p3, p4⟩ := last t i h hi ht (by omega)
     refine ⟨l', ps', bs', i', h', Ev.succ ?_, p1, p2, p3, p4⟩
     simp only [spec_l06Right.j2]
     exact Ev.neg c e'
   have j1 : ∀ (b : Bool) (i h : Int), 0 ≤ i → ∃ l ps' bs' i' h', Ev (fun k => spec_l06Right.j1 k (n : Int) (v : Int) P r b s i h ps bs) (ps', bs', i', h') ∧ Steps l [] [] ps' bs' ∧ ps'.length ≤ n ∧ (0 < n → 0 < ps'.length) ∧ 0 ≤ i' := by
    intro b i h hi
    cases b with
    | true =>
     obtain ⟨t, i3, h3, et, htl, hta, hi3⟩ := spec_l03Lines_ev s i h 9 hi hs (by omega)
     obtain ⟨l', ps', bs', i', h', e', p1, p2, p3, p4⟩ := j2 t i3 h3 hi3 hta (by omega)
     refine ⟨l', ps', bs', i', h', Ev.succ ?_, p1, p2, p3, p4⟩
     simp only [spec_l06Right.j1]
     exact Ev.pos (by first | rfl | trivial) (Ev.bnd et e')
    | false =>
     obtain ⟨l', ps', bs', i', h', e', p1, p2, p3, p4⟩ := j2 r i h hi hra (by omega)
     refine ⟨l', ps', bs', i', h', Ev.succ ?_, p1, p2, p3, p4⟩
     simp only [spec_l06Right.j1]
     exact Ev.neg (by simp) e'
   by_cases c : (v : Int) = 0
   ·obtain ⟨l', ps', bs', i', h', e', p1, p2, p3, p4⟩ := j1 true i2 h2 hi2
    refine ⟨l', ps', bs', i', h', Ev.succ ?_, p1, p2, p3, p4⟩
    simp only [spec_l06Right.l0]
    exact Ev.pos (by omega) (Ev.bnd eP (Ev.bnd es (Ev.bnd el (Ev.bnd er (Ev.pos c e')))))
   ·obtain ⟨b, i3, h3, eb, hi3⟩ := spec_l01Once_eq s i2 h2 12 hi2 hs (by omega) (by omega)
    obtain ⟨l', ps', bs', i', h', e', p1, p2, p3, p4⟩ := j1 b i3 h3 hi3
    refine ⟨l', ps', bs', i', h', Ev.succ ?_, p1, p2, p3, p4⟩
    simp only [spec_l06Right.l0]
    exact Ev.pos (by omega) (Ev.bnd eP (Ev.bnd es (Ev.bnd el (Ev.bnd er (Ev.neg c (Ev.bnd0 eb e'))))))
 exact key n 0 [] [] [] i h (by omega) (.nil _ _) (by simp) (fun h => absurd h (by omega)) hi
theorem impl_AddVersion_ev (ps : List (List Int)) (bs : List S123) (parents : List Int) (lines : List ByteArray) (hf : Fine ps bs) (hpar : parents.length ≤ 1048576) (hls : Sized lines) : Ev (fun k => impl_AddVersion.f k ps bs parents lines) (addR ps bs parents lines) := by
 simp only [impl_AddVersion.f]
 unfold addR
 refine Ev.bnd (impl_WeaveOk_ev ps bs hf) ?_
 by_cases hw : weaveOk ps bs = true
 ·rw [if_pos hw]
  obtain ⟨hg, h3⟩ := weaveOk_graph hw
  have hn := graphOk_len hg
  refine Ev.pos hw ?_
  have hcode : Ev (fun k => impl_addCode.f k ps bs parents lines) (if (parents.length : Int) ≤ 4 ∧ asc (ps.length : Int) none parents = true then (if linesOk 80 lines = true then 0 else 3) else 2) := by
   simp only [impl_addCode.f]
   by_cases h4 : (parents.length : Int) ≤ 4
   ·refine Ev.neg (by omega) (Ev.bnd (impl_ascends_ev parents (ps.length : Int) (by omega) (by omega) (by omega)) (Ev.succ ?_))
    simp only [impl_addCode.j0]
    by_cases ha : asc (ps.length : Int) none parents = true
    ·rw [if_pos ⟨h4, ha⟩]
     refine Ev.neg (by rw [ha]; simp) (Ev.bnd (impl_LinesOk_ev lines hls) ?_)
     by_cases hl : linesOk 80 lines = true
     ·exact Ev_eq (Ev.pos hl (Ev.now _)) (by rw [if_pos hl])
     ·exact Ev_eq (Ev.neg hl (Ev.now _)) (by rw [if_neg hl])
    ·rw [if_neg (fun h => ha h.2)]
     have ha' : asc (ps.length : Int) none parents = false := by simpa using ha
     exact Ev.pos (by rw [ha']; rfl) (Ev.now _)
   ·rw [if_neg (fun h => h4 h.1)]
    refine Ev.pos (by omega) (Ev.succ ?_)
    simp only [impl_addCode.j0]
    exact Ev.pos (by first | rfl | trivial) (Ev.now _)
  by_cases ha : (parents.length : Int) ≤ 4 ∧ asc (ps.length : Int) none parents = true
  ·rw [if_pos ha] at hcode ⊢
   by_cases hl : linesOk 80 lines = true
   ·rw [if_pos hl] at hcode ⊢
    refine Ev.bnd hcode (Ev.pos rfl (Ev.bnd (copyWeave_ev ps bs hf) ?_))
    by_cases h40 : ps.length = 40
    ·rw [if_pos h40]
     have : Ev (fun k => impl_Weave_add.f k ps bs parents lines) (ps, bs, false) := by
      simp only [impl_Weave_add.f]
      exact Ev.pos (by omega) (Ev.now _)
     exact Ev.bnd this (Ev.neg (by simp) (Ev.now _))
    ·rw [if_neg h40]
     obtain ⟨h1, h2⟩ := impl_add_ev ps bs parents lines hf hw ha.1 ha.2 hl h40
     refine Ev.bnd h1 ?_
     by_cases h300 : ((addT ps bs parents lines).length : Int) > 300
     ·rw [if_pos h300]
      exact Ev.neg (by simp; omega) (Ev.now _)
     ·rw [if_neg h300]
      exact Ev.pos (by simp; omega) (Ev.now _)
   ·rw [if_neg hl] at hcode ⊢
    exact Ev.bnd hcode (Ev.neg (by omega) (Ev.now _))
  ·rw [if_neg ha] at hcode ⊢
   exact Ev.bnd hcode (Ev.neg (by omega) (Ev.now _))
 ·rw [if_neg hw]
  exact Ev.neg hw (Ev.now _)
theorem impl_areVersions_ev (ps : List (List Int)) (bs : List S123) (l : List Int) (h : ps.length ≤ 1048576) (hl : l.length ≤ 1048576) : Ev (fun k => impl_Weave_areVersions.f k ps bs l) (l.all (isV ps)) := by
 have key : ∀ (n i : Nat), i + n = l.length → Ev (fun k => impl_Weave_areVersions.l0 k l (l.length : Int) (i : Int) ps bs) ((l.drop i).all (isV ps)) := by
  intro n
  induction n with
  | zero =>
   intro i hi
   refine Ev.succ ?_
   simp only [impl_Weave_areVersions.l0]
   rw [drop_end l i (by omega)]
   exact Ev.neg (by omega) (Ev.some_ rfl)
  | succ n ih =>
   intro i hi
   have hrd : rd l (i : Int) = l[i]'(by omega) := rd_nat _ _ _
   refine Ev.succ ?_
   simp only [impl_Weave_areVersions.l0]
   rw [hrd, up1 i (by omega), List.drop_eq_getElem_cons (show i < l.length by omega), List.all_cons]
   refine Ev.pos (by omega) (Ev.pos (by omega) (Ev.pos (by omega) (Ev.bnd0 (impl_isPlace_eq _ ps.length (by omega)) ?_)))
   by_cases c : isV ps (l[i]'(by omega)) = true
   ·rw [c, Bool.true_and]
    exact Ev.pos c (ih (i + 1) (by omega))
   ·rw [Bool.eq_false_iff.2 c, Bool.false_and]
    exact Ev.neg c (Ev.now _)
 have := key l.length 0 (by omega)
 rw [List.drop_zero] at this
 simp only [impl_Weave_areVersions.f]
 exact this
open Classical in
noncomputable def seenR (ps : List (List Int)) (bs : List S123) (l : List Int) : List ByteArray := if weaveOk ps bs = true ∧ l.all (isV ps) = true then linesL bs (placesL (pS ps l) bs 0) else []
theorem pS_eq {ps : List (List Int)} {l : List Int} {p : Nat → Bool} (h : ∀ u, p u = true ↔ ∃ s : Nat, (s : Int) ∈ l ∧ s < ps.length ∧ Anc ps s u) : p = pS ps l := by
 funext u
 rw [Bool.eq_iff_iff, h u, pS_iff]
theorem impl_SeenBy_ev (ps : List (List Int)) (bs : List S123) (hf : Fine ps bs) (l : List Int) (hll : l.length ≤ 1048576) : Ev (fun k => impl_SeenBy.f k ps bs l) (seenR ps bs l) := by
 simp only [impl_SeenBy.f]
 have hb := hf.2.2.1
 refine Ev.bnd (impl_areVersions_ev ps bs l hf.1 hll) ?_
 unfold seenR
 by_cases cv : l.all (isV ps) = true
 ·refine Ev.pos cv (Ev.bnd (impl_WeaveOk_ev ps bs hf) (Ev.succ ?_))
  simp only [impl_SeenBy.j0]
  by_cases c : weaveOk ps bs = true
  ·rw [if_pos ⟨c, cv⟩, c]
   obtain ⟨hg, h3⟩ := weaveOk_graph c
   have hd := graphOk_down hg
   have hn := graphOk_len hg
   obtain ⟨x, hx1, hxl, hw, hc⟩ := impl_closures_ev ps hd (by omega) (rows4 hg)
   have hv : ∀ p ∈ l, 0 ≤ p ∧ p < (x.length : Int) := by
    intro p hp
    have := List.all_eq_true.1 cv p hp
    simp only [isV, decide_eq_true_eq] at this
    omega
   obtain ⟨s, hs, hs1, hs2⟩ := impl_unionOf_ev x hw l (by omega) hv
   have e : s.testBit = pS ps l := by
    refine pS_eq fun u => ?_
    rw [hs2 u]
    constructor
    ·rintro ⟨p, hp, hb2⟩
     have hpl := hv _ hp
     rw [clo_bits ps bs hg hf h3 x hxl hw hc p (by omega), pS_iff] at hb2
     obtain ⟨t, ht, ht1, ht2⟩ := hb2
     rw [List.mem_singleton] at ht
     exact ⟨t, ht ▸ hp, ht1, ht2⟩
    ·rintro ⟨p, hp, hpl, ha⟩
     refine ⟨p, hp, ?_⟩
     rw [clo_bits ps bs hg hf h3 x hxl hw hc p hpl, pS_iff]
     exact ⟨p, by simp, hpl, ha⟩
   have hl := placesL_length (pS ps l) bs 0
   have hA := impl_liveIn_ev ps bs s hs1 hb (fun b hb => (hf.2.2.2 b hb).2)
   rw [e] at hA
   exact Ev.neg (by simp) (Ev.bnd hx1 (Ev.bnd hs (Ev.bnd hA (Ev.bnd (impl_linesAt_ev ps bs _ (by omega) (placesL_in (pS ps l) bs)) (Ev.now _)))))
  ·rw [if_neg (fun h => c h.1), Bool.eq_false_iff.2 c]
   exact Ev.pos rfl (Ev.now _)
 ·rw [if_neg (fun h => cv h.2)]
  refine Ev.neg cv (Ev.succ ?_)
  simp only [impl_SeenBy.j0]
  exact Ev.pos trivial (Ev.now _)
noncomputable def vCode (ps : List (List Int)) (bs : List S123) (l : List Int) : Int := if weaveOk ps bs = true then (if l.all (isV ps) = true then 0 else 2) else 1
theorem impl_versionsCode_ev (ps : List (List Int)) (bs : List S123) (l : List Int) (hf : Fine ps bs) (hl : l.length ≤ 1048576) : Ev (fun k => impl_versionsCode.f k ps bs l) (vCode ps bs l) := by
 simp only [impl_versionsCode.f]
 unfold vCode
 refine Ev.bnd (impl_WeaveOk_ev ps bs hf) ?_
 by_cases c : weaveOk ps bs = true
 ·rw [if_pos c]
  refine Ev.pos c (Ev.bnd (impl_areVersions_ev ps bs l hf.1 hl) ?_)
  by_cases c2 : l.all (isV ps) = true
  ·rw [if_pos c2, if_pos c2]; exact Ev.now _
  ·rw [if_neg c2, if_neg c2]; exact Ev.now _
 ·rw [if_neg c]
  exact Ev.neg c (Ev.now _)
open Classical in
noncomputable def exR (ps : List (List Int)) (bs : List S123) (a : Int) : List ByteArray × Int := if weaveOk ps bs = true then (if isV ps a = true then (linesL bs (placesL (pS ps [a]) bs 0), 0) else ([], 2)) else ([], 1)
theorem impl_Extract_ev (ps : List (List Int)) (bs : List S123) (hf : Fine ps bs) (a : Int) : Ev (fun k => impl_Extract.f k ps bs a) (exR ps bs a) := by
 simp only [impl_Extract.f]
 have hb := hf.2.2.1
 unfold exR
 refine Ev.bnd (impl_versionsCode_ev ps bs [a] hf (by simp)) ?_
 unfold vCode
 by_cases c : weaveOk ps bs = true
 ·rw [if_pos c, if_pos c]
  by_cases c1 : isV ps a = true
  ·rw [if_pos c1, if_pos (by simpa using c1)]
   obtain ⟨hg, h3⟩ := weaveOk_graph c
   obtain ⟨u, rfl, hu⟩ := isV_nat c1
   have hd := graphOk_down hg
   have hn := graphOk_len hg
   obtain ⟨x, hx1, hxl, hw, hc⟩ := impl_closures_ev ps hd (by omega) (rows4 hg)
   have hl := placesL_length (pS ps [(u : Int)]) bs 0
   have hA : Ev (fun k => impl_Weave_extract.f k ps bs (u : Int)) (linesL bs (placesL (pS ps [(u : Int)]) bs 0)) := by
    simp only [impl_Weave_extract.f]
    have hv := impl_liveIn_ev ps bs (wd x u) (wd_lt hw (by omega)) hb (fun b hb => (hf.2.2.2 b hb).2)
    rw [clo_bits ps bs hg hf h3 x hxl hw hc u hu, ← wd_cast hw (show u < x.length by omega)] at hv
    exact Ev.bnd hx1 (Ev.pos (by omega) (Ev.pos (by omega) (Ev.bnd hv (Ev.bnd (impl_linesAt_ev ps bs _ (by omega) (placesL_in (pS ps [(u : Int)]) bs)) (Ev.now _)))))
   exact Ev.pos (by first | rfl | trivial) (Ev.bnd hA (Ev.now _))
  ·rw [if_neg c1, if_neg (by simpa using c1)]
   exact Ev.neg (by decide) (Ev.now _)
 ·rw [if_neg c, if_neg c]
  exact Ev.neg (by decide) (Ev.now _)
def lcsLen (a b : List ByteArray) : Int := if linesOk 300 a = true ∧ linesOk 300 b = true then (lcs a b : Int) else 0
theorem TT_00 (a b : List ByteArray) : TT a b 0 0 = lcs a b := by simp [TT]
theorem spec_LcsLen_ev (a b : List ByteArray) (ha : Sized a) (hb : Sized b) : Ev (fun k => spec_LcsLen.f k a b) (lcsLen a b) := by
 simp only [spec_LcsLen.f]
 refine Ev.bnd (spec_l04Ok_ev a ha) ?_
 by_cases h1 : linesOk 300 a = true
 ·refine Ev.pos h1 (Ev.bnd (spec_l04Ok_ev b hb) ?_)
  by_cases h2 : linesOk 300 b = true
  ·have l1 := linesOk_len h1
   have l2 := linesOk_len h2
   obtain ⟨x, hx, ht⟩ := spec_l04Table_ev a b (by omega) (by omega)
   have hl := tab_len ht 0 (by omega)
   have hv := tab_at ht 0 0 (by omega) (by omega)
   have hxl := ht.1
   refine Ev.pos h2 (Ev.bnd hx (Ev.pos (by omega) (Ev.pos ?_ (Ev.some_ ?_))))
   ·have : (rd_L2 x 0).length = b.length + 1 := hl
    omega
   ·rw [lcsLen, if_pos ⟨h1, h2⟩, ← TT_00]
    exact hv
  ·exact Ev.neg h2 (Ev.some_ (by rw [lcsLen, if_neg (fun h => h2 h.2)]))
 ·exact Ev.neg h1 (Ev.some_ (by rw [lcsLen, if_neg (fun h => h1 h.1)]))
theorem laws_sameTexts_refl (l : List ByteArray) (hl : l.length ≤ 140737488351232) : Ev (fun k => laws_sameTexts.f k l l) true := by
 simp only [laws_sameTexts.f]
 refine Ev.pos (by first | rfl | trivial) ?_
 have key : ∀ (n i : Nat), i + n = l.length → Ev (fun k => laws_sameTexts.l0 k l l (i : Int)) true := by
  intro n
  induction n with
  | zero =>
   intro i hi
   refine Ev.succ ?_
   simp only [laws_sameTexts.l0]
   exact Ev.neg (by omega) (Ev.now _)
  | succ n ih =>
   intro i hi
   refine Ev.succ ?_
   simp only [laws_sameTexts.l0]
   have e : wrap64 ((i : Int) + 1) = ((i + 1 : Nat) : Int) := by rw [w64 (by omega) (by omega)]; omega
   rw [e]
   exact Ev.pos (by omega) (Ev.pos (by omega) (Ev.pos (by omega) (Ev.pos (by first | rfl | trivial) (ih (i + 1) (by omega)))))
 exact key l.length 0 (by omega)
theorem laws_big_eq (l : List Int) : laws_big.f l = some (decide ((l.length : Int) > 1048576)) := rfl
theorem linesT_rd (T : List (List ByteArray)) (v : Nat) (h : v < T.length) : rd_L7 T (v : Int) = T[v] := by
 unfold rd_L7
 exact rdOf_nat _ T v h
theorem text_ev {ps : List (List Int)} {bs : List S123} (hw : weaveOk ps bs = true) (v : Nat) (_ : v < ps.length) : Ev (fun k => spec_l06Text.f k ps bs (v : Int)) (textAt ps bs v) := by
 have hf := weaveOk_fine hw
 obtain ⟨hg, h3⟩ := weaveOk_graph hw
 have hn := graphOk_len hg
 obtain ⟨r, hr, hrl, hre⟩ := spec_closure_ev ps bs hg hf h3 v
 have hpl := placesL_length (pS ps [(v : Int)]) bs 0
 simp only [spec_l06Text.f]
 have h1 := spec_l06Places_ev ps bs r (by omega) (fun b hb => (hf.2.2.2 b hb).2) (by omega)
 rw [hre] at h1
 rw [← textAt_eq]
 exact Ev.bnd hr (Ev.bnd h1 (Ev.bnd (spec_l06Lines_ev ps bs _ (by omega) (placesL_in _ _)) (Ev.now _)))
theorem spec_l06Size_eq (l : List Int) (hl : l.length ≤ 140737488351232) : ∃ t, spec_l06Size.f l = some t ∧ 1 ≤ t ∧ t ≤ 12 := by
 simp only [spec_l06Size.f]
 have h0 : 0 ≤ (l.length : Int) / 25 := by omega
 have h1 : (l.length : Int) / 25 ≤ l.length := by omega
 rw [w64 (n := (l.length : Int) / 25) (by omega) (by omega), w64 (by omega) (by omega)]
 split
 ·exact ⟨12, rfl, by omega, by omega⟩
 ·exact ⟨_, rfl, by omega, by omega⟩
theorem spec_DrawChain_ev (s : List Int) (hs : s.length ≤ 140737488351232) : ∃ l ps bs, Ev (fun k => spec_DrawChain.f k s) (ps, l.map (·.2)) ∧ Steps l [] [] ps bs ∧ 0 < ps.length := by
 simp only [spec_DrawChain.f]
 obtain ⟨h, e0⟩ := spec_l01New_ev s
 obtain ⟨t, et, t1, t2⟩ := spec_l06Size_eq s hs
 obtain ⟨v, i1, h1, e1, v0, v1, hi1⟩ := spec_l01Below_eq s 0 h t (by omega) hs t1 (by omega)
 obtain ⟨n, rfl⟩ := Int.eq_ofNat_of_zero_le v0
 obtain ⟨l, ps, bs, i2, h2, e2, hst, hpn, hp0, hi2⟩ := spec_l06Right_ev s i1 h1 (n + 1) hi1 hs (by omega)
 obtain ⟨hw, hps, _, htx⟩ := hst.ok weaveOk_none
 have hll : l.length = ps.length := by rw [hps]; simp
 have hn := graphOk_len (weaveOk_graph hw).1
 have key : ∀ (m v : Nat), v + m = ps.length → Ev (fun k => spec_DrawChain.l0 k ((l.map (·.2)).take v) (v : Int) ps bs) (ps, l.map (·.2)) := by
  intro m
  induction m with
  | zero =>
   intro v hv
   refine Ev.succ ?_
   simp only [spec_DrawChain.l0]
   refine Ev.neg (by omega) (Ev.some_ ?_)
   rw [List.take_of_length_le (by rw [List.length_map]; omega)]
  | succ m ih =>
   intro v hv
   have hvl : v < (l.map (·.2)).length := by rw [List.length_map]; omega
   have h1 := htx v (by omega)
   rw [List.length_nil, Nat.zero_add] at h1
   refine Ev.succ ?_
   simp only [spec_DrawChain.l0]
   refine Ev.pos (by omega) (Ev.bnd (text_ev hw v (by omega)) (Ev.pos (by rw [List.length_take]; omega) ?_))
   rw [up1 v (by omega), h1, show (l[v]'(by omega)).2 = (l.map (·.2))[v] by rw [List.getElem_map], List.take_append_getElem hvl]
   exact ih (v + 1) (by omega)
 refine ⟨l, ps, bs, ?_, hst, hp0 (by omega)⟩
 have hwn : wrap64 (1 + (n : Int)) = ((n + 1 : Nat) : Int) := by rw [w64 (by omega) (by omega)]; omega
 refine Ev.bnd e0 (Ev.bnd0 et (Ev.bnd0 e1 ?_))
 simp only [hwn]
 refine Ev.bnd e2 ?_
 have := key ps.length 0 (by omega)
 rwa [List.take_zero] at this
theorem top_l1 {ps : List (List Int)} {bs : List S123} (T : List (List ByteArray)) (hw : weaveOk ps bs = true) (hT : T.length = ps.length) (h0 : 0 < ps.length) (htx : ∀ (v : Nat) (h : v < T.length), textAt ps bs v = T[v]) :
  ∀ m v : Nat, v + m = T.length → Ev (fun k => laws_FnTop.l1 k T (bs.length : Int) (v : Int) ps bs) true := by
 have hf := weaveOk_fine hw
 have hn := graphOk_len (weaveOk_graph hw).1
 have h3 := (weaveOk_graph hw).2
 intro m
 induction m with
 | zero =>
  intro v hv
  refine Ev.succ ?_
  simp only [laws_FnTop.l1]
  refine Ev.neg (by omega) (Ev.bnd (impl_WeaveOk_ev ps bs hf) (Ev.pos hw (Ev.pos (by first | rfl | trivial) (Ev.pos (by omega) (Ev.some_ ?_)))))
  simp
  omega
 | succ m ih =>
  intro v hv
  have hx : exR ps bs (v : Int) = (T[v]'(by omega), 0) := by
   unfold exR
   rw [if_pos hw, if_pos (by simp [isV]; omega), textAt_eq, htx v (by omega)]
  have hlen : (T[v]'(by omega)).length ≤ 300 := by
   rw [← htx v (by omega)]
   unfold textAt
   rw [List.length_map]
   exact Nat.le_trans (List.length_filter_le _ _) h3
  refine Ev.succ ?_
  simp only [laws_FnTop.l1]
  refine Ev.pos (by omega) (Ev.bnd (impl_Extract_ev ps bs hf _) ?_)
  rw [hx]
  simp only
  rw [linesT_rd T v (by omega), up1 v (by omega)]
  exact Ev.pos (by first | rfl | trivial) (Ev.pos (by omega) (Ev.bnd (laws_sameTexts_refl _ (by omega)) (Ev.pos (by first | rfl | trivial) (ih (v + 1) (by omega)))))
theorem drop_at {α : Type} (l : List α) (v : Nat) (x : α) (r : List α) (h : l.drop v = x :: r) : ∃ hv : v < l.length, l[v] = x ∧ l.drop (v + 1) = r := by
 have hv : v < l.length := by
  have := congrArg List.length h
  rw [List.length_drop, List.length_cons] at this
  omega
 rw [List.drop_eq_getElem_cons hv] at h
 injection h with h1 h2
 exact ⟨hv, h1, h2⟩
theorem top_l0 (P : List (List Int)) (T : List (List ByteArray)) (psF : List (List Int)) (bsF : List S123) (hfin : Ev (fun k => laws_FnTop.l1 k T (bsF.length : Int) 0 psF bsF) true) : ∀ (l : List (List Int × List ByteArray)) (ps : List (List Int)) (bs : List S123),
  Steps l ps bs psF bsF → weaveOk ps bs = true → P.drop ps.length = l.map (·.1) → T.drop ps.length = l.map (·.2) → Ev (fun k => laws_FnTop.l0 k P T (bs.length : Int) (ps.length : Int) ps bs) true := by
 intro l ps bs h
 induction h with
 | nil ps bs =>
  intro hw hP hT
  have hl := congrArg List.length hT
  rw [List.length_drop] at hl
  simp at hl
  refine Ev.succ ?_
  simp only [laws_FnTop.l0]
  exact Ev.neg (by omega) hfin
 | @cons l ps bs psF bsF p t hm hst ih =>
  intro hw hP hT
  obtain ⟨m1, m2, m3, m4, m5⟩ := hm
  have hf := weaveOk_fine hw
  have hn := graphOk_len (weaveOk_graph hw).1
  have h3 := (weaveOk_graph hw).2
  obtain ⟨vp, p1, p2⟩ := drop_at P ps.length p _ hP
  obtain ⟨vt, t1, t2⟩ := drop_at T ps.length t _ hT
  have hl80 := linesOk_len m3
  have ho300 : linesOk 300 t = true := by
   rw [linesOk, Bool.and_eq_true, decide_eq_true_eq] at m3 ⊢
   exact ⟨by omega, m3.2⟩
  obtain ⟨_, _, hll, hla⟩ := spec_seen_ev hw p (by omega)
  have hall : p.all (isV ps) = true := List.all_eq_true.2 (fun x hx => by
   have := asc_bound _ _ _ m2 x hx
   simp [isV]
   omega)
  have hseen : seenR ps bs p = linesL bs (placesL (pS ps p) bs 0) := by
   unfold seenR
   rw [if_pos ⟨hw, hall⟩]
  have hso : linesOk 300 (linesL bs (placesL (pS ps p) bs 0)) = true := linesOk_of 300 hla (by omega)
  have hadd : addR ps bs p t = (ps ++ [p], addT ps bs p t, (ps.length : Int), 0) := by
   unfold addR
   rw [if_pos hw, if_pos ⟨m1, m2⟩, if_pos m3, if_neg m4, if_neg (by omega)]
  have hc := add_count ps bs p t hf hw m1 m2 m3
  have hlc : lcsLen (linesL bs (placesL (pS ps p) bs 0)) t = (lcs (linesL bs (placesL (pS ps p) bs 0)) t : Int) := by rw [lcsLen, if_pos ⟨hso, ho300⟩]
  have hsum : wrap64 (wrap64 ((bs.length : Int) + (t.length : Int)) - (lcs (linesL bs (placesL (pS ps p) bs 0)) t : Int)) = ((addT ps bs p t).length : Int) := by
   rw [w64 (n := (bs.length : Int) + (t.length : Int)) (by omega) (by omega), w64 (by omega) (by omega)]
   omega
  refine Ev.succ ?_
  simp only [laws_FnTop.l0]
  rw [rdL_nat P ps.length vp, linesT_rd T ps.length vt, p1, t1, up1 ps.length (by omega)]
  refine Ev.pos (by omega) (Ev.pos (by omega) (Ev.pos (by omega) (Ev.bnd (impl_SeenBy_ev ps bs hf p (by omega)) ?_)))
  rw [hseen]
  refine Ev.bnd (spec_LcsLen_ev _ _ (allOk_sized0 hso) (allOk_sized0 ho300)) ?_
  rw [hlc]
  refine Ev.bnd (impl_AddVersion_ev ps bs p t hf (by omega) (allOk_sized0 ho300)) ?_
  rw [hadd, hsum]
  have hp1 : (ps ++ [p]).length = ps.length + 1 := by simp
  have := ih hfin (add_ok ps bs p t hf hw m1 m2 m3 m4 m5) (by rw [hp1]; exact p2) (by rw [hp1]; exact t2)
  rw [hp1] at this
  exact Ev.pos (by first | rfl | trivial) (Ev.pos (by first | rfl | trivial) this)
theorem FnTop : laws_FnTop.Pure := by
 intro s hs
 refine Ev.rounds (r := true) ?_
 simp only [laws_FnTop.f]
 refine Ev.bnd0 (laws_big_eq s) ?_
 by_cases hb : decide ((s.length : Int) > 1048576) = true
 ·exact Ev.pos hb (Ev.now _)
 refine Ev.neg hb ?_
 obtain ⟨l, ps, bs, hd, hst, h0⟩ := spec_DrawChain_ev s (by omega)
 obtain ⟨hw, hps, _, htx⟩ := hst.ok weaveOk_none
 have hll : l.length = ps.length := by rw [hps]; simp
 refine Ev.bnd hd ?_
 have hfin := top_l1 (l.map (·.2)) hw (by rw [List.length_map]; exact hll) h0 (fun v h => by
  have := htx v (by rw [List.length_map] at h; exact h)
  rw [List.length_nil, Nat.zero_add] at this
  rw [this, List.getElem_map]) (l.map (·.2)).length 0 (by omega)
 exact top_l0 ps (l.map (·.2)) ps bs hfin l [] [] hst weaveOk_none (by rw [List.length_nil, List.drop_zero, hps]; simp) (by simp)

end Go.Proofs.Ytmodgiingohphaa.Pure
