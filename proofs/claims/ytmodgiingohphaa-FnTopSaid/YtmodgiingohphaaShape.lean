/- Rows of rows by their lengths alone: what stays told of them while their numbers are written over. -/
import Derived.Test.YtmodgiingohphaaWMore
namespace Go.Proofs.YtmodgiingohphaaH
open Go Go.RowKit Go.Proofs.YtmodgiingohphaaW.PrintWords Go.Proofs.YtmodgiingohphaaW.PrintLast Go.Proofs.YtmodgiingohphaaW.PrintMore

def RowN (t : Nat) (P : Nat → Prop) (w : World) (s : Value) (n : Nat) : Prop :=
 ∃ A c, s = .slice A n c ∧ n ≤ 9223372036854775807 ∧ (0 < n → ∃ g cs, A = some ⟨g, 0, none⟩ ∧ P g ∧ w.heap[g]? = some (.cells cs t (0, 0)) ∧ n ≤ cs.size)
def RowsN (e sz off t : Nat) (P : Nat → Prop) (w : World) (v : Value) (ns : List Nat) : Prop :=
 ∃ A c, v = .slice A ns.length c ∧ ns.length ≤ 9223372036854775807 ∧ (0 < ns.length → ∃ g cs, A = some ⟨g, 0, none⟩ ∧ P g ∧ w.heap[g]? = some (.cells cs e (0, 0)) ∧ ns.length * sz ≤ cs.size ∧ ∀ i n, ns[i]? = some n → ∃ s, cs[i * sz + off]? = some s ∧ RowN t P w s n)
section
variable {e sz off t : Nat} {P P' : Nat → Prop} {w w' : World} {v s : Value} {ns : List Nat} {n : Nat}
theorem RowN.set (h : RowN t P w s n) (g j : Nat) (u : Value) : RowN t P (w.setCell ⟨g, j, none⟩ u) s n := by
 obtain ⟨A, c, hs, hn, h⟩ := h
 refine ⟨A, c, hs, hn, fun h0 => ?_⟩
 obtain ⟨g', cs, hA, hP, hb, hc⟩ := h h0
 by_cases hg : g' = g
 ·subst hg
  exact ⟨g', _, hA, hP, blk_set hb j u, by simpa using hc⟩
 ·exact ⟨g', cs, hA, hP, blk_far hb hg u, hc⟩
theorem RowN.below (h : RowN t P w s n) (hb : Below w.heap.size w w') : RowN t P w' s n := by
 obtain ⟨A, c, hs, hn, h⟩ := h
 refine ⟨A, c, hs, hn, fun h0 => ?_⟩
 obtain ⟨g', cs, hA, hP, hk, hc⟩ := h h0
 exact ⟨g', cs, hA, hP, (hb.block g' (blk_lt hk)).trans hk, hc⟩
theorem RowN.mono (h : RowN t P w s n) (hp : ∀ k, P k → P' k) : RowN t P' w s n := by
 obtain ⟨A, c, hs, hn, h⟩ := h
 exact ⟨A, c, hs, hn, fun h0 => by obtain ⟨g', cs, hA, hP, hk⟩ := h h0; exact ⟨g', cs, hA, hp _ hP, hk⟩⟩
theorem RowsN.below (h : RowsN e sz off t P w v ns) (hb : Below w.heap.size w w') : RowsN e sz off t P w' v ns := by
 obtain ⟨A, c, hv, hn, h⟩ := h
 refine ⟨A, c, hv, hn, fun h0 => ?_⟩
 obtain ⟨g, cs, hA, hP, hk, hc, hr⟩ := h h0
 refine ⟨g, cs, hA, hP, (hb.block g (blk_lt hk)).trans hk, hc, fun i n hi => ?_⟩
 obtain ⟨s, h1, h2⟩ := hr i n hi
 exact ⟨s, h1, h2.below hb⟩
theorem RowsN.mono (h : RowsN e sz off t P w v ns) (hp : ∀ k, P k → P' k) : RowsN e sz off t P' w v ns := by
 obtain ⟨A, c, hv, hn, h⟩ := h
 refine ⟨A, c, hv, hn, fun h0 => ?_⟩
 obtain ⟨g, cs, hA, hP, hk, hc, hr⟩ := h h0
 exact ⟨g, cs, hA, hp _ hP, hk, hc, fun i n hi => by obtain ⟨s, h1, h2⟩ := hr i n hi; exact ⟨s, h1, h2.mono hp⟩⟩
theorem RowsN.set (h : RowsN e sz off t P w v ns) {g j q : Nat} {cs : Array Value} (hg : w.heap[g]? = some (.cells cs q (0, 0))) (hj : q = e → j % sz ≠ off) (ho : off < sz) (u : Value) : RowsN e sz off t P (w.setCell ⟨g, j, none⟩ u) v ns := by
 obtain ⟨A, c, hv, hn, h⟩ := h
 refine ⟨A, c, hv, hn, fun h0 => ?_⟩
 obtain ⟨g', cs', hA, hP, hk, hc, hr⟩ := h h0
 by_cases hgg : g' = g
 ·subst hgg
  rw [hg] at hk
  injection hk with hk
  injection hk with e1 e2 _
  subst e1; subst e2
  refine ⟨g', _, hA, hP, blk_set hg j u, by simpa using hc, fun i n hi => ?_⟩
  obtain ⟨s, h1, h2⟩ := hr i n hi
  refine ⟨s, ?_, h2.set g' j u⟩
  have hne : j ≠ i * sz + off := by
   rintro rfl
   apply hj rfl
   rw [Nat.mul_comm, Nat.mul_add_mod]
   exact Nat.mod_eq_of_lt ho
  rw [Array.getElem?_setIfInBounds_ne hne]
  exact h1
 ·refine ⟨g', cs', hA, hP, blk_far hk hgg u, hc, fun i n hi => ?_⟩
  obtain ⟨s, h1, h2⟩ := hr i n hi
  exact ⟨s, h1, h2.set g j u⟩
theorem RowN.cell {g c : Nat} (h : RowN t P w (.slice (some ⟨g, 0, none⟩) n c) n) {i : Nat} (hi : i < n) : ∃ u, w.cell? ⟨g, i, none⟩ = some u := by
 obtain ⟨A, c, hs, hn, h⟩ := h
 obtain ⟨g', cs, hA, _, hk, hc⟩ := h (by omega)
 injection hs with h1 _ _
 rw [hA] at h1
 injection h1 with h1
 injection h1 with h1
 subst h1
 exact ⟨_, (blk_cell hk i).trans (Array.getElem?_eq_getElem (by omega))⟩
end
def sumN : List Nat → Nat
 | [] => 0
 | n :: l => n + sumN l
theorem RowsN.four {e t g c i : Nat} {P : Nat → Prop} {w : World} {ns : List Nat} (h : RowsN e 4 3 t P w (.slice (some ⟨g, 0, none⟩) ns.length c) ns) (hi : i < ns.length) :
  ∃ u0 u1 u2 s, w.cell? ⟨g, i * 4, none⟩ = some u0 ∧ w.cell? ⟨g, i * 4 + 1, none⟩ = some u1 ∧ w.cell? ⟨g, i * 4 + 2, none⟩ = some u2 ∧ w.cell? ⟨g, i * 4 + 3, none⟩ = some s ∧ RowN t P w s (ns[i]'hi) ∧ (∀ j, w.frozen? ⟨g, j, none⟩ = false) ∧ P g ∧ ∃ cs, w.heap[g]? = some (.cells cs e (0, 0)) := by
 obtain ⟨A, c, hs, hn, h⟩ := h
 obtain ⟨g', cs, hA, hP, hk, hc, hr⟩ := h (by omega)
 injection hs with h1 _ _
 rw [hA] at h1
 injection h1 with h1
 injection h1 with h1
 subst h1
 obtain ⟨s, h1, h2⟩ := hr i (ns[i]'hi) (List.getElem?_eq_getElem hi)
 have cell : ∀ (j : Nat) (hj : j < 4), w.cell? ⟨g, i * 4 + j, none⟩ = some (cs[i * 4 + j]'(by omega)) := fun j hj => (blk_cell hk _).trans (Array.getElem?_eq_getElem (by omega))
 exact ⟨_, _, _, s, cell 0 (by omega), cell 1 (by omega), cell 2 (by omega), (blk_cell hk _).trans h1, h2, fun j => blk_frozen hk j, hP, cs, hk⟩
end Go.Proofs.YtmodgiingohphaaH
