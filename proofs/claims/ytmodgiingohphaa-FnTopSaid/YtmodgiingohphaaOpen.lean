/- Opening what came in, for every kind of value: from a row's reading of an argument to what a printed contract asks of memory. -/
import Derived.Test.YtmodgiingohphaaWMore
import Derived.ChangeArms
import Derived.SizedLaws
import Derived.DataElems
import Derived.ChangeSlices
namespace Go.Proofs.YtmodgiingohphaaO
open Go Go.ChangeShapes Go.RowKit Go.Proofs.YtmodgiingohphaaW.PrintWords Go.Proofs.YtmodgiingohphaaW.PrintLast Go.Proofs.YtmodgiingohphaaW.PrintMore

def Opens (P : Program) {α : Type} (d : Kd α) (t : TypeId) (G : α → Prop) : Prop :=
 P.cellsOf t = d.sz ∧ ∀ (H : Type) (enc : TypeId × Value → H) (w : World) (base : Nat) (spare : Nat → Bool) (held : Bool) (fuel : Nat) (cs : List Value) (x : DataW H × List MemPlace),
  DataW.trod enc P w base spare held fuel t cs = some x → (∀ n ∈ x.1.weights P t, n ≤ reachBytes) → ∃ a : α, d.K w a cs ∧ G a

section
variable {P : Program}
theorem opens_int {t : TypeId} {k : IntKind} (ht : P.underlying t = some (.int k)) (hc : P.cellsOf t = 1) : Opens P (Kd.int k) t (fun n => (Lit.int k n).wf = true) :=
 ⟨hc, fun H enc w base spare held fuel cs x h _ => by
  obtain ⟨n, rfl, _, hw⟩ := DataW.trod_int ht h
  exact ⟨n, rfl, hw⟩⟩
theorem weights_all {H : Type} {e : TypeId} {d : DataW H} {n : Nat} (hn : n ∈ d.weights P e) : ∀ {l : List (DataW H)}, d ∈ l → n ∈ DataW.weightsAll P e l
 | d0 :: l, h => by
  simp only [DataW.weightsAll, List.mem_append]
  rcases List.mem_cons.1 h with rfl | h
  ·exact .inl hn
  ·exact .inr (weights_all hn h)
theorem list_of {α : Type} {p : Nat → α → Prop} : ∀ n : Nat, (∀ i, i < n → ∃ x, p i x) → ∃ l : List α, l.length = n ∧ ∀ i x, l[i]? = some x → p i x
 | 0, _ => ⟨[], rfl, fun i x h => by simp at h⟩
 | n + 1, h => by
  obtain ⟨l, hl, hp⟩ := list_of n (fun i hi => h i (by omega))
  obtain ⟨x, hx⟩ := h n (by omega)
  refine ⟨l ++ [x], by simp [hl], fun i y hy => ?_⟩
  by_cases hi : i < l.length
  ·rw [List.getElem?_append_left hi] at hy
   exact hp i y hy
  ·have hlt := (List.getElem?_eq_some_iff.1 hy).1
   simp only [List.length_append, List.length_singleton] at hlt
   have hin : i = n := by omega
   subst hin
   rw [List.getElem?_append_right (by omega), hl] at hy
   simp at hy
   subst hy
   exact hx
theorem opens_slice {α : Type} {d : Kd α} {t e : TypeId} {G : α → Prop} {B : Nat} (ht : P.underlying t = some (.slice e)) (hc : P.cellsOf t = 1) (hB : P.bytesOf e = B) (he : Opens P d e G) :
  Opens P (Kd.slice e d) t (fun l => l.length * B ≤ 140737488351232 ∧ ∀ x ∈ l, G x) := by
 obtain ⟨hsz, hop⟩ := he
 refine ⟨hc, fun H enc w base spare held fuel cs x h hw => ?_⟩
 rcases DataW.trod_slice ht h with ⟨rfl, rfl⟩ | ⟨a, len, cap, elems, rest, n, rfl, rfl, rfl, hb, hl, hm, hlen, hel, hsp, hns⟩
 ·exact ⟨[], ⟨none, 0, rfl, Nat.le_refl _, rfl, by simp, fun h => absurd h (by simp)⟩, by simp, by simp⟩
 ·have hw0 : ∀ m ∈ DataW.weights P t (.slice (elems.map (·.1)) (rest.map (·.1)) : DataW H), m ≤ reachBytes := hw
  simp only [DataW.weights, ht] at hw0
  have hw1 := hw0 _ (List.mem_cons_self)
  simp only [List.length_map, hB] at hw1
  have each : ∀ i, i < len → ∃ y : α, G y ∧ ∃ c, c.length = d.sz ∧ d.K w y c ∧ ∀ j u, c[j]? = some u → w.cell? (a.add (i * d.sz + j)) = some u := by
   intro i hi
   have h1 := hel i hi
   rw [List.getElem?_eq_getElem (by omega)] at h1
   obtain ⟨c, h2, h3⟩ := Option.bind_eq_some_iff.1 h1
   obtain ⟨y, hy, hg⟩ := hop H enc w base spare held n c _ h3 (fun m hm' => hw0 m (List.mem_cons_of_mem _ (List.mem_append.2 (.inl (weights_all hm' (List.mem_map.2 ⟨_, List.getElem_mem (by omega), rfl⟩))))))
   obtain ⟨_, hcl, hcell⟩ := World.cells?_some h2
   refine ⟨y, hg, c, by rw [hcl, hsz], hy, fun j u hu => ?_⟩
   have hj : j < c.length := (List.getElem?_eq_some_iff.1 hu).1
   have := hcell j (by omega)
   rw [Addr.add_add, hsz] at this
   rw [this, hu]
  obtain ⟨l, hll, hp⟩ := list_of len each
  refine ⟨l, ⟨some a, cap, by rw [hll], by omega, rfl, by unfold maxLen at hm; omega, fun _ => ⟨a, rfl, fun j p hj => (hp j p hj).2⟩⟩, ?_, fun y hy => ?_⟩
  ·rw [hll, ← hlen]
   exact Nat.le_trans (Nat.mul_le_mul_right _ (Nat.le_add_right _ _)) hw1
  ·obtain ⟨j, hj⟩ := List.getElem?_of_mem hy
   exact (hp j y hj).1
def OpensF (P : Program) {α : Type} (d : Kd α) (fs : List Field) (off : Nat) (G : α → Prop) : Prop :=
 ∀ (H : Type) (enc : TypeId × Value → H) (w : World) (base : Nat) (spare : Nat → Bool) (held : Bool) (n : Nat) (cs : List Value) (xs : List (DataW H × List MemPlace)),
  xs.length = fs.length → (∀ (i : Nat) (f : Field), fs[i]? = some f → DataW.trod enc P w base spare held n f.type ((cs.drop f.offset).take (P.cellsOf f.type)) = xs[i]?) →
  (∀ m ∈ DataW.weightsEach P (fs.map (·.type)) (xs.map (·.1)), m ≤ reachBytes) → ∃ a : α, d.K w a ((cs.drop off).take d.sz) ∧ G a
theorem open_arg {α : Type} {d : Kd α} {t : TypeId} {G : α → Prop} (h : Opens P d t G) {H : Type} {enc : TypeId × Value → H} {W : World} {base : Nat} {spare : Nat → Bool} {held : Bool} {v : Value} {x : DataW H} {ps : List MemPlace} {ts : List TypeId} {ds : List (DataW H)} {j : Nat}
  (hsz : (DataW.weightsEach P ts ds).all (· ≤ reachBytes) = true) (ht : ts[j]? = some t) (hd : ds[j]? = some x) (hr : DataW.Trod enc P W base spare held t v x ps) : ∃ a : α, d.K W a v.cells.toList ∧ G a := by
 obtain ⟨fuel, hf⟩ := hr
 exact h.2 H enc W base spare held fuel _ _ hf (fun n hn => by simpa using List.all_eq_true.1 hsz n (DataW.weights_mem_each ht hd n hn))
theorem arg_slice {α : Type} {d : Kd α} {e : Nat} {W : World} {A : Option Addr} {len cap : Nat} {l : List α} (h : (Kd.slice e d).K W l (Value.slice A len cap).cells.toList) : len = l.length ∧ l.length ≤ cap ∧ d.C W A l.length l := by
 obtain ⟨A', c, he, hl, hr⟩ := h
 simp only [Value.cells, List.cons.injEq, Value.slice.injEq, and_true] at he
 obtain ⟨rfl, rfl, rfl⟩ := he
 exact ⟨rfl, hl, hr⟩
end
end Go.Proofs.YtmodgiingohphaaO
namespace Go.Proofs.YtmodgiingohphaaW.PrintWords
open Go
theorem frozen_at {w w' : World} {m : Nat} {a : Addr} {b : Bool} (hq : w.drewN m = w') (h : w.frozen? a = b) : w'.frozen? a = b := by subst hq; exact h
end Go.Proofs.YtmodgiingohphaaW.PrintWords
