/- The longest common part of two lists: the plain mathematics (no program): how long it is, the walk that pairs, the edits. -/
namespace Go.Proofs.YtmodgiingohphaaL
section
variable {α : Type} [DecidableEq α]

def lcs : List α → List α → Nat
 | [], _ => 0
 | _ :: _, [] => 0
 | x :: a, y :: b => if x = y then lcs a b + 1 else max (lcs a (y :: b)) (lcs (x :: a) b)
termination_by a b => a.length + b.length

theorem lcs_nil_left (b : List α) : lcs ([] : List α) b = 0 := by simp [lcs]
theorem lcs_nil_right (a : List α) : lcs a ([] : List α) = 0 := by cases a <;> simp [lcs]
theorem lcs_cons (x y : α) (a b : List α) : lcs (x :: a) (y :: b) = if x = y then lcs a b + 1 else max (lcs a (y :: b)) (lcs (x :: a) b) := by
 rw [lcs]
theorem lcs_le_left : ∀ (a b : List α), lcs a b ≤ a.length
 | [], b => by simp [lcs]
 | x :: a, [] => by simp [lcs]
 | x :: a, y :: b => by
  rw [lcs_cons]
  have h1 := lcs_le_left a b
  have h2 := lcs_le_left a (y :: b)
  have h3 := lcs_le_left (x :: a) b
  simp only [List.length_cons] at *
  split <;> omega
termination_by a b => a.length + b.length
theorem lcs_comm : ∀ (a b : List α), lcs a b = lcs b a
 | [], b => by rw [lcs_nil_left, lcs_nil_right]
 | x :: a, [] => by rw [lcs_nil_left, lcs_nil_right]
 | x :: a, y :: b => by
  rw [lcs_cons, lcs_cons, lcs_comm a b, lcs_comm a (y :: b), lcs_comm (x :: a) b]
  by_cases h : x = y
  ·rw [if_pos h, if_pos h.symm]
  ·rw [if_neg h, if_neg (fun e => h e.symm), Nat.max_comm]
termination_by a b => a.length + b.length
theorem lcs_le_right (a b : List α) : lcs a b ≤ b.length := by rw [lcs_comm]; exact lcs_le_left b a
theorem lcs_cons_le : ∀ (a b : List α) (x : α), lcs (x :: a) b ≤ lcs a b + 1
 | a, [], x => by simp [lcs_nil_right]
 | [], y :: b, x => by
  have := lcs_le_left [x] (y :: b)
  simp at this
  omega
 | z :: a, y :: b, x => by
  have h1 := lcs_cons_le (z :: a) b x
  have mono : lcs (z :: a) b ≤ lcs (z :: a) (y :: b) := by
   rw [lcs_cons]
   split
   ·have := lcs_cons_le a b z
    omega
   ·omega
  rw [lcs_cons]
  split <;> omega
termination_by a b => a.length + b.length
theorem lcs_mono_left (a b : List α) (x : α) : lcs a b ≤ lcs (x :: a) b := by
 cases b with
 | nil => simp [lcs_nil_right]
 | cons y b =>
  rw [lcs_cons]
  split
  ·have := lcs_cons_le b a y
   rw [lcs_comm b a, lcs_comm (y :: b) a] at this
   exact this
  ·omega
theorem lcs_mono_right (a b : List α) (y : α) : lcs a b ≤ lcs a (y :: b) := by
 rw [lcs_comm a b, lcs_comm a (y :: b)]
 exact lcs_mono_left b a y
theorem lcs_self : ∀ (a : List α), lcs a a = a.length
 | [] => by simp [lcs]
 | x :: a => by rw [lcs_cons, if_pos rfl, lcs_self a]; rfl

def pairs : Nat → List α → List α → List Int
 | _, [], b => List.replicate b.length (-1)
 | _, _ :: _, [] => []
 | i, x :: a, y :: b => if x = y then (i : Int) :: pairs (i + 1) a b else if lcs a (y :: b) ≥ lcs (x :: a) b then pairs (i + 1) a (y :: b) else (-1) :: pairs i (x :: a) b
termination_by _ a b => a.length + b.length
theorem pairs_nil (i : Nat) (b : List α) : pairs i [] b = List.replicate b.length (-1) := by simp [pairs]
theorem pairs_cons_nil (i : Nat) (x : α) (a : List α) : pairs i (x :: a) [] = [] := by simp [pairs]
theorem pairs_nil_right (i : Nat) (a : List α) : pairs i a [] = [] := by cases a <;> simp [pairs]
theorem pairs_cons (i : Nat) (x y : α) (a b : List α) : pairs i (x :: a) (y :: b) = if x = y then (i : Int) :: pairs (i + 1) a b else if lcs a (y :: b) ≥ lcs (x :: a) b then pairs (i + 1) a (y :: b) else (-1) :: pairs i (x :: a) b := by
 rw [pairs]
theorem pairs_length : ∀ (i : Nat) (a b : List α), (pairs i a b).length = b.length
 | i, [], b => by simp [pairs]
 | i, x :: a, [] => by simp [pairs]
 | i, x :: a, y :: b => by
  rw [pairs_cons]
  split
  ·simp [pairs_length (i + 1) a b]
  ·split
   ·rw [pairs_length (i + 1) a (y :: b)]
   ·simp [pairs_length i (x :: a) b]
termination_by _ a b => a.length + b.length
theorem pairs_count : ∀ (i : Nat) (a b : List α), ((pairs i a b).filter (fun x => decide (x ≠ -1))).length = lcs a b
 | i, [], b => by simp [pairs, lcs]
 | i, x :: a, [] => by simp [pairs, lcs]
 | i, x :: a, y :: b => by
  rw [pairs_cons, lcs_cons]
  by_cases h : x = y
  ·rw [if_pos h, if_pos h, List.filter_cons, if_pos (by simp), List.length_cons, pairs_count (i + 1) a b]
  ·rw [if_neg h, if_neg h]
   by_cases h2 : lcs a (y :: b) ≥ lcs (x :: a) b
   ·rw [if_pos h2, pairs_count (i + 1) a (y :: b)]
    omega
   ·rw [if_neg h2, List.filter_cons, if_neg (by simp), pairs_count i (x :: a) b]
    omega
termination_by _ a b => a.length + b.length
end
end Go.Proofs.YtmodgiingohphaaL
