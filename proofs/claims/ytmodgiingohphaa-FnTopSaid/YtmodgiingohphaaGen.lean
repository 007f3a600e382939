/- General lemmas on numbers, lists and rounds, and the plain functions (sums, numbers in bytes) that several laws speak of. -/
import Derived.Test.YtmodgiingohphaaWMore
import Derived.Laws.BitsLemmas
import Derived.Lib.Bytealg
namespace Go.Proofs.YtmodgiingohphaaG
open Go Go.RowKit Go.Proofs.YtmodgiingohphaaW.PrintWords Go.Proofs.YtmodgiingohphaaW.PrintLast Go.Proofs.YtmodgiingohphaaW.PrintMore

theorem w64 {n : Int} (h0 : -9223372036854775808 ≤ n) (h1 : n ≤ 9223372036854775807) : wrap64 n = n := by unfold wrap64; omega

theorem drop_rd (l : List Int) (i : Nat) (h : i < l.length) : l.drop i = rd l (i : Int) :: l.drop (i + 1) := by
 rw [List.drop_eq_getElem_cons h]
 simp [rd, List.getD, List.getElem?_eq_getElem h]
theorem drop_bt (s : ByteArray) (i : Nat) (h : i < s.size) : (bytesOf s).drop i = bt s (i : Int) :: (bytesOf s).drop (i + 1) := by
 rw [drop_rd _ _ (by rw [bytesOf_length]; exact h), rd_bytesOf]
def cbit (x : Int) : Int := if x % 2 = 1 then Go.bits .xor .u32 (x / 2) 3558460437 else x / 2
def cbits : Nat → Int → Int
 | 0, x => x
 | n + 1, x => cbits n (cbit x)
def cbyte (x b : Int) : Int := cbits 8 (Go.bits .xor .u32 x b)
def crcL : Int → List Int → Int
 | x, [] => x
 | x, b :: l => crcL (cbyte x b) l
def crc (x : Int) (s : ByteArray) : Int := crcL x (bytesOf s)

def In32 (x : Int) : Prop := 0 ≤ x ∧ x < 4294967296
theorem Ev.same {α : Type} {g f : Nat → Option α} {r : α} (k : Ev f r) (h : ∀ k, g k = f k) : Ev g r := Ev.congr h k
theorem Ev.up {α : Type} {g f : Nat → Option α} {r : α} (k : Ev f r) (h : ∀ k, g (k + 1) = f k) : Ev g r := Ev.step h k
theorem Ev_eq {α : Type} {g : Nat → Option α} {r q : α} (h : Ev g r) (e : r = q) : Ev g q := e ▸ h

theorem Ev.succ {α : Type} {g : Nat → Option α} {r : α} (h : Ev (fun k => g (k + 1)) r) : Ev g r := Ev.step (fun _ => rfl) h
theorem Ev.pos {α : Type} {c : Prop} [Decidable c] {f g : Nat → Option α} {r : α} (hc : c) (h : Ev f r) : Ev (fun k => if c then f k else g k) r := by
 simp only [if_pos hc]; exact h
theorem Ev.neg {α : Type} {c : Prop} [Decidable c] {f g : Nat → Option α} {r : α} (hc : ¬ c) (h : Ev g r) : Ev (fun k => if c then f k else g k) r := by
 simp only [if_neg hc]; exact h
theorem Ev.bnd {α β : Type} {g : Nat → Option α} {f : Nat → α → Option β} {a : α} {r : β} (h : Ev g a) (k : Ev (fun n => f n a) r) : Ev (fun n => (g n).bind (f n)) r := Ev.bind h k
theorem Ev.bnd0 {α β : Type} {g : Option α} {f : Nat → α → Option β} {a : α} {r : β} (h : g = some a) (k : Ev (fun n => f n a) r) : Ev (fun n => g.bind (f n)) r := by
 subst h; exact k
theorem Ev.some_ {α : Type} {r q : α} (h : r = q) : Ev (fun _ => some r) q := h ▸ Ev.now r

def IsByte (n : Int) : Prop := 0 ≤ n ∧ n ≤ 255
theorem toList_data (s : ByteArray) : s.toList = s.data.toList := ByteArray.toList_eq s
theorem data_inj {a b : ByteArray} (h : a.data.toList = b.data.toList) : a = b := by
 cases a; cases b; simp at h; subst h; rfl
theorem toList_iff (a b : ByteArray) : a.toList = b.toList ↔ a = b := by
 rw [toList_data, toList_data]
 exact ⟨data_inj, fun h => h ▸ rfl⟩
theorem size_append (a b : ByteArray) : (a ++ b).size = a.size + b.size := ByteArray.size_append
def varF : Nat → Int → List Int
 | 0, n => [n % 256]
 | f + 1, n => if n > 127 then (n % 128 + 128) :: varF f (n / 128) else [n % 256]
def varL (n : Int) : List Int := varF 9 n
def varB (n : Int) : ByteArray := strOfNums (varL n)
def Fits : Nat → Int → Prop
 | 0, n => n < 128
 | f + 1, n => Fits f (n / 128)
def markL {α : Type} (f : Int → α) (m : Int) (n : Nat) : List α := (List.range n).map fun i => f (m + (i : Nat))
theorem rd_nat (l : List Int) (i : Nat) (h : i < l.length) : rd l (i : Int) = l[i] := by
 simp [rd, List.getD, List.getElem?_eq_getElem h]

theorem or64 (a b : Nat) (ha : a < 2 ^ 64) (hb : b < 2 ^ 64) : Go.bits .or .u64 (a : Int) (b : Int) = ((a ||| b : Nat) : Int) :=
 (bits_nat .u64 64 (by decide) (fun n h0 h1 => by simp [IntKind.wrap, IntKind.bits, IntKind.signed]; omega) a b ha hb).2
theorem and64 (a b : Nat) (ha : a < 2 ^ 64) (hb : b < 2 ^ 64) : Go.bits .and .u64 (a : Int) (b : Int) = ((a &&& b : Nat) : Int) :=
 (bits_nat .u64 64 (by decide) (fun n h0 h1 => by simp [IntKind.wrap, IntKind.bits, IntKind.signed]; omega) a b ha hb).1
theorem shl64_one (v : Nat) (h : v < 64) : shl .u64 1 (v : Int) = ((2 ^ v : Nat) : Int) := by
 unfold shl
 have e : min ((v : Int)).toNat IntKind.u64.bits = v := by simp [IntKind.bits]; omega
 have hp : 2 ^ v < 2 ^ 64 := Nat.pow_lt_pow_right (by decide) h
 rw [e, Int.one_mul]
 have : ((2 : Int) ^ v) = ((2 ^ v : Nat) : Int) := by simp
 rw [this]
 generalize (2 ^ v : Nat) = q at hp ⊢
 simp [IntKind.wrap, IntKind.bits, IntKind.signed]
 omega
theorem wrapu64 (n : Int) (h0 : 0 ≤ n) (h1 : n < 18446744073709551616) : IntKind.u64.wrap n = n := by
 simp [IntKind.wrap, IntKind.bits, IntKind.signed]; omega
def bitsN : List Int → Nat
 | [] => 0
 | v :: l => 2 ^ v.toNat ||| bitsN l
def orAll (s : Nat) : List Int → Nat
 | [] => s
 | v :: l => orAll (s ||| 2 ^ v.toNat) l
theorem or_lt {a b n : Nat} (ha : a < 2 ^ n) (hb : b < 2 ^ n) : a ||| b < 2 ^ n := Nat.or_lt_two_pow ha hb
theorem two_pow_lt {v n : Nat} (h : v < n) : 2 ^ v < 2 ^ n := Nat.pow_lt_pow_right (by decide) h

theorem rdOf_nat {α : Type} (d : α) (l : List α) (i : Nat) (h : i < l.length) : rdOf d l (i : Int) = l[i] := by
 simp [rdOf, List.getD, List.getElem?_eq_getElem h]
theorem rdOf_mem {α : Type} (d : α) (l : List α) (i : Nat) (h : i < l.length) : rdOf d l (i : Int) ∈ l := by
 rw [rdOf_nat d l i h]; exact List.getElem_mem h
theorem drop_rdOf {α : Type} (d : α) (l : List α) (i : Nat) (h : i < l.length) : l.drop i = rdOf d l (i : Int) :: l.drop (i + 1) := by
 rw [List.drop_eq_getElem_cons h, rdOf_nat d l i h]
theorem rd_mem (l : List Int) (i : Nat) (h : i < l.length) : rd l (i : Int) ∈ l := by
 rw [rd_nat l i h]; exact List.getElem_mem h
theorem drop_end {α : Type} (l : List α) (i : Nat) (h : l.length ≤ i) : l.drop i = [] := List.drop_eq_nil_iff.2 h
theorem up1 (i : Nat) (h : i < 9223372036854775807) : wrap64 ((i : Int) + 1) = ((i + 1 : Nat) : Int) := by
 rw [w64 (by omega) (by omega)]; omega

def lineOk (s : ByteArray) : Bool := decide ((10 : Int) ∉ bytesOf s ∧ s.size ≤ 60)
def allOk (l : List ByteArray) : Bool := l.all lineOk
def linesOk (m : Int) (l : List ByteArray) : Bool := decide ((l.length : Int) ≤ m) && allOk l
theorem lineOk_size {s : ByteArray} (h : lineOk s = true) : s.size ≤ 60 := by
 simp only [lineOk, decide_eq_true_eq] at h
 exact h.2
def Sized (l : List ByteArray) : Prop := l.length ≤ 140737488351232 ∧ ∀ x ∈ l, x.size ≤ 140737488351232
theorem indexByte_mem (c : UInt8) : ∀ l : List UInt8, (0 ≤ Lib.indexByte l c) ↔ c ∈ l
 | [] => by simp [Lib.indexByte]
 | b :: l => by
  have ih := indexByte_mem c l
  have hge := Lib.indexByte_ge l c
  simp only [Lib.indexByte, List.mem_cons]
  by_cases h : b = c
  ·simp [h]
  ·have h' : (b == c) = false := by simpa using h
   rw [h']
   simp only [Bool.false_eq_true, if_false]
   by_cases h2 : Lib.indexByte l c = -1
   ·have h3 : (Lib.indexByte l c == -1) = true := by simpa using h2
    rw [h3]
    simp only [if_true]
    constructor
    ·intro h; omega
    ·intro h4
     rcases h4 with h4 | h4
     ·exact absurd h4.symm h
     ·have := ih.2 h4; omega
   ·have h3 : (Lib.indexByte l c == -1) = false := by simpa using h2
    rw [h3]
    simp only [Bool.false_eq_true, if_false]
    constructor
    ·intro _; exact .inr (ih.1 (by omega))
    ·intro _; omega
theorem byte_mem (s : ByteArray) (c : UInt8) : c ∈ s.data.toList ↔ (c.toNat : Int) ∈ bytesOf s := by
 simp only [bytesOf, List.mem_map]
 constructor
 ·intro h; exact ⟨c, h, rfl⟩
 ·rintro ⟨b, hb, he⟩
  have : b = c := by apply UInt8.toNat_inj.1; omega
  exact this ▸ hb

end Go.Proofs.YtmodgiingohphaaG
