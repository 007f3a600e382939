-- Made by a program (the kit's print with additions of this session: wip/tools/patch_print.py, ext.py).
-- (turned)
import Derived.Lib.Overlaps
import Derived.Lib.JoinLaws
import Derived.Lib.AppendZerosOnto
import Derived.Laws.NewBlocks
import Derived.Shelf.Spec.SlicesInsert
import Derived.Test.YtmodgiingohphaaPFnTopx2
import Derived.Test.YtmodgiingohphaaPFnTopx5
import Derived.Test.YtmodgiingohphaaPFnTopx7
namespace Go.Proofs.Ytmodgiingohphaa.PFnTop
open Go.RowKit Go.Proofs.YtmodgiingohphaaW.PrintWords Go.Proofs.YtmodgiingohphaaW.PrintLast Go.Proofs.YtmodgiingohphaaW.PrintMore
attribute [local go_sem] max2_int min2_int max_two min_two max_three min_three max_four min_four   -- for this text's walks alone
set_option linter.unusedVariables false
set_option linter.unusedSimpArgs false

/-! ### impl_Weave_add: function 72 -/
theorem mulInt (m sz : Nat) : (m + 1) * sz = m * sz + sz := Nat.succ_mul m sz
open Classical in
/-- One element more in a row of the call's own, at i: the row's cells are told anew, the others' blocks are as they were. -/
theorem S_ins {α : Type} {d : Kd α} {e base : Nat} {ok okp : Nat → Prop} {w w1 : World} {v v1 : Value} {xs : List α} (h : Kd.S d e w base (fun k => ok k ∧ ¬ okp k) v xs) (i : Nat) (hi : i ≤ xs.length) (p : α) (pc : List Value) (hpc : pc.length = d.sz) (hp : d.M w1 base okp p pc) (hokp : ∀ k, okp k → ok k ∧ some k ≠ v1.ownBlock)
  (hmove : ∀ k, ok k → ¬ okp k → some k ≠ v.ownBlock → k < w.heap.size → w1.heap[k]? = w.heap[k]? ∧ some k ≠ v1.ownBlock) (hv1 : ∀ k, v1.ownBlock = some k → ok k)
  (hown : ∀ inner, w.ownsRow base e d.sz v xs.length inner → w1.ownsRow base e d.sz v1 (xs.length + 1) (inner.take (i * d.sz) ++ pc ++ inner.drop (i * d.sz))) : Kd.S d e w1 base ok v1 (xs.insertIdx i p) := by
 obtain ⟨f, hok0, inner, ho, hr⟩ := h
 rw [List.length_zipIdx] at ho
 have hil := hr.1
 rw [List.length_zipIdx] at hil
 have hil2 : inner.length = xs.length * d.sz := hil
 have hle : i * d.sz ≤ inner.length := by rw [hil2]; exact Nat.mul_le_mul_right _ hi
 have hlen : (xs.insertIdx i p).length = xs.length + 1 := List.length_insertIdx_of_le_length hi p
 refine ⟨fun k => if okp k then i else if f k < i then f k else f k + 1, hv1, inner.take (i * d.sz) ++ pc ++ inner.drop (i * d.sz), by rw [List.length_zipIdx, hlen]; exact hown inner ho, ?_, ?_⟩
 ·rw [List.length_zipIdx, hlen]
  show _ = (xs.length + 1) * d.sz
  rw [mulInt]
  simp only [List.length_append, List.length_take, List.length_drop]
  omega
 ·intro m q hq
  rw [List.getElem?_zipIdx, Nat.zero_add] at hq
  obtain ⟨y, hy, rfl⟩ := Option.map_eq_some_iff.1 hq
  have hml : m < xs.length + 1 := by have := (List.getElem?_eq_some_iff.1 hy).1; omega
  show d.M w1 base _ y (((inner.take (i * d.sz) ++ pc ++ inner.drop (i * d.sz)).drop (m * d.sz)).take d.sz)
  have old : ∀ j, xs[j]? = some y → (∀ k, f k = j → (if f k < i then f k else f k + 1) = m) → d.M w1 base (fun k => (ok k ∧ some k ≠ v1.ownBlock) ∧ (if okp k then i else if f k < i then f k else f k + 1) = m) y ((inner.drop (j * d.sz)).take d.sz) := by
   intro j hj hf
   have h1 := d.M_bound (hr.2 j (y, j) (Kd.zip_at hj))
   refine d.M_mono (fun k hk => ?_) (d.M_move (w1 := w1) (fun k hk => (hmove k hk.1.1.1.1 hk.1.1.1.2 hk.1.1.2 hk.2.2.1).1) h1)
   exact ⟨⟨hk.1.1.1.1, (hmove k hk.1.1.1.1 hk.1.1.1.2 hk.1.1.2 hk.2.2.1).2⟩, by rw [if_neg hk.1.1.1.2]; exact hf k hk.1.2⟩
  rcases Nat.lt_trichotomy m i with hm | hm | hm
  ·have e1 : m * d.sz + d.sz ≤ i * d.sz := by rw [← mulInt]; exact Nat.mul_le_mul_right _ hm
   have hc : ((inner.take (i * d.sz) ++ pc ++ inner.drop (i * d.sz)).drop (m * d.sz)).take d.sz = (inner.drop (m * d.sz)).take d.sz := by
    rw [List.append_assoc, List.drop_append_of_le_length (by rw [List.length_take]; omega), List.take_append_of_le_length (by rw [List.length_drop, List.length_take]; omega), List.drop_take, List.take_take]
    congr 1
    omega
   rw [hc]
   refine old m ?_ (fun k hk => by rw [if_pos (by omega)]; exact hk)
   rw [List.getElem?_insertIdx_of_lt hm] at hy
   exact hy
  ·subst hm
   have hc : ((inner.take (m * d.sz) ++ pc ++ inner.drop (m * d.sz)).drop (m * d.sz)).take d.sz = pc := by
    have el : (inner.take (m * d.sz)).length = m * d.sz := by rw [List.length_take]; omega
    rw [List.append_assoc, List.drop_append_of_le_length (by omega), List.drop_of_length_le (by omega), List.nil_append, List.take_append_of_le_length (by omega), List.take_of_length_le (by omega)]
   rw [hc]
   have ey : y = p := by
    rw [List.getElem?_insertIdx_self, if_pos hi] at hy
    exact (Option.some.inj hy).symm
   subst ey
   exact d.M_mono (fun k hk => ⟨hokp k hk, if_pos hk⟩) hp
  ·obtain ⟨j, rfl⟩ : ∃ j, m = j + 1 := ⟨m - 1, by omega⟩
   have e1 : i * d.sz ≤ j * d.sz := Nat.mul_le_mul_right _ (by omega)
   have hc : ((inner.take (i * d.sz) ++ pc ++ inner.drop (i * d.sz)).drop ((j + 1) * d.sz)).take d.sz = (inner.drop (j * d.sz)).take d.sz := by
    have el : (inner.take (i * d.sz) ++ pc).length = i * d.sz + d.sz := by rw [List.length_append, List.length_take]; omega
    rw [mulInt, List.drop_append, el, List.drop_of_length_le (by omega), List.nil_append, List.drop_drop]
    congr 2
    omega
   rw [hc]
   refine old j ?_ (fun k hk => by rw [if_neg (by omega)]; omega)
   rw [List.getElem?_insertIdx_of_gt hm] at hy
   exact hy
/-! slices.Insert of one body: the library's own text, walked by its four roads (after the shelf's SlicesInsert, for elements of four cells) -/
section
open Go.Shelf Go.Lib
theorem run_copy_wide {P : Program} (w : World) (dT sT ty elem : TypeId) (b o dLen dCap : Nat) (a : Addr) (sLen sCap sz : Nat) (cs : List Value)
  (hu : P.underlying dT = some (.slice elem)) (hs : (P.info? elem).map (·.size) = some sz) (hn : cs.length = Nat.min sLen dLen * sz)
  (hsrc : ∀ j v, cs[j]? = some v → w.cell? (a.add j) = some v) (hc : ∀ j, j < cs.length → (w.cell? ⟨b, o + j, none⟩).isSome = true) (hf : ∀ j, j < cs.length → w.frozen? ⟨b, o + j, none⟩ = false) (h1 : ∀ v ∈ cs, v.oneCell' = true) :
  (Builtin.copy_ #[dT, sT] ty #[.slice (some ⟨b, o, none⟩) dLen dCap, .slice (some a) sLen sCap]).run P w = .ok (goInt (Nat.min sLen dLen)) (w.setCells b o cs) := by
 have hl := run_loadCells_list (P := P) w a cs hsrc
 have hst := run_storeCells_cells (P := P) b o cs 0 w (by simpa using hc) (by simpa using hf) h1
 cases hq : P.info? elem with
 | none => simp [hq] at hs
 | some i =>
  have hi : i.size = sz := by simpa [hq] using hs
  simp [Builtin.copy_, run_underlying hu, Builtin.lenOf, Builtin.firstCells, sizeOf, typeInfo, hq, hi, ← hn, hl, hst]
theorem ins_info : (Try.prog.info? 123).map (fun i => (i.zero, i.size, i.bytes)) = some (some (.agg #[(.string ⟨#[]⟩), (.int .i64 0), (.int .i64 0), (.slice none 0 0)]), 4, 56) := by kernel_rfl
theorem ins_size (w : World) : (Go.sizeOf 123).run Try.prog w = .ok 4 w := by
 obtain ⟨i0, hi0, h0, h1, h2⟩ := info_parts ins_info
 simp [Go.sizeOf, typeInfo, hi0, h1]
set_option maxHeartbeats 4000000 in
set_option maxRecDepth 100000 in
theorem ins_end_room (g n c vb vc : Nat) (vs : List Value) (w : World) (hroom : n + 1 ≤ c) (hc63 : c ≤ 9223372036854775807)
  (hvl : vs.length = 4) (hsp : ∀ j, j < 4 → (w.cell? ⟨g, n * 4 + j, none⟩).isSome = true) (hfz : ∀ j, j < 4 → w.frozen? ⟨g, n * 4 + j, none⟩ = false)
  (hvs : ∀ j v, vs[j]? = some v → w.cell? ⟨vb, j, none⟩ = some v) (h1v : ∀ v ∈ vs, v.oneCell' = true) :
  Calls Try.prog 137 #[.slice (some ⟨g, 0, none⟩) n c, .int .i64 n, .slice (some ⟨vb, 0, none⟩) 1 vc] w fun e w' =>
   e = .returned (.slice (some ⟨g, 0, none⟩) (n + 1) c) ∧ w' = w.setCells g (n * 4) vs := by
 obtain ⟨i0, hi0, hz0, hzs, hzb⟩ := info_parts ins_info
 have hu30 := Try.underlying30
 have hsrc : Src Try.prog i0.size 30 (.slice (some ⟨vb, 0, none⟩) 1 vc) 1 vs w := by
  rw [hzs]
  exact Src.ofSlice w hu30 ⟨vb, 0, none⟩ 1 vc vs (by omega) (fun j u hj => by rw [Addr.add_lit, Nat.zero_add]; exact hvs j u hj) h1v
 have hsp' : ∀ j, j < vs.length → (w.cell? ⟨g, 0 + n * i0.size + j, none⟩).isSome = true := fun j hj => by rw [hzs, Nat.zero_add]; exact hsp j (by omega)
 have hfz' : ∀ j, j < vs.length → w.frozen? ⟨g, 0 + n * i0.size + j, none⟩ = false := fun j hj => by rw [hzs, Nat.zero_add]; exact hfz j (by omega)
 go_enter Try.func137, Try.ntmps137
 go_wp2_with (at_builtin; refine wpList_append_room_src _ rfl _ _ 30 30 rfl 123 i0 hu30 hi0 g 0 n c rfl _ rfl 1 vs hsrc hroom hsp' hfz' ?_)
 go_ret
 exact ⟨rfl, rfl⟩
set_option maxHeartbeats 4000000 in
set_option maxRecDepth 100000 in
theorem ins_end_grow (base : Option Addr) (n c vb vc : Nat) (cs vs : List Value) (w : World) (hnc : n ≤ c) (hroom : c < n + 1) (hbig : (n + 1) * 56 ≤ 140737488355328)
  (hcl : cs.length = n * 4) (hvl : vs.length = 4) (hnil : base = none → n = 0)
  (hcs : ∀ a, base = some a → ∀ j v, cs[j]? = some v → w.cell? (a.add j) = some v)
  (hvs : ∀ j v, vs[j]? = some v → w.cell? ⟨vb, j, none⟩ = some v) (h1v : ∀ v ∈ vs, v.oneCell' = true) :
  Calls Try.prog 137 #[.slice base n c, .int .i64 n, .slice (some ⟨vb, 0, none⟩) 1 vc] w fun e w' =>
   e = .returned (.slice (some ⟨w.heap.size, 0, none⟩) (n + 1) (grownCap w (n + 1) c 123)) ∧
   w' = w.drew.alloc (.cells ((cs ++ vs).toArray ++ Builtin.zeroCells (Value.agg #[(.string ⟨#[]⟩), (.int .i64 0), (.int .i64 0), (.slice none 0 0)]).cells (grownCap w (n + 1) c 123 - (n + 1))) 123) := by
 obtain ⟨i0, hi0, hz0, hzs, hzb⟩ := info_parts ins_info
 have hu30 := Try.underlying30
 have hsrc : Src Try.prog i0.size 30 (.slice (some ⟨vb, 0, none⟩) 1 vc) 1 vs w := by
  rw [hzs]
  exact Src.ofSlice w hu30 ⟨vb, 0, none⟩ 1 vc vs (by omega) (fun j u hj => by rw [Addr.add_lit, Nat.zero_add]; exact hvs j u hj) h1v
 have hold : (Builtin.firstCells i0.size n (.slice base n c)).run Try.prog w.drew = .ok cs.toArray w.drew := by
  rw [hzs]
  cases base with
  | none =>
   have h0 := hnil rfl
   subst h0
   rw [List.length_eq_zero_iff.1 (by omega : cs.length = 0)]
   exact run_firstCells_none w.drew 4 0 0 c
  | some a => exact run_firstCells_some w.drew 4 n a n c cs (by omega) (fun j v hj => hcs a rfl j v hj)
 have hrun : ∀ ty, (Builtin.append_ #[30, 30] ty #[.slice base n c, .slice (some ⟨vb, 0, none⟩) 1 vc]).run Try.prog w = _ := fun ty =>
  run_append_grow_src w 30 30 ty 123 i0 _ hu30 hi0 hz0 base n c cs hold _ 1 vs hsrc hroom (by omega) (by rw [hzb]; exact growslice_fits hroom hbig)
 go_enter Try.func137, Try.ntmps137
 cases base with
 | none =>
  have h0 := hnil rfl
  subst h0
  go_wp2_with (at_builtin; refine Lib.wpList_append_run _ rfl _ _ _ _ rfl _ _ rfl rfl _ _ (hrun _) ?_)
  go_ret
  exact ⟨rfl, rfl⟩
 | some a =>
  obtain ⟨ab, ao, asp⟩ := a
  go_wp2_with (at_builtin; refine Lib.wpList_append_run _ rfl _ _ _ _ rfl _ _ rfl rfl _ _ (hrun _) ?_)
  all_goals (go_ret; exact ⟨rfl, rfl⟩)
set_option maxHeartbeats 4000000 in
set_option maxRecDepth 100000 in
theorem ins_shift (g n c i vb vc : Nat) (cs vs : List Value) (w : World) (hi : i < n) (hroom : n + 1 ≤ c) (hc63 : c ≤ 9223372036854775807) (hvb : vb ≠ g)
  (hcl : cs.length = n * 4) (hvl : vs.length = 4)
  (hcs : ∀ j v, cs[j]? = some v → w.cell? ⟨g, j, none⟩ = some v) (hsp : ∀ j, j < (n + 1) * 4 → (w.cell? ⟨g, j, none⟩).isSome = true) (hfz : ∀ j, j < (n + 1) * 4 → w.frozen? ⟨g, j, none⟩ = false)
  (hvs : ∀ j v, vs[j]? = some v → w.cell? ⟨vb, j, none⟩ = some v) (h1c : ∀ v ∈ cs, v.oneCell' = true) (h1v : ∀ v ∈ vs, v.oneCell' = true)
  (tA tB : TypeId) (kA kB : Nat) (hsa : w.shape? vb = some (tA, kA)) (hsb : w.shape? g = some (tB, kB)) (hkB : kB ≠ 0) (hfa : w.frozen? ⟨vb, 0, none⟩ = false) (hfe : w.frozen? ⟨vb, kA, none⟩ = false) :
  Calls Try.prog 137 #[.slice (some ⟨g, 0, none⟩) n c, .int .i64 i, .slice (some ⟨vb, 0, none⟩) 1 vc] w fun e w' =>
   e = .returned (.slice (some ⟨g, 0, none⟩) (n + 1) c) ∧ w' = (w.drew.setCells g ((i + 1) * 4) (cs.drop (i * 4))).setCells g (i * 4) vs := by
 have hu30 := Try.underlying30
 have mixed : Try.prog.follows .mixedOrders = true := by kernel_rfl
 have hz2 : ¬ ((i : Int) = (n : Int)) := by omega
 have hsz : (Try.prog.info? 123).map (·.size) = some 4 := by
  obtain ⟨i0, hi0, h0, h1, h2⟩ := info_parts ins_info
  rw [hi0]; simp [h1]
 have hov : ∀ lb cb, (callFunc 142 #[.slice (some ⟨vb, 0, none⟩) 1 vc, .slice (some ⟨g, (i + 1) * 4, none⟩) lb cb]).run Try.prog w = .ok (.value (.bool false)) w := fun lb cb => by
  rw [run_callFunc_extern Try.func142 (by kernel_rfl) (by kernel_rfl) (by kernel_rfl) (e := Extern.SlicesOverlaps.overlaps #[30, 30] #[4]) (by kernel_rfl),
   Lib.run_overlaps_apart w 30 4 123 hu30 4 ins_size ⟨vb, 0, none⟩ ⟨g, (i + 1) * 4, none⟩ 1 vc lb cb hvb tA tB kA kB hsa hsb hkB hfa hfe]
  rfl
 have hdl : (cs.drop (i * 4)).length = (n - i) * 4 := by rw [List.length_drop, hcl]; omega
 have hw1 : IntKind.i64.wrap ((i : Int) + 1) = (i : Int) + 1 := by rw [IntKind.wrap_i64]; omega
 have hw2 : IntKind.i64.wrap ((n : Int) + 1) = (n : Int) + 1 := by rw [IntKind.wrap_i64]; omega
 have hcp1 : ∀ ty dc sc, (Builtin.copy_ #[30, 30] ty #[.slice (some ⟨g, (i + 1) * 4, none⟩) (n - i) dc, .slice (some ⟨g, i * 4, none⟩) (n + 1 - i) sc]).run Try.prog w.drew = .ok (goInt (Nat.min (n + 1 - i) (n - i))) (w.drew.setCells g ((i + 1) * 4) (cs.drop (i * 4))) := fun ty dc sc =>
  run_copy_wide w.drew _ _ ty 123 g ((i + 1) * 4) (n - i) dc ⟨g, i * 4, none⟩ (n + 1 - i) sc 4 (cs.drop (i * 4)) hu30 hsz (by rw [hdl]; simp only [Nat.min_def]; split <;> omega)
   (fun j v hj => by rw [Addr.add_lit]; exact hcs (i * 4 + j) v (by rwa [List.getElem?_drop] at hj))
   (fun j hj => hsp ((i + 1) * 4 + j) (by rw [hdl] at hj; omega)) (fun j hj => hfz ((i + 1) * 4 + j) (by rw [hdl] at hj; omega)) (fun v hv => h1c v (List.mem_of_mem_drop hv))
 obtain ⟨W1, hW1⟩ : ∃ W1, W1 = w.drew.setCells g ((i + 1) * 4) (cs.drop (i * 4)) := ⟨_, rfl⟩
 have hsp1 : ∀ k, k < (n + 1) * 4 → (W1.cell? ⟨g, k, none⟩).isSome = true := fun k hk => by
  rw [hW1]
  exact isSome_setCells g (cs.drop (i * 4)) ((i + 1) * 4) w.drew (fun j hj => by rw [hdl] at hj; exact hsp ((i + 1) * 4 + j) (by omega)) k (hsp k hk)
 have hcp2 : ∀ (W : World), (∀ x, W.cell? x = W1.cell? x) → (∀ x, W.frozen? x = W1.frozen? x) → ∀ ty dc, (Builtin.copy_ #[30, 30] ty #[.slice (some ⟨g, i * 4, none⟩) (n + 1 - i) dc, .slice (some ⟨vb, 0, none⟩) 1 vc]).run Try.prog W = .ok (goInt (Nat.min 1 (n + 1 - i))) (W.setCells g (i * 4) vs) := fun W hWc hWf ty dc =>
  run_copy_wide W _ _ ty 123 g (i * 4) (n + 1 - i) dc ⟨vb, 0, none⟩ 1 vc 4 vs hu30 hsz (by rw [hvl]; simp only [Nat.min_def]; split <;> omega)
   (fun j v hj => by
    rw [Addr.add_lit, Nat.zero_add, hWc, hW1, World.cell?_setCells_out g _ _ _ _ (fun h _ => absurd h hvb)]
    exact hvs j v hj)
   (fun j hj => by rw [hWc]; exact hsp1 _ (by omega)) (fun j hj => by rw [hWf, hW1, World.frozen?_setCells]; exact hfz _ (by omega)) h1v
 rw [← hW1] at hcp1
 have hin : i ≤ n := by omega
 have hb1 : (0 : Int) ≤ (i : Int) + 1 := by omega
 have htn : ((i : Int) + 1).toNat = i + 1 := by omega
 have htn2 : ((n : Int) + 1).toNat = n + 1 := by omega
 have hb2 : ¬ (c = i + 1) := by omega
 have hb3 : (i : Int) ≤ (n : Int) + 1 := by omega
 have hb4 : ¬ (c = i) := by omega
 go_enter Try.func137, Try.ntmps137
 go_wp2_with (simp only [hov])
 go_region_law_o (refine step_copy_runI rfl _ _ 30 30 rfl _ _ (by simp [Act.eval, Act.put]) (by simp [Act.eval, Act.put]) (hcp1 _ _ _) ?_)
 go_wp2_with (at_builtin; refine wpList_copy_runI _ rfl _ _ 30 30 rfl _ _ rfl rfl (hcp2 _ (fun _ => rfl) (fun _ => rfl) _ _) ?_)
 go_ret
 first | exact ⟨rfl, rfl⟩ | exact ⟨rfl, by rw [hW1]⟩
set_option maxHeartbeats 4000000 in
set_option maxRecDepth 100000 in
theorem ins_grow (g n c i vb vc : Nat) (cs vs : List Value) (w : World) (hi : i < n) (hnc : n ≤ c) (hroom : c < n + 1) (hbig : (n + 1) * 56 ≤ 140737488355328)
  (hcl : cs.length = n * 4) (hvl : vs.length = 4)
  (hcs : ∀ j v, cs[j]? = some v → w.cell? ⟨g, j, none⟩ = some v)
  (hvs : ∀ j v, vs[j]? = some v → w.cell? ⟨vb, j, none⟩ = some v) (h1c : ∀ v ∈ cs, v.oneCell' = true) (h1v : ∀ v ∈ vs, v.oneCell' = true) :
  Calls Try.prog 137 #[.slice (some ⟨g, 0, none⟩) n c, .int .i64 i, .slice (some ⟨vb, 0, none⟩) 1 vc] w fun e w' =>
   e = .returned (.slice (some ⟨w.heap.size, 0, none⟩) (n + 1) (grownCap w (n + 1) c 123)) ∧
   w' = (((w.alloc (.cells ((cs.take (i * 4)).toArray ++ Builtin.zeroCells (Value.agg #[(.string ⟨#[]⟩), (.int .i64 0), (.int .i64 0), (.slice none 0 0)]).cells (n + 1 - i) ++ Builtin.zeroCells (Value.agg #[(.string ⟨#[]⟩), (.int .i64 0), (.int .i64 0), (.slice none 0 0)]).cells (grownCap w (n + 1) c 123 - (n + 1))) 123)).drew.setCells w.heap.size (i * 4) vs).drew).setCells w.heap.size ((i + 1) * 4) (cs.drop (i * 4)) := by
 have hu30 := Try.underlying30
 have hu3 := Try.underlying3
 have mixed : Try.prog.follows .mixedOrders = true := by kernel_rfl
 obtain ⟨i0, hi0, hz0, hzs, hzb⟩ := info_parts ins_info
 have hz2 : ¬ ((i : Int) = (n : Int)) := by omega
 have hz3 : (c : Int) < (n : Int) + 1 := by omega
 have hsz : (Try.prog.info? 123).map (·.size) = some 4 := by rw [hi0]; simp [hzs]
 have hbw : g < w.heap.size := block_lt_of_cell (hcs 0 _ (List.getElem?_eq_getElem (by omega)))
 have hvw : vb < w.heap.size := block_lt_of_cell (hvs 0 _ (List.getElem?_eq_getElem (by omega)))
 have hkk : (n : Int) + 1 - (i : Int) = ((n + 1 - i : Nat) : Int) := by omega
 have hik : i + (n + 1 - i) = n + 1 := by omega
 have hold : (Builtin.firstCells i0.size i (.slice (some ⟨g, 0, none⟩) i c)).run Try.prog w.drew = .ok (cs.take (i * 4)).toArray w.drew := by
  rw [hzs]
  exact run_firstCells_some w.drew 4 i ⟨g, 0, none⟩ i c (cs.take (i * 4)) (by rw [List.length_take]; omega) (fun j v hj => by
   rw [Addr.add_lit, Nat.zero_add]
   rw [List.getElem?_take] at hj
   split at hj
   ·exact hcs j v hj
   ·cases hj)
 have hrz : ∀ ty, (Builtin.append_ #[30, 3] ty #[.slice (some ⟨g, 0, none⟩) i c, .int .i64 ((n : Int) + 1 - (i : Int))]).run Try.prog w =
   .ok (.slice (some ⟨w.heap.size, 0, none⟩) (n + 1) (grownCap w (n + 1) c 123)) (w.drew.alloc (.cells ((cs.take (i * 4)).toArray ++ Builtin.zeroCells (Value.agg #[(.string ⟨#[]⟩), (.int .i64 0), (.int .i64 0), (.slice none 0 0)]).cells (n + 1 - i) ++ Builtin.zeroCells (Value.agg #[(.string ⟨#[]⟩), (.int .i64 0), (.int .i64 0), (.slice none 0 0)]).cells (grownCap w (n + 1) c 123 - (n + 1))) 123)) := fun ty => by
  have h := Lib.run_append_grow_zeros w 30 3 ty 123 i0 _ .i64 .i64 hu30 hu3 hi0 hz0 (some ⟨g, 0, none⟩) i c (cs.take (i * 4)) hold (n + 1 - i) (by omega) (by omega) (by omega) (by omega) (by rw [hzb]; omega) (by rw [hzb, hik]; exact growslice_fits hroom hbig)
  rw [hik] at h
  rw [hkk]
  exact h
 obtain ⟨G, hG⟩ : ∃ G, G = grownCap w (n + 1) c 123 := ⟨_, rfl⟩
 obtain ⟨ROW, hROW⟩ : ∃ ROW : Array Value, ROW = (cs.take (i * 4)).toArray ++ Builtin.zeroCells (Value.agg #[(.string ⟨#[]⟩), (.int .i64 0), (.int .i64 0), (.slice none 0 0)]).cells (n + 1 - i) ++ Builtin.zeroCells (Value.agg #[(.string ⟨#[]⟩), (.int .i64 0), (.int .i64 0), (.slice none 0 0)]).cells (G - (n + 1)) := ⟨_, rfl⟩
 rw [← hG] at hrz ⊢
 rw [← hROW] at hrz ⊢
 have hRl : (n + 1) * 4 ≤ ROW.size := by
  rw [hROW]
  simp [Builtin.zeroCells, Value.cells]
  omega
 obtain ⟨W1, hW1⟩ : ∃ W1, W1 = w.drew.alloc (.cells ROW 123) := ⟨_, rfl⟩
 rw [← hW1] at hrz
 have hN : ∀ j, j < (n + 1) * 4 → (W1.cell? ⟨w.heap.size, j, none⟩).isSome = true := fun j hj => by
  rw [hW1, World.cell?_alloc_at (w := w.drew) ROW _ w.heap.size j rfl, Array.getElem?_eq_getElem (by omega)]; rfl
 have hNf : ∀ j, W1.frozen? ⟨w.heap.size, j, none⟩ = false := fun j => by rw [hW1]; exact World.frozen?_alloc_at (w := w.drew) ROW _ w.heap.size j rfl
 have hOb : ∀ j v, w.cell? ⟨g, j, none⟩ = some v → W1.cell? ⟨g, j, none⟩ = some v := fun j v h => by rw [hW1, World.cell?_alloc_past (w := w.drew) _ g j hbw]; exact h
 have hOv : ∀ j v, w.cell? ⟨vb, j, none⟩ = some v → W1.cell? ⟨vb, j, none⟩ = some v := fun j v h => by rw [hW1, World.cell?_alloc_past (w := w.drew) _ vb j hvw]; exact h
 have hcpA : ∀ (W : World), (∀ x, W.cell? x = W1.cell? x) → (∀ x, W.frozen? x = W1.frozen? x) → ∀ ty dc, (Builtin.copy_ #[30, 30] ty #[.slice (some ⟨w.heap.size, i * 4, none⟩) (n + 1 - i) dc, .slice (some ⟨vb, 0, none⟩) 1 vc]).run Try.prog W = .ok (goInt (Nat.min 1 (n + 1 - i))) (W.setCells w.heap.size (i * 4) vs) := fun W hWc hWf ty dc =>
  run_copy_wide W _ _ ty 123 w.heap.size (i * 4) (n + 1 - i) dc ⟨vb, 0, none⟩ 1 vc 4 vs hu30 hsz (by rw [hvl]; simp only [Nat.min_def]; split <;> omega)
   (fun j v hj => by rw [Addr.add_lit, Nat.zero_add, hWc]; exact hOv _ v (hvs j v hj))
   (fun j hj => by rw [hWc]; exact hN _ (by omega)) (fun j hj => by rw [hWf]; exact hNf _) h1v
 have hGn : n + 1 ≤ G := by rw [hG]; exact grownCap_ge w _ _ _
 have hG63 : G ≤ 9223372036854775807 := by
  have := grownCap_le_maxLen w (n + 1) c 123 (by unfold maxLen; omega)
  rw [← hG] at this
  unfold maxLen at this
  omega
 have hGi : ¬ (G = i) := by omega
 have hGim : ¬ (G = i + 1) := by omega
 have hci : ¬ (c = i) := by omega
 have hbN : g ≠ w.heap.size := by omega
 have hdl : (cs.drop (i * 4)).length = (n - i) * 4 := by rw [List.length_drop, hcl]; omega
 have hcpB : ∀ (W : World), (∀ x, W.cell? x = (W1.setCells w.heap.size (i * 4) vs).cell? x) → (∀ x, W.frozen? x = (W1.setCells w.heap.size (i * 4) vs).frozen? x) → ∀ ty dc sc, (Builtin.copy_ #[30, 30] ty #[.slice (some ⟨w.heap.size, (i + 1) * 4, none⟩) (n - i) dc, .slice (some ⟨g, i * 4, none⟩) (n - i) sc]).run Try.prog W = .ok (goInt (Nat.min (n - i) (n - i))) (W.setCells w.heap.size ((i + 1) * 4) (cs.drop (i * 4))) := fun W hWc hWf ty dc sc =>
  run_copy_wide W _ _ ty 123 w.heap.size ((i + 1) * 4) (n - i) dc ⟨g, i * 4, none⟩ (n - i) sc 4 (cs.drop (i * 4)) hu30 hsz (by rw [hdl]; simp only [Nat.min_def]; split <;> omega)
   (fun j v hj => by
    rw [Addr.add_lit, hWc, World.cell?_setCells_out _ _ _ _ _ (fun h _ => absurd h hbN)]
    exact hOb _ v (hcs (i * 4 + j) v (by rwa [List.getElem?_drop] at hj)))
   (fun j hj => by rw [hWc]; exact isSome_setCells _ _ _ _ (fun t ht => hN _ (by omega)) _ (hN _ (by rw [hdl] at hj; omega)))
   (fun j hj => by rw [hWf, World.frozen?_setCells]; exact hNf _) (fun v hv => h1c v (List.mem_of_mem_drop hv))
 subst hW1
 have hE1 : ∀ x, ((w.alloc (.cells ROW 123)).drew).cell? x = (w.drew.alloc (.cells ROW 123)).cell? x := fun x => rfl
 have hE2 : ∀ x, ((w.alloc (.cells ROW 123)).drew).frozen? x = (w.drew.alloc (.cells ROW 123)).frozen? x := fun x => rfl
 have hF1 : ∀ x, (((w.alloc (.cells ROW 123)).drew.setCells w.heap.size (i * 4) vs).drew).cell? x = ((w.drew.alloc (.cells ROW 123)).setCells w.heap.size (i * 4) vs).cell? x := fun x => rfl
 have hF2 : ∀ x, (((w.alloc (.cells ROW 123)).drew.setCells w.heap.size (i * 4) vs).drew).frozen? x = ((w.drew.alloc (.cells ROW 123)).setCells w.heap.size (i * 4) vs).frozen? x := fun x => rfl
 have hw1 : IntKind.i64.wrap ((i : Int) + 1) = (i : Int) + 1 := by rw [IntKind.wrap_i64]; omega
 have hw2 : IntKind.i64.wrap ((n : Int) + 1) = (n : Int) + 1 := by rw [IntKind.wrap_i64]; omega
 have hb1 : (0 : Int) ≤ (i : Int) + 1 := by omega
 have hin : i ≤ n := by omega
 have htn : ((i : Int) + 1).toNat = i + 1 := by omega
 have hb3 : (i : Int) ≤ (n : Int) := by omega
 clear hkk hik hold hROW hG hRl
 go_enter Try.func137, Try.ntmps137
 go_wp2_with (first
  | (at_builtin; refine Lib.wpList_append_run _ rfl _ _ _ _ rfl _ _ rfl rfl _ _ (hrz _) ?_)
  | (at_builtin; refine wpList_copy_runI _ rfl _ _ 30 30 rfl _ _ rfl rfl (hcpA _ hE1 hE2 _ _) ?_)
  | (at_builtin; refine wpList_copy_runI _ rfl _ _ 30 30 rfl _ _ rfl rfl (hcpB _ (fun _ => rfl) (fun _ => rfl) _ _ _) ?_))
 go_region_law_o (refine step_copy_runI rfl _ _ 30 30 rfl (.slice (some ⟨w.heap.size, (i + 1) * 4, none⟩) (n - i) (G - (i + 1))) (.slice (some ⟨g, i * 4, none⟩) (n - i) (c - i)) (by simp [Act.eval, Act.put]) (by simp [Act.eval, Act.put]) (hcpB _ hF1 hF2 3 (G - (i + 1)) (c - i)) ?_)
 go_wp2
 go_ret
 exact ⟨rfl, rfl⟩
end
theorem ins_shape {w : World} {g : Nat} {cur : Array Value} (h : w.heap[g]? = some (.cells cur 123 (0, 0))) : w.shape? g = some (123, cur.size) := by
 simp [World.shape?, h]
theorem inner_one {w : World} {base : Nat} {ok : Nat → Prop} {α : Type} {d : Kd α} {xs : List α} {inner : List Value} (hs : 0 < d.sz) (h : Reps (d.M w base ok) d.sz xs inner) : ∀ u ∈ inner, u.oneCell' = true := by
 intro u hu
 obtain ⟨j, hj, rfl⟩ := List.getElem_of_mem hu
 have hl := h.1
 have hm : j / d.sz < xs.length := by
  rw [Nat.div_lt_iff_lt_mul hs]
  omega
 have h1 := d.K_one (d.K_of_M (h.2 (j / d.sz) _ (List.getElem?_eq_getElem hm)))
 refine h1 _ ?_
 have e1 : j / d.sz * d.sz + j % d.sz = j := by rw [Nat.mul_comm]; exact Nat.div_add_mod j d.sz
 have e2 : j % d.sz < d.sz := Nat.mod_lt _ hs
 refine List.mem_of_getElem? (i := j % d.sz) ?_
 rw [List.getElem?_take, if_pos e2, List.getElem?_drop, e1]
 exact List.getElem?_eq_getElem hj
set_option maxHeartbeats 2000000 in
/-- slices.Insert of one body into a row of the call's own. -/
theorem ins_S (base : Nat) (ok okp : Nat → Prop) (v : Value) (xs : List S123) (p : S123) (pc : List Value) (vb i : Nat) (w : World) (HO : Kd.S k123 123 w base (fun k => ok k ∧ ¬ okp k) v xs) (hvb : w.heap[vb]? = some (.cells pc.toArray 123 (0, 0))) (hpc : pc.length = 4) (hp : k123.M w base okp p pc)
  (hokp : ∀ k, okp k → ok k ∧ some k ≠ v.ownBlock) (hvo : some vb ≠ v.ownBlock) (hfresh : ∀ k, w.heap.size ≤ k → ok k) (hbase : base ≤ w.heap.size) (hi : i ≤ xs.length) (hl : (xs.length + 1) * 56 ≤ 140737488355328) :
  Calls Try.prog 137 #[v, .int .i64 i, .slice (some ⟨vb, 0, none⟩) 1 1] w fun e w' => ∃ v1, e = .returned v1 ∧ Kd.S k123 123 w' base ok v1 (xs.insertIdx i p) ∧ w.grownBy w' v.ownBlock ∧ (v1.ownBlock = v.ownBlock ∨ ∃ b, v1.ownBlock = some b ∧ w.heap.size ≤ b) := by
 have hvs : ∀ j u, pc[j]? = some u → w.cell? ⟨vb, j, none⟩ = some u := fun j u h => (blk_cell hvb j).trans (by rw [List.getElem?_toArray]; exact h)
 have h1v : ∀ u ∈ pc, u.oneCell' = true := k123.K_one (k123.K_of_M hp)
 have hvlt : vb < w.heap.size := blk_lt hvb
 obtain ⟨f, hok0, inner, ho, hr⟩ := id HO
 rw [List.length_zipIdx] at ho
 have h1c : ∀ u ∈ inner, u.oneCell' = true := inner_one (d := Kd.tag f k123) (show 0 < 4 by decide) hr
 have ho4 : w.ownsRow base 123 4 v xs.length inner := ho
 clear ho hr
 -- what is common to the four roads
 have fin : ∀ (v1 : Value) (w1 : World), (∀ k, k < w.heap.size → some k ≠ v.ownBlock → w1.heap[k]? = w.heap[k]?) → (v1.ownBlock = v.ownBlock ∨ v1.ownBlock = some w.heap.size) →
   (∀ inner, w.ownsRow base 123 4 v xs.length inner → w1.ownsRow base 123 4 v1 (xs.length + 1) (inner.take (i * 4) ++ pc ++ inner.drop (i * 4))) → Kd.S k123 123 w1 base ok v1 (xs.insertIdx i p) := by
  intro v1 w1 hm hv hw
  have ne : ∀ k, k < w.heap.size → some k ≠ v.ownBlock → some k ≠ v1.ownBlock := by
   intro k hk hn e
   rcases hv with hv | hv
   ·exact hn (e.trans hv)
   ·rw [hv] at e
    injection e with e
    omega
  have hb := k123.M_bound hp
  refine S_ins (okp := fun k => okp k ∧ k < w.heap.size) (Kd.S_mono HO (fun k hk => ⟨hk.1, fun h => hk.2 h.1⟩)) i hi p pc hpc ?_ ?_ ?_ ?_ hw
  ·exact k123.M_mono (fun k hk => ⟨hk.1, hk.2.2.1⟩) (k123.M_move (w1 := w1) (fun k hk => hm k hk.2.2.1 (hokp k hk.1).2) hb)
  ·exact fun k hk => ⟨(hokp k hk.1).1, ne k hk.2 (hokp k hk.1).2⟩
  ·exact fun k _ _ h3 h4 => ⟨hm k h4 h3, ne k h4 h3⟩
  ·intro k hk
   rcases hv with hv | hv
   ·exact (hok0 k (hv ▸ hk)).1
   ·rw [hv] at hk
    injection hk with hk
    subst hk
    exact hfresh _ (Nat.le_refl _)
 have fresh : ∀ (w1 : World) (row : Array Value) (G : Nat) (A : List Value), w1.heap[w.heap.size]? = some (.cells row 123 (0, 0)) → xs.length + 1 ≤ G → G ≤ maxLen → row.size = G * 4 → row.toList.take ((xs.length + 1) * 4) = A → A.length = (xs.length + 1) * 4 → w1.ownsRow base 123 4 (.slice (some ⟨w.heap.size, 0, none⟩) (xs.length + 1) G) (xs.length + 1) A :=
  fun w1 row G A h1 h2 h3 h4 h5 h6 => ⟨h6, .inr ⟨w.heap.size, G, row, rfl, hbase, h1, h2, h3, h4, h5⟩⟩
 have hGm : ∀ c, grownCap w (xs.length + 1) c 123 ≤ maxLen := fun c => grownCap_le_maxLen w (xs.length + 1) c 123 (by unfold maxLen; omega)
 have hGg : ∀ c, xs.length + 1 ≤ grownCap w (xs.length + 1) c 123 := fun c => grownCap_ge w _ _ _
 have hz : ∀ m, (Builtin.zeroCells (Value.agg #[(.string ⟨#[]⟩), (.int .i64 0), (.int .i64 0), (.slice none 0 0)]).cells m).size = m * 4 := fun m => by simp [Builtin.zeroCells, Value.cells]
 have grownN : ∀ o : Obj, w.grownBy (w.drew.alloc o) v.ownBlock := fun o => grown_of_below (below_alloc (below_drew (Below.refl _ _)) o) _
 rcases ho4.2 with ⟨hv, hn0⟩ | ⟨g, c, cur, hv, hg, hh, hnc, hcm, hcs, ht⟩
 ·subst hv
  obtain rfl : i = 0 := by omega
  refine (ins_end_grow none 0 0 vb 1 [] pc w (by omega) (by omega) (by omega) rfl hpc (fun _ => rfl) (fun a h => by cases h) hvs h1v).mono ?_
  rintro e w' ⟨rfl, rfl⟩
  have e0 : (0 : Nat) + 1 = xs.length + 1 := by omega
  rw [e0]
  refine ⟨_, rfl, fin _ _ (fun k hk _ => (grownN _).block k hk (by simp [Value.ownBlock])) (.inr rfl) ?_, grownN _, .inr ⟨_, rfl, Nat.le_refl _⟩⟩
  intro inner' ho'
  have hi0 : inner' = [] := List.length_eq_zero_iff.1 (by rw [ho'.1, hn0])
  subst hi0
  refine fresh _ _ _ _ (heap_alloc_new w.drew _) (hGg 0) (hGm 0) ?_ ?_ (by simp [hpc, hn0])
  ·have := hGg 0
   simp only [Array.size_append, List.size_toArray, List.nil_append, hz, hpc]
   omega
  ·simp only [List.nil_append, Array.toList_append, List.take_nil, List.drop_nil, List.append_nil]
   rw [List.take_append_of_le_length (by rw [hpc, hn0]; decide), List.take_of_length_le (by rw [hpc, hn0]; decide)]
 ·subst hv
  have hgl : g < w.heap.size := blk_lt hh
  have hvg : vb ≠ g := fun e => hvo (by rw [e]; rfl)
  have hinl : inner.length = xs.length * 4 := ho4.1
  have hce : ∀ j u, inner[j]? = some u → w.cell? ⟨g, j, none⟩ = some u := by
   intro j u hj
   rw [blk_cell hh j, ← Array.getElem?_toList]
   rw [← ht, List.getElem?_take] at hj
   split at hj
   ·exact hj
   ·cases hj
  have huniq : ∀ inner', w.ownsRow base 123 4 (.slice (some ⟨g, 0, none⟩) xs.length c) xs.length inner' → inner' = inner := by
   intro inner' h'
   rcases h'.2 with ⟨h2, _⟩ | ⟨g', c', cur', h2, _, hh', _, _, _, ht'⟩
   ·cases h2
   ·cases h2
    rw [hh] at hh'
    cases hh'
    rw [← ht', ← ht]
  have hroomc : ∀ j, j < c * 4 → (w.cell? ⟨g, j, none⟩).isSome = true := fun j hj => by
   rw [blk_cell hh j, Array.getElem?_eq_getElem (by omega)]; rfl
  have hin_take : cur.toList.take (xs.length * 4) = inner := ht
  have hcl4 : cur.toList.length = c * 4 := by rw [Array.length_toList]; exact hcs
  have hmul : xs.length * 4 ≤ c * 4 := Nat.mul_le_mul_right 4 hnc
  by_cases hie : i = xs.length
  ·subst hie
   have hdr : inner.drop (xs.length * 4) = [] := List.drop_of_length_le (by omega)
   have htk : inner.take (xs.length * 4) = inner := List.take_of_length_le (by omega)
   by_cases hroom : xs.length + 1 ≤ c
   ·refine (ins_end_room g xs.length c vb 1 pc w hroom (by unfold maxLen at hcm; omega) hpc (fun j hj => hroomc _ (by omega)) (fun j hj => blk_frozen hh _) hvs h1v).mono ?_
    rintro e w' ⟨rfl, rfl⟩
    obtain ⟨cur2, k1, k2, k3⟩ := setCells_row pc (xs.length * 4) w cur hh (by rw [hpc, hcs]; omega)
    obtain ⟨s1, s2, s3, s4⟩ := setCells_same g pc (xs.length * 4) w
    have hgb : w.grownBy (w.setCells g (xs.length * 4) pc) (some g) := ⟨s1, s2, s3, by rw [s4]; exact Nat.le_refl _, fun k _ hk => setCells_far pc _ k (fun e => hk (by rw [e]))⟩
    refine ⟨_, rfl, fin _ _ (fun k hk hn => hgb.block k hk hn) (.inl rfl) ?_, hgb, .inl rfl⟩
    intro inner' ho'
    obtain rfl := huniq inner' ho'
    rw [htk, hdr, List.append_nil]
    refine ⟨by rw [List.length_append, hinl, hpc]; omega, .inr ⟨g, c, cur2, rfl, hg, k1, hroom, hcm, by rw [k2, hcs], ?_⟩⟩
    rw [k3, hin_take, List.take_append_of_le_length (by rw [List.length_append, hinl, hpc]; omega), List.take_of_length_le (by rw [List.length_append, hinl, hpc]; omega)]
   ·refine (ins_end_grow (some ⟨g, 0, none⟩) xs.length c vb 1 inner pc w hnc (by omega) hl hinl hpc (fun h => by cases h) (fun a h j u hj => by cases h; rw [add_plain]; exact hce j u hj) hvs h1v).mono ?_
    rintro e w' ⟨rfl, rfl⟩
    refine ⟨_, rfl, fin _ _ (fun k hk hn => (grownN _).block k hk hn) (.inr rfl) ?_, grownN _, .inr ⟨_, rfl, Nat.le_refl _⟩⟩
    intro inner' ho'
    obtain rfl := huniq inner' ho'
    rw [htk, hdr, List.append_nil]
    refine fresh _ _ _ _ (heap_alloc_new w.drew _) (hGg c) (hGm c) ?_ ?_ (by rw [List.length_append, hinl, hpc]; omega)
    ·have := hGg c
     simp only [Array.size_append, List.size_toArray, List.length_append, hz, hpc, hinl]
     omega
    ·simp only [Array.toList_append]
     rw [List.take_append_of_le_length (by rw [List.length_append, hinl, hpc]; omega), List.take_of_length_le (by rw [List.length_append, hinl, hpc]; omega)]
  ·have hlt : i < xs.length := by omega
   have e4 : (i + 1) * 4 = i * 4 + 4 := by omega
   have hdl : (inner.drop (i * 4)).length = xs.length * 4 - i * 4 := by rw [List.length_drop, hinl]
   by_cases hroom : xs.length + 1 ≤ c
   ·refine (ins_shift g xs.length c i vb 1 inner pc w hlt hroom (by unfold maxLen at hcm; omega) hvg hinl hpc hce (fun j hj => hroomc _ (by omega)) (fun j _ => blk_frozen hh _) hvs h1c h1v _ _ _ _ (ins_shape hvb) (ins_shape hh) (by rw [hcs]; omega) (blk_frozen hvb _) (blk_frozen hvb _)).mono ?_
    rintro e w' ⟨rfl, rfl⟩
    rw [e4]
    obtain ⟨cA, a1, a2, a3⟩ := setCells_row (inner.drop (i * 4)) (i * 4 + 4) w.drew cur hh (by rw [hdl, hcs]; omega)
    obtain ⟨cB, b1, b2, b3⟩ := setCells_row pc (i * 4) _ cA a1 (by rw [hpc, a2, hcs]; omega)
    obtain ⟨s1, s2, s3, s4⟩ := setCells_same g (inner.drop (i * 4)) (i * 4 + 4) w.drew
    obtain ⟨t1, t2, t3, t4⟩ := setCells_same g pc (i * 4) (w.drew.setCells g (i * 4 + 4) (inner.drop (i * 4)))
    have hgb : w.grownBy ((w.drew.setCells g (i * 4 + 4) (inner.drop (i * 4))).setCells g (i * 4) pc) (some g) := ⟨t1.trans s1, t2.trans s2, t3.trans s3, by rw [t4, s4]; exact Nat.le_refl _, fun k _ hk => (setCells_far pc _ k (fun e => hk (by rw [e]))).trans (setCells_far _ _ k (fun e => hk (by rw [e])))⟩
    refine ⟨_, rfl, fin _ _ (fun k hk hn => hgb.block k hk hn) (.inl rfl) ?_, hgb, .inl rfl⟩
    intro inner' ho'
    obtain rfl := huniq inner' ho'
    have hlen : (inner'.take (i * 4) ++ pc ++ inner'.drop (i * 4)).length = (xs.length + 1) * 4 := by
     simp only [List.length_append, List.length_take, hdl, hpc, hinl]
     omega
    refine ⟨hlen, .inr ⟨g, c, cB, rfl, hg, b1, hroom, hcm, by rw [b2, a2, hcs], ?_⟩⟩
    rw [b3, a3, hpc]
    have hx : (cur.toList.take (i * 4 + 4) ++ inner'.drop (i * 4) ++ cur.toList.drop (i * 4 + 4 + (inner'.drop (i * 4)).length)).take (i * 4) = inner'.take (i * 4) := by
     rw [List.append_assoc, List.take_append_of_le_length (by rw [List.length_take]; omega), List.take_take, ← hin_take, List.take_take]
     congr 1
     omega
    have hy : (cur.toList.take (i * 4 + 4) ++ inner'.drop (i * 4) ++ cur.toList.drop (i * 4 + 4 + (inner'.drop (i * 4)).length)).drop (i * 4 + 4) = inner'.drop (i * 4) ++ cur.toList.drop (i * 4 + 4 + (inner'.drop (i * 4)).length) := by
     rw [List.append_assoc, List.drop_append_of_le_length (by rw [List.length_take]; omega), List.drop_of_length_le (by rw [List.length_take]; omega), List.nil_append]
    rw [hx, hy, ← List.append_assoc, List.take_append_of_le_length (by rw [hlen]; omega), List.take_of_length_le (by rw [hlen]; omega)]
   ·refine (ins_grow g xs.length c i vb 1 inner pc w hlt hnc (by omega) hl hinl hpc hce hvs h1c h1v).mono ?_
    rintro e w' ⟨rfl, rfl⟩
    rw [e4]
    have hG := hGg c
    obtain ⟨ROW, hROW⟩ : ∃ ROW : Array Value, ROW = (inner.take (i * 4)).toArray ++ Builtin.zeroCells (Value.agg #[(.string ⟨#[]⟩), (.int .i64 0), (.int .i64 0), (.slice none 0 0)]).cells (xs.length + 1 - i) ++ Builtin.zeroCells (Value.agg #[(.string ⟨#[]⟩), (.int .i64 0), (.int .i64 0), (.slice none 0 0)]).cells (grownCap w (xs.length + 1) c 123 - (xs.length + 1)) := ⟨_, rfl⟩
    have hRs : ROW.size = grownCap w (xs.length + 1) c 123 * 4 := by
     rw [hROW]
     simp only [Array.size_append, List.size_toArray, List.length_take, hz, hinl]
     omega
    have hRt : ROW.toList.take (i * 4) = inner.take (i * 4) := by
     rw [hROW]
     simp only [Array.toList_append]
     rw [List.append_assoc, List.take_append_of_le_length (by rw [List.length_take]; omega), List.take_take]
     congr 1
     omega
    rw [← hROW]
    have hb0 : ((w.alloc (.cells ROW 123)).drew).heap[w.heap.size]? = some (.cells ROW 123 (0, 0)) := heap_alloc_new w _
    obtain ⟨cA, a1, a2, a3⟩ := setCells_row pc (i * 4) (w.alloc (.cells ROW 123)).drew ROW hb0 (by rw [hpc, hRs]; omega)
    obtain ⟨cB, b1, b2, b3⟩ := setCells_row (inner.drop (i * 4)) (i * 4 + 4) ((w.alloc (.cells ROW 123)).drew.setCells w.heap.size (i * 4) pc).drew cA a1 (by rw [hdl, a2, hRs]; omega)
    obtain ⟨s1, s2, s3, s4⟩ := setCells_same w.heap.size pc (i * 4) (w.alloc (.cells ROW 123)).drew
    obtain ⟨t1, t2, t3, t4⟩ := setCells_same w.heap.size (inner.drop (i * 4)) (i * 4 + 4) ((w.alloc (.cells ROW 123)).drew.setCells w.heap.size (i * 4) pc).drew
    have hB0 := below_drew (below_alloc (Below.refl w.heap.size w) (.cells ROW 123))
    have hgb : w.grownBy (((w.alloc (.cells ROW 123)).drew.setCells w.heap.size (i * 4) pc).drew.setCells w.heap.size (i * 4 + 4) (inner.drop (i * 4))) (Value.slice (some ⟨g, 0, none⟩) xs.length c).ownBlock := ⟨(t1.trans s1).trans hB0.os, (t2.trans s2).trans hB0.tape, (t3.trans s3).trans hB0.output, by rw [t4]; show _ ≤ ((w.alloc (.cells ROW 123)).drew.setCells w.heap.size (i * 4) pc).heap.size; rw [s4]; exact hB0.size, fun k hk _ => by
     have hkn : k ≠ w.heap.size := by omega
     have q1 := setCells_far (g := w.heap.size) (inner.drop (i * 4)) (i * 4 + 4) (w := ((w.alloc (.cells ROW 123)).drew.setCells w.heap.size (i * 4) pc).drew) k hkn
     have q2 := setCells_far (g := w.heap.size) pc (i * 4) (w := (w.alloc (.cells ROW 123)).drew) k hkn
     exact q1.trans (q2.trans (hB0.block k hk))⟩
    refine ⟨_, rfl, fin _ _ (fun k hk hn => hgb.block k hk hn) (.inr rfl) ?_, hgb, .inr ⟨_, rfl, Nat.le_refl _⟩⟩
    intro inner' ho'
    obtain rfl := huniq inner' ho'
    have hlen : (inner'.take (i * 4) ++ pc ++ inner'.drop (i * 4)).length = (xs.length + 1) * 4 := by
     simp only [List.length_append, List.length_take, hdl, hpc, hinl]
     omega
    refine fresh _ cB _ _ b1 hG (hGm c) (by rw [b2, a2, hRs]) ?_ hlen
    rw [b3, a3, hRt, hpc]
    have hx : (inner'.take (i * 4) ++ pc ++ ROW.toList.drop (i * 4 + 4)).take (i * 4 + 4) = inner'.take (i * 4) ++ pc := by
     rw [List.take_append_of_le_length (by rw [List.length_append, List.length_take, hpc, hinl]; omega), List.take_of_length_le (by rw [List.length_append, List.length_take, hpc, hinl]; omega)]
    rw [hx, List.take_append_of_le_length (by rw [hlen]; omega), List.take_of_length_le (by rw [hlen]; omega)]
/-- A weave of the call's own behind a pointer: its block g, its rows; the blocks of its bodies are P's, those of its graph are not; what is new is P's. -/
structure Wv (w0 W : World) (g : Nat) (P : Nat → Prop) (vp vb : Value) (ps : List (List Int)) (bs : List S123) : Prop where
 b : Below w0.heap.size w0 W
 n : w0.heap.size ≤ g
 h : W.heap[g]? = some (.cells #[vp, vb] 32 (0, 0))
 sp : Kd.S (Kd.slice 3 (Kd.int .i64)) 45 W w0.heap.size (fun k => k ≠ g ∧ ¬ P k) vp ps
 sb : Kd.S k123 123 W w0.heap.size (fun k => k ≠ g ∧ P k) vb bs
 fresh : ∀ k, W.heap.size ≤ k → P k
section
variable {w0 W W1 : World} {g : Nat} {P : Nat → Prop} {vp vb vb1 : Value} {ps : List (List Int)} {bs bs1 : List S123}
theorem Wv.below (F : Wv w0 W g P vp vb ps bs) (hb : Below W.heap.size W W1) : Wv w0 W1 g P vp vb ps bs :=
 ⟨below_step F.b hb, F.n, (hb.block g (blk_lt F.h)).trans F.h, Kd.S_below F.sp hb, Kd.S_below F.sb hb, fun k hk => F.fresh k (Nat.le_trans hb.size hk)⟩
theorem Wv.off (F : Wv w0 W g P vp vb ps bs) : some g ≠ vb.ownBlock := fun e => ((Kd.S_R F.sb).1 g e.symm).1 rfl
theorem Wv.cells (F : Wv w0 W g P vp vb ps bs) : W.cell? ⟨g, 0, none⟩ = some vp ∧ W.cell? ⟨g, 1, none⟩ = some vb := ⟨(blk_cell F.h 0).trans rfl, (blk_cell F.h 1).trans rfl⟩
/-- Something of the bodies' blocks is written, or grown; the row's value is as it was. -/
theorem Wv.inner (F : Wv w0 W g P vp vb ps bs) {row : Option Nat} (hg : W.grownBy W1 row) (hrow : ∀ k, row = some k → (k ≠ g ∧ P k) ∧ w0.heap.size ≤ k) (hs : Kd.S k123 123 W1 w0.heap.size (fun k => k ≠ g ∧ P k) vb bs1) : Wv w0 W1 g P vp vb ps bs1 :=
 ⟨pw_below_grown F.b row (below_size F.b) hg (fun k hk => (hrow k hk).2), F.n, blk_grown F.h hg (fun e => (hrow g e.symm).1.1 rfl), Kd.S_step F.sp (fun k h1 hl => hg.block k hl (fun e => h1.2 (hrow k e.symm).1.2)), hs, fun k hk => F.fresh k (Nat.le_trans hg.size hk)⟩
/-- The bodies' row is another one, stored in the weave's block. -/
theorem Wv.bodies (F : Wv w0 W g P vp vb ps bs) (hg : W.grownBy W1 vb.ownBlock) (hs : Kd.S k123 123 W1 w0.heap.size (fun k => k ≠ g ∧ P k) vb1 bs1) : Wv w0 (W1.setCell ⟨g, 1, none⟩ vb1) g P vp vb1 ps bs1 := by
 have hb := fun k hk => (⟨(Kd.S_R F.sb).1 k hk, Kd.S_base F.sb k hk⟩ : (k ≠ g ∧ P k) ∧ w0.heap.size ≤ k)
 have h1 := blk_grown F.h hg (fun e => (hb g e.symm).1.1 rfl)
 refine ⟨below_set (pw_below_grown F.b _ (below_size F.b) hg (fun k hk => (hb k hk).2)) F.n, F.n, by simpa using blk_set h1 1 vb1, ?_, ?_, fun k hk => F.fresh k ?_⟩
 ·exact Kd.S_far (p := ⟨g, 1, none⟩) (Kd.S_step F.sp (fun k h1 hl => hg.block k hl (fun e => h1.2 (hb k e.symm).1.2))) (fun k hk => hk.1) _
 ·exact Kd.S_far (p := ⟨g, 1, none⟩) hs (fun k hk => hk.1) _
 ·have : (W1.setCell ⟨g, 1, none⟩ vb1).heap.size = W1.heap.size := by simp [World.setCell]
  exact Nat.le_trans hg.size (by omega)
theorem Wv.keptB (F : Wv w0 W g P vp vb ps bs) (hg : W.grownBy W1 vb.ownBlock) (u : Value) : Kept W (W1.setCell ⟨g, 1, none⟩ u) (fun k => k = g ∨ P k) :=
 (Kept.of_grown (S := fun k => k = g ∨ P k) hg (Kept.refl _ _) (fun k hk => .inl (.inr ((Kd.S_R F.sb).1 k hk).2))).setCell (.inl (.inl rfl)) u
end
set_option maxHeartbeats 4000000 in
set_option maxRecDepth 100000 in
theorem weave_insert (w0 w : World) (g : Nat) (P : Nat → Prop) (vp vb : Value) (ps : List (List Int)) (bs : List S123) (HW0 : Wv w0 w g P vp vb ps bs) (i : Nat) (line : ByteArray) (v : Int) (hi : i ≤ bs.length) (hl : (bs.length + 1) * 56 ≤ 140737488355328) :
  Calls Try.prog 120 #[.pointer (some ⟨g, 0, none⟩), .int .i64 i, .string line, .int .i64 v] w fun e w' => ∃ vb', e = .returned (.tuple #[]) ∧ Wv w0 w' g P vp vb' ps (bs.insertIdx i ⟨line, v, 0, []⟩) ∧ Kept w w' (fun k => k = g ∨ P k) := by
 have HW := Aside0.mk HW0
 clear HW0
 have hu32 := Try.underlying32
 obtain ⟨A, c, rfl⟩ := Kd.S_slice HW.out.sb
 have hbA : Below w.heap.size w (w.alloc (.cells #[.string line, .int .i64 v, .int .i64 0, .slice none 0 0] 123)) := below_alloc (Below.refl _ _) _
 have HA := Aside0.mk (HW.out.below hbA)
 have hoff : some w.heap.size ≠ (Value.slice A bs.length c).ownBlock := fun e => by have := Kd.S_lt HW.out.sb _ e.symm; omega
 have HC := Aside0.mk (ins_S w0.heap.size (fun k => k ≠ g ∧ P k) (fun _ => False) (.slice A bs.length c) bs ⟨line, v, 0, []⟩ [.string line, .int .i64 v, .int .i64 0, .slice none 0 0] w.heap.size i (w.alloc (.cells #[.string line, .int .i64 v, .int .i64 0, .slice none 0 0] 123))
  (Kd.S_mono HA.out.sb (fun k hk => ⟨hk, id⟩)) (heap_alloc_new w _) rfl (k123_mkM _ _ _ (⟨line, v, 0, []⟩ : S123) (Kd.R_nil _ _ _ _ _)) (fun k hk => hk.elim) hoff
  (fun k hk => ⟨fun e => by have := blk_lt HA.out.h; omega, HA.out.fresh k hk⟩) (below_size HA.out.b) hi hl)
 obtain ⟨z0, z1⟩ := HW.out.cells
 clear hoff
 go_enter Try.func120, Try.ntmps120
 go_wp2_with (first
  | (go_at_call 137; refine HC.out.mono ?_; rintro e w1 ⟨v1, rfl, hs1, hg1, hat⟩; obtain ⟨A1, c1, rfl⟩ := Kd.S_slice hs1; have HN := Aside0.mk (HA.out.bodies hg1 hs1); have HK := Aside0.mk ((Kept.of_below hbA (fun k => k = g ∨ P k)).then_ (HA.out.keptB hg1 (.slice A1 (bs.insertIdx i ⟨line, v, 0, []⟩).length c1)) (fun _ h => .inl h)); have hh1 := blk_grown HA.out.h hg1 HA.out.off; have q1 : w1.cell? ⟨g, 1, none⟩ = some (.slice A bs.length c) := (blk_cell hh1 1).trans rfl; have f1 := blk_frozen hh1 1; clear hs1 hg1 hat))
 exact ⟨rfl, _, results_none rfl _ _ _, _, rfl, HN.out, HK.out⟩
def impl_Weave_add.fin (ps : List (List Int)) (parents : List Int) (bs : List S123) : Option (List (List Int) × List S123 × Bool) :=
 (slices_Clone_int_int.f parents).bind fun c => if ps.length < 5864062014805 then some (ps ++ [c], bs, decide ((bs.length : Int) ≤ 300)) else none
/-- The new lines: put in behind what they stand behind. -/
def impl_Weave_add.l1 : Nat → List (List Int) → List Int → List Int → List Int → List ByteArray → List S123 → Int → Int → Int → Option (List (List Int) × List S123 × Bool)
 | 0, _, _, _, _, _, _, _, _, _ => none
 | k + 1, ps, parents, pl, st, lines, bs, at_, born, j => if j < (lines.length : Int) then (if 0 ≤ j then (if j < (st.length : Int) then
   (if rd st j ≥ 0 then (if rd st j < (pl.length : Int) then impl_Weave_add.l1 k ps parents pl st lines bs (wrap64 (wrap64 (rd pl (rd st j) + born) + 1)) born (wrap64 (j + 1)) else none) else (if 0 ≤ at_ then (if at_ ≤ (bs.length : Int) then (if bs.length < 2513169434915 then impl_Weave_add.l1 k ps parents pl st lines (bs.insertIdx at_.toNat ⟨rdOf ByteArray.empty lines j, (ps.length : Int), born, []⟩) (wrap64 (at_ + 1)) (wrap64 (born + 1)) (wrap64 (j + 1)) else none) else none) else none)) else none) else none)
   else impl_Weave_add.fin ps parents bs
/-- What the new version does not hold any more is marked. -/
def impl_Weave_add.l0 : Nat → List (List Int) → List Int → List Int → List Int → List ByteArray → List S123 → Int → Option (List (List Int) × List S123 × Bool)
 | 0, _, _, _, _, _, _, _ => none
 | k + 1, ps, parents, pl, st, lines, bs, x => if x < (pl.length : Int) then (if 0 ≤ x then ((slices_Contains_int_int.f k st x).bind fun c => if c = true then impl_Weave_add.l0 k ps parents pl st lines bs (wrap64 (x + 1)) else
   (if 0 ≤ rd pl x then (if rd pl x < (bs.length : Int) then (if (rd_T123 bs (rd pl x)).f3.length < 17592186044415 then impl_Weave_add.l0 k ps parents pl st lines (bs.set (rd pl x).toNat ⟨(rd_T123 bs (rd pl x)).f0, (rd_T123 bs (rd pl x)).f1, (rd_T123 bs (rd pl x)).f2, (rd_T123 bs (rd pl x)).f3 ++ [(ps.length : Int)]⟩) (wrap64 (x + 1)) else none) else none) else none)) else none)
   else impl_Weave_add.l1 k ps parents pl st lines bs 0 0 0
def impl_Weave_add.f (k : Nat) (ps : List (List Int)) (bs : List S123) (parents : List Int) (lines : List ByteArray) : Option (List (List Int) × List S123 × Bool) :=
 if (ps.length : Int) ≥ 40 then some (ps, bs, false) else
 (impl_closures.f k ps).bind fun cl => (impl_unionOf.f k cl parents).bind fun u => (impl_Weave_liveIn.f k ps bs u).bind fun pl => (impl_Weave_linesAt.f k ps bs pl).bind fun ls => (impl_align.f k ls lines).bind fun st => impl_Weave_add.l0 k ps parents pl st lines bs 0
theorem impl_Weave_add.mono_1 : ∀ k, ∀ ps parents pl st lines bs a b j, LeO (impl_Weave_add.l1 k ps parents pl st lines bs a b j) (impl_Weave_add.l1 (k + 1) ps parents pl st lines bs a b j)
 | 0 => fun _ _ _ _ _ _ _ _ _ r h => by simp [impl_Weave_add.l1] at h
 | k + 1 => by
  have ih0 := impl_Weave_add.mono_1 k
  intro ps parents pl st lines bs a b j
  unfold impl_Weave_add.l1
  repeat' first
   | (with_reducible exact ih0 _ _ _ _ _ _ _ _ _)
   | (with_reducible exact LeO.refl _)
   | (with_reducible refine LeO.ite ?_ ?_)
theorem impl_Weave_add.mono_0 : ∀ k, ∀ ps parents pl st lines bs x, LeO (impl_Weave_add.l0 k ps parents pl st lines bs x) (impl_Weave_add.l0 (k + 1) ps parents pl st lines bs x)
 | 0 => fun _ _ _ _ _ _ _ r h => by simp [impl_Weave_add.l0] at h
 | k + 1 => by
  have ih0 := impl_Weave_add.mono_0 k
  intro ps parents pl st lines bs x
  unfold impl_Weave_add.l0
  repeat' first
   | (with_reducible exact ih0 _ _ _ _ _ _ _)
   | (with_reducible exact impl_Weave_add.mono_1 k _ _ _ _ _ _ _ _ _)
   | (with_reducible exact slices_Contains_int_int.mono _ _ _)
   | (with_reducible exact LeO.refl _)
   | (with_reducible refine LeO.ite ?_ ?_)
   | (with_reducible refine LeO.bind ?_ (fun _ => ?_))
theorem impl_Weave_add.mono : ∀ ps bs parents lines k, LeO (impl_Weave_add.f k ps bs parents lines) (impl_Weave_add.f (k + 1) ps bs parents lines) := by
 intro ps bs parents lines k
 unfold impl_Weave_add.f
 repeat' first
  | (with_reducible exact impl_Weave_add.mono_0 k _ _ _ _ _ _ _)
  | (with_reducible exact impl_closures.mono _ _)
  | (with_reducible exact impl_unionOf.mono _ _ _)
  | (with_reducible exact impl_Weave_liveIn.mono _ _ _ _)
  | (with_reducible exact impl_Weave_linesAt.mono _ _ _ _)
  | (with_reducible exact impl_align.mono _ _ _)
  | (with_reducible exact LeO.refl _)
  | (with_reducible refine LeO.ite ?_ ?_)
  | (with_reducible refine LeO.bind ?_ (fun _ => ?_))
/-- Element i's row of dels: read, grown, stored again. -/
theorem bodyDel {W : World} {base g n cap : Nat} {ok : Nat → Prop} {l : List S123} (h : Kd.S k123 123 W base ok (.slice (some ⟨g, 0, none⟩) n cap) l) (i : Nat) (hi : i < n) (b : S123) (hb : l.getD i z123 = b) (hfresh : ∀ k, W.heap.size ≤ k → ok k) :
  ∃ v3 oki, W.cell? ⟨g, i * 4 + 3, none⟩ = some v3 ∧ W.frozen? ⟨g, i * 4 + 3, none⟩ = false ∧ Kd.R (Kd.int .i64) 3 W base oki v3 b.f3 ∧ (∀ k, oki k → ok k ∧ k ≠ g) ∧
   ∀ (W1 : World) (v4 : Value) (d' : List Int), Kd.R (Kd.int .i64) 3 W1 base (fun k => oki k ∨ W.heap.size ≤ k) v4 d' → W.grownBy W1 v3.ownBlock → Kd.S k123 123 (W1.setCell ⟨g, i * 4 + 3, none⟩ v4) base ok (.slice (some ⟨g, 0, none⟩) n cap) (l.set i ⟨b.f0, b.f1, b.f2, d'⟩) ∧ W1.grownBy (W1.setCell ⟨g, i * 4 + 3, none⟩ v4) (some g) := by
 have hlt : g < W.heap.size := Kd.S_lt h g rfl
 obtain ⟨oki, c, hcl, hM, hcc, hfr, hoki, hH⟩ := Kd.S_elem (Kd.S_mono (Kd.S_bound h) (fun k hk => (⟨hk.1, Nat.not_le.2 hk.2.2.1⟩ : ok k ∧ ¬ W.heap.size ≤ k))) z123 (i : Int) (by omega) (by omega)
 rw [Int.toNat_natCast] at hM hcc hfr
 rw [hb] at hM
 obtain ⟨v3, rfl, h3⟩ := k123_openM hM
 refine ⟨v3, oki, hcc 3 _ rfl, hfr 3, h3, fun k hk => ⟨(hoki k hk).1.1, (hoki k hk).2⟩, fun W1 v4 d' hR hg => ?_⟩
 have := Kd.S_seg (okg := fun k => W.heap.size ≤ k) (okp := fun k => oki k ∨ W.heap.size ≤ k) (Kd.H_grown hH hg (fun k hk => h3.1 k hk)) (by omega) (by omega) (seg := [v4]) (j := 3) (show 4 ≤ 4 by decide) (x' := (⟨b.f0, b.f1, b.f2, d'⟩ : S123)) (k123_mkM _ _ _ (⟨b.f0, b.f1, b.f2, d'⟩ : S123) hR) (fun k hk => hk) (fun k hk => ⟨hfresh k hk, by omega⟩)
 rw [Int.toNat_natCast] at this
 exact this
/-- Element i's Ord is another one. -/
theorem bodyOrd {W : World} {base g n cap : Nat} {ok : Nat → Prop} {l : List S123} (h : Kd.S k123 123 W base ok (.slice (some ⟨g, 0, none⟩) n cap) l) (i : Nat) (hi : i < n) (b : S123) (hb : l.getD i z123 = b) :
  (∃ u, W.cell? ⟨g, i * 4 + 2, none⟩ = some u) ∧ W.frozen? ⟨g, i * 4 + 2, none⟩ = false ∧ ∀ x : Int, Kd.S k123 123 (W.setCell ⟨g, i * 4 + 2, none⟩ (.int .i64 x)) base ok (.slice (some ⟨g, 0, none⟩) n cap) (l.set i ⟨b.f0, b.f1, x, b.f3⟩) ∧ W.grownBy (W.setCell ⟨g, i * 4 + 2, none⟩ (.int .i64 x)) (some g) := by
 obtain ⟨oki, c, hcl, hM, hcc, hfr, hoki, hH⟩ := Kd.S_elem (Kd.S_mono h (fun k hk => (⟨hk, id⟩ : ok k ∧ ¬ False))) z123 (i : Int) (by omega) (by omega)
 rw [Int.toNat_natCast] at hM hcc hfr
 rw [hb] at hM
 obtain ⟨v3, rfl, h3⟩ := k123_openM hM
 refine ⟨⟨_, hcc 2 _ rfl⟩, hfr 2, fun x => ?_⟩
 have := Kd.S_seg (okg := fun _ => False) (okp := oki) hH (by omega) (by omega) (seg := [.int .i64 x]) (j := 2) (show 3 ≤ 4 by decide) (x' := (⟨b.f0, b.f1, x, b.f3⟩ : S123)) (k123_mkM _ _ _ (⟨b.f0, b.f1, x, b.f3⟩ : S123) h3) (fun k hk => .inl hk) (fun k hk => hk.elim)
 rw [Int.toNat_natCast] at this
 exact this
/-- What was made since is nobody's but the call's own: the bodies' blocks are the elder ones and the newest ones. -/
theorem Wv.split {w0 w W : World} {g : Nat} {P : Nat → Prop} {vp vb : Value} {ps : List (List Int)} {bs : List S123} (F : Wv w0 w g P vp vb ps bs) (hb : Below w.heap.size w W) : Wv w0 W g (fun k => P k ∧ (k < w.heap.size ∨ W.heap.size ≤ k)) vp vb ps bs := by
 have G := F.below hb
 refine ⟨G.b, G.n, G.h, Kd.S_mono G.sp (fun k hk => ⟨hk.1, fun h => hk.2 h.1⟩), Kd.S_mono (Kd.S_below (Kd.S_bound F.sb) hb) (fun k hk => ⟨hk.1.1, hk.1.2, .inl hk.2.2.1⟩), fun k hk => ⟨G.fresh k hk, .inr hk⟩⟩
theorem db_ {w w' : World} (h : Drawn0 w w') : Below w.heap.size w w' := by
 obtain ⟨n, rfl⟩ := h.out
 apply pw_below_drewN
 exact Below.refl _ _
theorem Wv.liveIn {w0 w : World} {g : Nat} {P : Nat → Prop} {Ap Ab : Option Addr} {cp cb : Nat} {ps : List (List Int)} {bs : List S123} (F : Wv w0 w g P (.slice Ap ps.length cp) (.slice Ab bs.length cb) ps bs) {k : Nat} {u : Int} {pl : List Int} (h : impl_Weave_liveIn.f k ps bs u = some pl) :
  Calls Try.prog 82 #[.pointer (some ⟨g, 0, none⟩), .int .u64 u] w fun e w' => ∃ v, e = .returned v ∧ Kd.R (.int .i64) 3 w' w.heap.size (fun _ => True) v pl ∧ Below w.heap.size w w' :=
 impl_Weave_liveIn.calls k g _ _ ps _ _ bs u pl w F.h (Kd.S_reads' F.sp).2.2 (Kd.S_reads' F.sp).2.1 (Kd.S_reads' F.sb).2.2 (Kd.S_reads' F.sb).2.1 h
theorem Wv.linesAt {w0 w : World} {g : Nat} {P : Nat → Prop} {Ap Ab : Option Addr} {cp cb : Nat} {ps : List (List Int)} {bs : List S123} (F : Wv w0 w g P (.slice Ap ps.length cp) (.slice Ab bs.length cb) ps bs) {k base : Nat} {ok : Nat → Prop} {A : Option Addr} {c : Nat} {pl : List Int} {ls : List ByteArray} (hp : Kd.R (.int .i64) 3 w base ok (.slice A pl.length c) pl) (h : impl_Weave_linesAt.f k ps bs pl = some ls) :
  Calls Try.prog 81 #[.pointer (some ⟨g, 0, none⟩), .slice A pl.length c] w fun e w' => ∃ v, e = .returned v ∧ Kd.R .string 9 w' w.heap.size (fun _ => True) v ls ∧ Below w.heap.size w w' :=
 impl_Weave_linesAt.calls k g _ _ ps _ _ bs A c pl ls w F.h (Kd.S_reads' F.sp).2.2 (Kd.S_reads' F.sp).2.1 (Kd.S_reads' F.sb).2.2 (Kd.S_reads' F.sb).2.1 (Kd.R_reads' hp).2.2 (Kd.R_reads' hp).2.1 h
theorem rowStep {W w w1 : World} {T : Type} {d : Kd T} {e : Nat} {v : Value} {xs : List T} (hw : Below W.heap.size W w) (h : Kd.R d e w1 w.heap.size (fun _ => True) v xs) : Kd.R d e w1 W.heap.size (fun k => W.heap.size ≤ k ∧ k < w1.heap.size) v xs :=
 Kd.R_mono (Kd.R_lower (Kd.R_bound h) (below_size hw)) (fun k hk => ⟨Nat.le_trans (below_size hw) hk.2.1, hk.2.2.1⟩)
theorem rowOn {W w w1 : World} {T : Type} {d : Kd T} {e : Nat} {v : Value} {xs : List T} (h : Kd.R d e w W.heap.size (fun k => W.heap.size ≤ k ∧ k < w.heap.size) v xs) (hw : Below w.heap.size w w1) : Kd.R d e w1 W.heap.size (fun k => W.heap.size ≤ k ∧ k < w1.heap.size) v xs :=
 Kd.R_mono (Kd.R_below h hw) (fun k hk => ⟨hk.1, Nat.lt_of_lt_of_le hk.2 hw.size⟩)
theorem Wv.parts {w0 w W : World} {g : Nat} {P : Nat → Prop} {vp vb v1 v2 : Value} {ps : List (List Int)} {bs : List S123} {x1 x2 : List Int} (F : Wv w0 w g P vp vb ps bs) (hb : Below w.heap.size w W)
  (h1 : Kd.R (.int .i64) 3 W w.heap.size (fun k => w.heap.size ≤ k ∧ k < W.heap.size) v1 x1) (h2 : Kd.R (.int .i64) 3 W w.heap.size (fun k => w.heap.size ≤ k ∧ k < W.heap.size) v2 x2) :
  ∃ (P5 okP : Nat → Prop) (base : Nat), (∀ k, okP k → ¬ (k = g ∨ P5 k)) ∧ Wv w0 W g P5 vp vb ps bs ∧ Kd.R (.int .i64) 3 W base okP v1 x1 ∧ Kd.R (.int .i64) 3 W base okP v2 x2 := by
 have := blk_lt F.h
 refine ⟨_, _, _, fun k hk h => ?_, F.split hb, h1, h2⟩
 rcases h with h | h
 ·omega
 ·have := h.2; omega
theorem Wv.del {w0 W : World} {g gb cb : Nat} {P : Nat → Prop} {vp : Value} {ps : List (List Int)} {bs : List S123} (F : Wv w0 W g P vp (.slice (some ⟨gb, 0, none⟩) bs.length cb) ps bs) (i : Nat) (hi : i < bs.length) (b : S123) (hb : bs.getD i z123 = b) :
  ∃ v3 oki, W.cell? ⟨gb, i * 4 + 3, none⟩ = some v3 ∧ W.frozen? ⟨gb, i * 4 + 3, none⟩ = false ∧ Kd.R (Kd.int .i64) 3 W w0.heap.size oki v3 b.f3 ∧ (∀ k, W.heap.size ≤ k → oki k) ∧ some g ≠ v3.ownBlock ∧ some gb ≠ v3.ownBlock ∧
   ∀ (W1 : World) (v4 : Value) (d' : List Int), Kd.R (Kd.int .i64) 3 W1 w0.heap.size oki v4 d' → W.grownBy W1 v3.ownBlock → (W1.cell? ⟨gb, i * 4 + 3, none⟩ = some v3 ∧ W1.frozen? ⟨gb, i * 4 + 3, none⟩ = false ∧ W1.cell? ⟨g, 1, none⟩ = some (.slice (some ⟨gb, 0, none⟩) bs.length cb)) ∧ Wv w0 (W1.setCell ⟨gb, i * 4 + 3, none⟩ v4) g P vp (.slice (some ⟨gb, 0, none⟩) bs.length cb) ps (bs.set i ⟨b.f0, b.f1, b.f2, d'⟩) ∧ Kept W (W1.setCell ⟨gb, i * 4 + 3, none⟩ v4) (fun k => k = g ∨ P k) := by
 have hg := blk_lt F.h
 obtain ⟨v3, oki, hc, hf, hr, ho, hn⟩ := bodyDel F.sb i hi b hb (fun k hk => ⟨by omega, F.fresh k hk⟩)
 have hgb : (gb ≠ g ∧ P gb) ∧ w0.heap.size ≤ gb := ⟨(Kd.S_R F.sb).1 gb rfl, Kd.S_base F.sb gb rfl⟩
 have h3 : ∀ k, v3.ownBlock = some k → (k ≠ g ∧ P k) ∧ w0.heap.size ≤ k := fun k hk => ⟨(ho k (hr.1 k hk)).1, Kd.R_base hr k hk⟩
 refine ⟨v3, fun k => oki k ∨ W.heap.size ≤ k, hc, hf, Kd.R_mono hr (fun k hk => .inl hk), fun k hk => .inr hk, fun e => (h3 g e.symm).1.1 rfl, fun e => (ho gb (hr.1 gb e.symm)).2 rfl, fun W1 v4 d' hR hgr => ?_⟩
 obtain ⟨hS, hG⟩ := hn W1 v4 d' hR hgr
 obtain ⟨_, _, e8, _, _, cs8, hb8⟩ := Kd.S_form F.sb (by omega)
 cases e8
 have b8 := blk_grown hb8 hgr (fun e => (ho gb (hr.1 gb e.symm)).2 rfl)
 refine ⟨⟨cell_grown hgr hc (fun e => (ho gb (hr.1 gb e.symm)).2 rfl), blk_frozen b8 _, cell_grown hgr F.cells.2 (fun e => (h3 g e.symm).1.1 rfl)⟩, ⟨pw_below_grown (pw_below_grown F.b _ (below_size F.b) hgr (fun k hk => (h3 k hk).2)) _ (Nat.le_trans (below_size F.b) hgr.size) hG (fun k hk => by cases hk; exact hgb.2), F.n, blk_grown (blk_grown F.h hgr (fun e => (h3 g e.symm).1.1 rfl)) hG (fun e => hgb.1.1 (Option.some.inj e).symm), ?_, hS, fun k hk => F.fresh k (Nat.le_trans (Nat.le_trans hgr.size hG.size) hk)⟩, ?_⟩
 ·exact Kd.S_step (Kd.S_step F.sp (fun k h1 hl => hgr.block k hl (fun e => h1.2 (h3 k e.symm).1.2))) (fun k h1 hl => hG.block k hl (fun e => h1.2 (by cases e; exact hgb.1.2)))
 ·exact Kept.of_grown hG (Kept.of_grown hgr (Kept.refl _ _) (fun k hk => .inl (.inr (h3 k hk).1.2))) (fun k hk => by cases hk; exact .inl (.inr hgb.1.2))
theorem Wv.ord {w0 W : World} {g gb cb : Nat} {P : Nat → Prop} {vp : Value} {ps : List (List Int)} {bs : List S123} (F : Wv w0 W g P vp (.slice (some ⟨gb, 0, none⟩) bs.length cb) ps bs) (i : Nat) (hi : i < bs.length) (b : S123) (hb : bs.getD i z123 = b) :
  (∃ u, W.cell? ⟨gb, i * 4 + 2, none⟩ = some u) ∧ W.frozen? ⟨gb, i * 4 + 2, none⟩ = false ∧ ∀ x : Int, Wv w0 (W.setCell ⟨gb, i * 4 + 2, none⟩ (.int .i64 x)) g P vp (.slice (some ⟨gb, 0, none⟩) bs.length cb) ps (bs.set i ⟨b.f0, b.f1, x, b.f3⟩) ∧ Kept W (W.setCell ⟨gb, i * 4 + 2, none⟩ (.int .i64 x)) (fun k => k = g ∨ P k) := by
 obtain ⟨hc, hf, hn⟩ := bodyOrd F.sb i hi b hb
 have hgb : (gb ≠ g ∧ P gb) ∧ w0.heap.size ≤ gb := ⟨(Kd.S_R F.sb).1 gb rfl, Kd.S_base F.sb gb rfl⟩
 exact ⟨hc, hf, fun x => ⟨F.inner (hn x).2 (fun k hk => by cases hk; exact hgb) (hn x).1, Kept.of_grown (hn x).2 (Kept.refl _ _) (fun k hk => by cases hk; exact .inl (.inr hgb.1.2))⟩⟩
/-- A version's parents are one row more of the graph. -/
theorem Wv.row {w0 w W W1 : World} {g : Nat} {P : Nat → Prop} {vp vb vp1 : Value} {ps ps1 : List (List Int)} {bs : List S123} (F : Wv w0 w g P vp vb ps bs) (hb : Below w.heap.size w W) (hg : W.grownBy W1 vp.ownBlock)
  (hs : Kd.S (Kd.slice 3 (Kd.int .i64)) 45 W1 w0.heap.size (fun k => k ≠ g ∧ ¬ (P k ∧ k < w.heap.size)) vp1 ps1) :
  Wv w0 (W1.setCell ⟨g, 0, none⟩ vp1) g (fun k => P k ∧ (k < w.heap.size ∨ W1.heap.size ≤ k)) vp1 vb ps1 bs := by
 have G := F.below hb
 have hp := fun k hk => (⟨(Kd.S_R G.sp).1 k hk, Kd.S_base G.sp k hk⟩ : (k ≠ g ∧ ¬ P k) ∧ w0.heap.size ≤ k)
 have h1 := blk_grown G.h hg (fun e => (hp g e.symm).1.1 rfl)
 have hz : (W1.setCell ⟨g, 0, none⟩ vp1).heap.size = W1.heap.size := by simp [World.setCell]
 refine ⟨below_set (pw_below_grown G.b _ (below_size G.b) hg (fun k hk => (hp k hk).2)) G.n, G.n, by simpa using blk_set h1 0 vp1, ?_, ?_, fun k hk => ⟨F.fresh k (Nat.le_trans hb.size (Nat.le_trans hg.size (by omega))), .inr (by omega)⟩⟩
 ·refine Kd.S_far (p := ⟨g, 0, none⟩) (Kd.S_mono (Kd.S_bound hs) (fun k hk => ⟨hk.1.1, fun h => ?_⟩)) (fun k hk => hk.1) _
  rcases h.2 with h2 | h2
  ·exact hk.1.2 ⟨h.1, h2⟩
  ·have := hk.2.2.1; omega
 ·exact Kd.S_far (p := ⟨g, 0, none⟩) (Kd.S_mono (Kd.S_step (Kd.S_below (Kd.S_bound F.sb) hb) (fun k hk hl => hg.block k hl (fun e => (hp k e.symm).1.2 hk.1.2))) (fun k hk => ⟨hk.1.1, hk.1.2, .inl hk.2.2.1⟩)) (fun k hk => hk.1) _
theorem insertIdx_set {α : Type} (a b : α) : ∀ (l : List α) (i : Nat), i ≤ l.length → (l.insertIdx i a).set i b = l.insertIdx i b
 | l, 0, _ => by simp
 | [], i + 1, h => absurd h (by simp)
 | x :: l, i + 1, h => by simp only [List.insertIdx_succ_cons, List.set_cons_succ]; rw [insertIdx_set a b l i (by simpa using h)]
theorem insertIdx_getD {α : Type} (a z : α) : ∀ (l : List α) (i : Nat), i ≤ l.length → (l.insertIdx i a).getD i z = a
 | l, 0, _ => by simp
 | [], i + 1, h => absurd h (by simp)
 | x :: l, i + 1, h => by simp only [List.insertIdx_succ_cons, List.getD_cons_succ]; exact insertIdx_getD a z l i (by simpa using h)
theorem Wv.newer {w0 W : World} {g k : Nat} {P : Nat → Prop} {vp vb : Value} {ps : List (List Int)} {bs : List S123} (F : Wv w0 W g P vp vb ps bs) (hk : W.heap.size ≤ k) : (k ≠ g ∧ ¬ (P k ∧ k < W.heap.size)) ∧ some k ≠ vp.ownBlock :=
 have := blk_lt F.h
 ⟨⟨by omega, fun h => by have := h.2; omega⟩, fun e => by have := Kd.S_lt F.sp k e.symm; omega⟩
theorem wrap64_id (x : Int) (h1 : -9223372036854775808 ≤ x) (h2 : x < 9223372036854775808) : wrap64 x = x := by
 simp only [wrap64]; omega
theorem Wv.newer' {w0 W : World} {g k : Nat} {P : Nat → Prop} {vp vb : Value} {ps : List (List Int)} {bs : List S123} (F : Wv w0 W g P vp vb ps bs) (hk : W.heap.size ≤ k) : k ≠ g ∧ P k :=
 have := blk_lt F.h
 ⟨by omega, F.fresh k hk⟩
set_option maxHeartbeats 8000000 in
set_option maxRecDepth 100000 in
theorem impl_Weave_add.calls (k : Nat) (w0 w : World) (g : Nat) (P : Nat → Prop) (vp vb : Value) (ps : List (List Int)) (bs : List S123) (A1 : Option Addr) (c1 : Nat) (parents : List Int) (A2 : Option Addr) (c2 : Nat) (lines : List ByteArray) (r1 : List (List Int)) (r2 : List S123) (r3 : Bool) (HW0 : Wv w0 w g P vp vb ps bs) (hr1 : Kd.C (Kd.int .i64) w0 A1 parents.length parents) (hc1 : parents.length ≤ c1) (hr2 : Kd.C Kd.string w0 A2 lines.length lines) (hc2 : lines.length ≤ c2) (h : impl_Weave_add.f k ps bs parents lines = some (r1, r2, r3)) :
  Calls Try.prog 72 #[.pointer (some ⟨g, 0, none⟩), .slice A1 parents.length c1, .slice A2 lines.length c2] w fun e w' => ∃ (P' : Nat → Prop) (vp' vb' : Value), e = .returned (.bool r3) ∧ Wv w0 w' g P' vp' vb' r1 r2 := by
 have hu32 := Try.underlying32
 have hu123 := Try.underlying123
 have HW := Aside0.mk HW0
 have HR1 := Aside0.mk hr1
 have HC1 := Aside0.mk hc1
 have HR2 := Aside0.mk hr2
 have HC2 := Aside0.mk hc2
 clear HW0 hr1 hc1 hr2 hc2
 obtain ⟨Ap, cp, rfl⟩ := Kd.S_slice HW.out.sp
 obtain ⟨Ab, cb, rfl⟩ := Kd.S_slice HW.out.sb
 obtain ⟨z0, z1⟩ := HW.out.cells
 unfold impl_Weave_add.f at h
 by_cases c40 : (ps.length : Int) ≥ 40
 ·rw [if_pos c40] at h
  simp only [Option.some.injEq, Prod.mk.injEq] at h
  obtain ⟨rfl, rfl, rfl⟩ := h
  have c40b : decide ((ps.length : Int) ≥ 40) = true := by simpa using c40
  go_enter Try.func72, Try.ntmps72
  go_wp2
  go_ret
  exact ⟨P, _, _, rfl, HW.out⟩
 rw [if_neg c40] at h
 have c40b : decide ((ps.length : Int) ≥ 40) = false := by simpa using c40
 replace h := Option.bind_eq_some_iff.mp h; obtain ⟨cl, hcl, h⟩ := h
 replace h := Option.bind_eq_some_iff.mp h; obtain ⟨u, hu, h⟩ := h
 replace h := Option.bind_eq_some_iff.mp h; obtain ⟨pl, hpl, h⟩ := h
 replace h := Option.bind_eq_some_iff.mp h; obtain ⟨ls, hls, h⟩ := h
 replace h := Option.bind_eq_some_iff.mp h; obtain ⟨st, hst, h⟩ := h
 have HCL := Aside0.mk hcl
 have HU := Aside0.mk hu
 have HPL := Aside0.mk hpl
 have HLS := Aside0.mk hls
 have HST := Aside0.mk hst
 have HH := Aside0.mk h
 clear hcl hu hpl hls hst h
 go_enter Try.func72, Try.ntmps72
 go_upto_region 6 with (first
  | (go_at_call 84; (try simp only [i64_w]); (with_reducible refine (impl_closures.calls k _ _ ps cl _ ?side1 ?side2 HCL.out).mono ?_); (case side1 => exact (Kd.S_reads' HW.out.sp).2.2); (case side2 => exact (Kd.S_reads' HW.out.sp).2.1); rintro e w1 ⟨vc, rfl, ho, hb⟩; obtain ⟨Ac, cc, rfl⟩ := Kd.R_slice ho; have HB1 := Aside0.mk hb; have HCL1 := Aside0.mk ho; clear ho hb)
  | (go_at_call 83; (try simp only [i64_w]); (with_reducible refine (impl_unionOf.calls k _ _ cl _ _ parents u _ ?side1 ?side2 ?side3 ?side4 HU.out).mono ?_); (case side1 => exact (Kd.R_reads' HCL1.out).2.2); (case side2 => exact (Kd.R_reads' HCL1.out).2.1); (case side3 => exact Kd.C_below HR1.out (HW.out.below HB1.out).b); (case side4 => exact HC1.out); rintro e w2 ⟨rfl, hd⟩; have HB2 := Aside0.mk (below_step HB1.out (db_ hd)); clear hd; have HCX := Aside0.mk ((HW.out.below HB2.out).liveIn HPL.out))
  | (go_at_call 82; refine HCX.out.mono ?_; clear HCX; rintro e w3 ⟨vl, rfl, ho, hb⟩; obtain ⟨Al, cl_, rfl⟩ := Kd.R_slice ho; have HP3 := Aside0.mk (rowStep HB2.out ho); have HB3 := Aside0.mk (below_step HB2.out hb); clear ho hb; have HCX := Aside0.mk ((HW.out.below HB3.out).linesAt HP3.out HLS.out))
  | (go_at_call 81; refine HCX.out.mono ?_; clear HCX; rintro e w4 ⟨vn, rfl, ho, hb⟩; obtain ⟨An, cn, rfl⟩ := Kd.R_slice ho; have HP4 := Aside0.mk (rowOn HP3.out hb); have HB4 := Aside0.mk (below_step HB3.out hb); have HCX := Aside0.mk (impl_align.calls k _ _ ls _ _ lines st w4 (Kd.R_reads' ho).2.2 (Kd.R_reads' ho).2.1 (Kd.C_below HR2.out (HW.out.below HB4.out).b) HC2.out HST.out); clear ho hb HP3)
  | (go_at_call 118; refine HCX.out.mono ?_; clear HCX; rintro e w5 ⟨vs, rfl, ho, hb⟩; obtain ⟨As, cs, rfl⟩ := Kd.R_slice ho; have HP5 := Aside0.mk (rowOn HP4.out hb); have HS5 := Aside0.mk (rowStep HB4.out ho); have HB5 := Aside0.mk (below_step HB4.out hb); clear ho hb HP4))
 obtain ⟨P5, okP, base, hne5, HV5, hp5, hs5⟩ := HW.out.parts HB5.out HP5.out HS5.out
 have HN5 := Aside0.mk hne5
 have HV := Aside0.mk HV5
 have HP := Aside0.mk hp5
 have HS := Aside0.mk hs5
 clear hne5 HV5 hp5 hs5 HB1 HB2 HB3 HB4 HB5 HP5 HS5 HCL1 HW z0 z1 c40b
 go_wp2
 go_loopg [43] k (fun kq v43 w' => ∃ (bs' : List S123) (vb' : Value) (x : Int), v43 = .int .i64 x ∧ Aside0 (impl_Weave_add.l0 kq ps parents pl st lines bs' x = some (r1, r2, r3)) ∧ Aside0 (kq ≤ k) ∧ Aside0 (Wv w0 w' g P5 (.slice Ap ps.length cp) vb' ps bs') ∧ Aside0 (Kd.R (.int .i64) 3 w' base okP (.slice Al pl.length cl_) pl) ∧ Aside0 (Kd.R (.int .i64) 3 w' base okP (.slice As st.length cs) st))
 case atStart => exact ⟨_, _, 0, rfl, HH, ⟨Nat.le_refl _⟩, HV, HP, HS⟩
 case round =>
  clear HH HV HP HS
  obtain ⟨bs', vb', x, rfl, HA, HK1, HV, HP, HS⟩ := hrel
  cases gk with
  | zero => exact absurd HA.out (by simp [impl_Weave_add.l0])
  | succ k1 =>
   have H := HA.out
   clear HA
   simp only [impl_Weave_add.l0] at H
   by_cases c6 : x < (pl.length : Int)
   ·rw [if_pos c6] at H
    have c6b : decide (x < (pl.length : Int)) = true := decide_eq_true c6
    by_cases c7 : 0 ≤ x
    case neg => rw [if_neg c7] at H; exact absurd H (by simp)
    rw [if_pos c7] at H
    replace H := Option.bind_eq_some_iff.mp H
    obtain ⟨c, hc, H⟩ := H
    obtain ⟨gl, cl8, e8, _⟩ := Kd.R_form HP.out (by omega)
    cases e8
    have gi : wr.cell? ⟨gl, x.toNat, none⟩ = some (.int .i64 (rd pl x)) := (Kd.R_cell (0 : Int) HP.out x c7 c6).1
    have HCX := Aside0.mk (slices_Contains_int_int.calls k1 As cs st x c wr (Kd.R_reads' HS.out).2.2 (Kd.R_reads' HS.out).2.1 hc)
    have HH := Aside0.mk H
    replace c7 := eq_true c7
    replace c6 := eq_true c6
    clear hc H
    cases c with
    | true =>
     have HH' := Aside0.mk (show impl_Weave_add.l0 k1 ps parents pl st lines bs' (wrap64 (x + 1)) = some (r1, r2, r3) from HH.out)
     go_wp2_with (first | (go_at_call 119; refine HCX.out.mono ?_; clear HCX; rintro e w7 ⟨rfl, ⟨nd, rfl⟩⟩))
     go_roundg k1
     case measure => have := HK1.out; omega
     case rel => exact ⟨bs', vb', wrap64 (x + 1), (by first | rfl | (simp; done) | (simp [*]; done)), HH', ⟨by have := HK1.out; omega⟩, ⟨HV.out.below (pw_below_drewN (Below.refl _ _) nd)⟩, ⟨Kd.R_drewN HP.out nd⟩, ⟨Kd.R_drewN HS.out nd⟩⟩
    | false =>
     have H := HH.out
     clear HH
     rw [if_neg (by decide)] at H
     by_cases c8 : 0 ≤ rd pl x
     case neg => rw [if_neg c8] at H; exact absurd H (by simp)
     rw [if_pos c8] at H
     by_cases c9 : rd pl x < (bs'.length : Int)
     case neg => rw [if_neg c9] at H; exact absurd H (by simp)
     rw [if_pos c9] at H
     by_cases c10 : (rd_T123 bs' (rd pl x)).f3.length < 17592186044415
     case neg => rw [if_neg c10] at H; exact absurd H (by simp)
     rw [if_pos c10] at H
     have HH := Aside0.mk H
     have HL10 := Aside0.mk c10
     clear H c10
     go_upto_region 10 with (first | (go_at_call 119; refine HCX.out.mono ?_; clear HCX; rintro e w7 ⟨rfl, ⟨nd, rfl⟩⟩))
     have HV8 := Aside0.mk (HV.out.below (pw_below_drewN (Below.refl wr.heap.size wr) nd))
     have HP8 := Aside0.mk (Kd.R_drewN HP.out nd)
     have HS8 := Aside0.mk (Kd.R_drewN HS.out nd)
     clear HV HP HS gi
     generalize wr.drewN nd = w8 at HV8 HP8 HS8 ⊢
     obtain ⟨gb, cbb, eb, _⟩ := Kd.S_form HV8.out.sb (by omega)
     cases eb
     have HVD := Aside0.mk (HV8.out.below (below_drew1 (Below.refl w8.heap.size w8)))
     obtain ⟨v3, oki, d3, -, hr3, hfr3, ng, ngb, hnx⟩ := HVD.out.del (rd pl x).toNat (by omega) (rd_T123 bs' (rd pl x)) rfl
     obtain ⟨Ad, cd, rfl⟩ := Kd.R_slice hr3
     have q1 : w8.cell? ⟨g, 1, none⟩ = some (.slice (some ⟨gb, 0, none⟩) bs'.length cbb) := HV8.out.cells.2
     have K8 := Aside0.mk (show w8.drew.cell? ⟨g, 1, none⟩ = some (.slice (some ⟨gb, 0, none⟩) bs'.length cbb) from q1)
     have hbA : Below w8.drew.heap.size w8.drew (w8.drew.alloc (.cells #[.int .i64 (ps.length : Int)] 3)) := below_alloc (Below.refl _ _) _
     have KA := Aside0.mk (pw_cell_below hbA K8.out)
     have dA := pw_cell_below hbA d3
     have d3w : w8.cell? ⟨gb, (rd pl x).toNat * 4 + 3, none⟩ = some (.slice Ad (rd_T123 bs' (rd pl x)).f3.length cd) := d3
     have HR3 := Aside0.mk hr3
     have HNX := Aside0.mk hnx
     have HFR := Aside0.mk hfr3
     replace c8 := eq_true c8
     replace c9 := eq_true c9
     clear hr3 hnx hfr3 hbA
     refine wp_region_noPanic ?_
     refine wp_region_held_drew (S := (fun W' => W'.cell? ⟨g, 1, none⟩ = some (.slice (some ⟨gb, 0, none⟩) bs'.length cbb))) (by kernel_rfl) (by (try dsimp only); (first | exact K8.out | exact KA.out | exact KC.out | exact KD.out)) (fun hHeld => ?_)
     (refine wpAnyH_take (i := 0) (oi := _) (v := ?_) rfl (by kernel_rfl) (by kernel_rfl) (by kernel_rfl) (fun _ _ _ h => h) (Or.inl ⟨by rfl, ?_⟩) (by assumption) ?_; rotate_left; (· (intro w hSw; (try dsimp only at hSw); go_simp; try with_reducible rfl)); (try simp only [Act.put, List.setIfInBounds_toArray, List.set_cons_zero, List.set_cons_succ]))
     (refine wpAnyH_take (i := 1) (oi := _) (v := ?_) rfl (by kernel_rfl) (by kernel_rfl) (by kernel_rfl) (fun _ _ _ h => h) (Or.inl ⟨by rfl, ?_⟩) (by assumption) ?_; rotate_left; (· (intro w hSw; (try dsimp only at hSw); go_simp; try with_reducible rfl)); (try simp only [Act.put, List.setIfInBounds_toArray, List.set_cons_zero, List.set_cons_succ]))
     (refine wpAnyH_take (i := 2) (oi := _) (v := ?_) rfl (by kernel_rfl) (by kernel_rfl) (by kernel_rfl) (fun _ _ _ h => h) (Or.inl ⟨by rfl, ?_⟩) (by assumption) ?_; rotate_left; (· (intro w hSw; (try dsimp only at hSw); go_simp; try with_reducible rfl)); (try simp only [Act.put, List.setIfInBounds_toArray, List.set_cons_zero, List.set_cons_succ]))
     (refine wpAnyH_take (i := 3) (oi := _) (v := ?_) rfl (by kernel_rfl) (by kernel_rfl) (by kernel_rfl) (fun _ _ _ h => h) (Or.inl ⟨by rfl, ?_⟩) (by assumption) ?_; rotate_left; (· (intro w hSw; (try dsimp only at hSw); go_simp; try with_reducible rfl)); (try simp only [Act.put, List.setIfInBounds_toArray, List.set_cons_zero, List.set_cons_succ]))
     (refine wpAnyH_take (i := 4) (oi := _) (v := ?_) rfl (by kernel_rfl) (by kernel_rfl) (by kernel_rfl) (fun _ _ _ h => h) (Or.inl ⟨by rfl, ?_⟩) (by assumption) ?_; rotate_left; (· (intro w hSw; (try dsimp only at hSw); go_simp; try with_reducible rfl)); (try simp only [Act.put, List.setIfInBounds_toArray, List.set_cons_zero, List.set_cons_succ]))
     (refine wpAnyH_take (i := 5) (oi := _) (v := ?_) rfl (by kernel_rfl) (by kernel_rfl) (by kernel_rfl) (fun _ _ _ h => h) (Or.inl ⟨by rfl, ?_⟩) (by assumption) ?_; rotate_left; (· (intro w hSw; (try dsimp only at hSw); go_simp; try with_reducible rfl)); (try simp only [Act.put, List.setIfInBounds_toArray, List.set_cons_zero, List.set_cons_succ]))
     (refine wpAnyH_take (i := 6) (oi := _) (v := ?_) rfl (by kernel_rfl) (by kernel_rfl) (by kernel_rfl) (fun _ _ _ h => h) (Or.inl ⟨by rfl, ?_⟩) (by assumption) ?_; rotate_left; (· (intro w hSw; (try dsimp only at hSw); go_simp; try with_reducible rfl)); (try simp only [Act.put, List.setIfInBounds_toArray, List.set_cons_zero, List.set_cons_succ]))
     (refine wpAnyH_take (i := 7) (oi := _) (v := ?_) rfl (by kernel_rfl) (by kernel_rfl) (by kernel_rfl) (fun _ _ _ h => h) (Or.inl ⟨by rfl, ?_⟩) (by assumption) ?_; rotate_left; (· (intro w hSw; (try dsimp only at hSw); go_simp; try with_reducible rfl)); (try simp only [Act.put, List.setIfInBounds_toArray, List.set_cons_zero, List.set_cons_succ]))
     (refine wpAnyH_take (i := 8) (oi := _) (v := ?_) rfl (by kernel_rfl) (by kernel_rfl) (by kernel_rfl) (fun _ _ _ h => h) (Or.inl ⟨by rfl, ?_⟩) (by assumption) ?_; rotate_left; (· (intro w hSw; (try dsimp only at hSw); go_simp; try with_reducible rfl)); (try simp only [Act.put, List.setIfInBounds_toArray, List.set_cons_zero, List.set_cons_succ]))
     (refine wpAnyH_take (i := 9) (oi := _) (v := ?_) rfl (by kernel_rfl) (by kernel_rfl) (by kernel_rfl) (fun _ _ _ h => h) (Or.inl ⟨by rfl, ?_⟩) (by assumption) ?_; rotate_left; (· (intro w hSw; (try dsimp only at hSw); go_simp; try with_reducible rfl)); (try simp only [Act.put, List.setIfInBounds_toArray, List.set_cons_zero, List.set_cons_succ]))
     (refine wpAnyH_take (i := 10) (oi := _) (v := ?_) rfl (by kernel_rfl) (by kernel_rfl) (by kernel_rfl) (fun _ _ _ h => h) (Or.inl ⟨by rfl, ?_⟩) (by assumption) ?_; rotate_left; (· (intro w hSw; (try dsimp only at hSw); go_simp; try with_reducible rfl)); (try simp only [Act.put, List.setIfInBounds_toArray, List.set_cons_zero, List.set_cons_succ]))
     (refine wpAnyH_take (i := 11) (oi := _) (v := ?_) rfl (by kernel_rfl) (by kernel_rfl) (by kernel_rfl) (fun _ _ _ h => h) (Or.inl ⟨by rfl, ?_⟩) (by assumption) ?_; rotate_left; (· (intro w hSw; (try dsimp only at hSw); go_simp; try with_reducible rfl)); (try simp only [Act.put, List.setIfInBounds_toArray, List.set_cons_zero, List.set_cons_succ]))
     (refine wpAnyH_take (i := 13) (oi := _) (v := ?_) rfl (by kernel_rfl) (by kernel_rfl) (by kernel_rfl) (fun _ _ _ h => h) (Or.inl ⟨by rfl, ?_⟩) (by assumption) ?_; rotate_left; (· (intro w hSw; (try dsimp only at hSw); go_simp; try with_reducible rfl)); (try simp only [Act.put, List.setIfInBounds_toArray, List.set_cons_zero, List.set_cons_succ]))
     all_goals (first | (refine wpAnyH_ready (rs := [14]) (by decide +kernel) (by simp) ?_; refine AllReadyH.cons (o := _) rfl (fun K hK => ?_) AllReadyH.nil) | (refine wpAnyH_ready (rs := [12, 14]) (by kernel_rfl) (by simp) ?_; refine AllReadyH.cons (o := _) rfl (fun K hK => ?_) (AllReadyH.cons (o := _) rfl (fun K hK => ?_) AllReadyH.nil); go_simp; refine hK.out _ _ (by (try dsimp only); (first | exact K8.out | exact KA.out | exact KC.out | exact KD.out)) (fun hHeld => ?_); clear hK K; (try simp only [Act.put, List.setIfInBounds_toArray, List.set_cons_zero, List.set_cons_succ]); (refine wpAnyH_ready (rs := [14]) (by decide +kernel) (by simp) ?_; refine AllReadyH.cons (o := _) rfl (fun K hK => ?_) AllReadyH.nil)))
     all_goals (go_simp; refine hK.out _ _ (by (try dsimp only); (first | exact K8.out | exact KA.out | exact KC.out | exact KD.out)) (fun hHeld => ?_); clear hK K; (try simp only [Act.put, List.setIfInBounds_toArray, List.set_cons_zero, List.set_cons_succ]))
     all_goals (first | (refine wpAnyH_ready (rs := [15]) (by decide +kernel) (by simp) ?_; refine AllReadyH.cons (o := _) rfl (fun K hK => ?_) AllReadyH.nil) | ((refine wpAnyH_ready (rs := [12]) (by decide +kernel) (by simp) ?_; refine AllReadyH.cons (o := _) rfl (fun K hK => ?_) AllReadyH.nil); go_simp; refine hK.out _ _ (by (try dsimp only); (first | exact K8.out | exact KA.out | exact KC.out | exact KD.out)) (fun hHeld => ?_); clear hK K; (try simp only [Act.put, List.setIfInBounds_toArray, List.set_cons_zero, List.set_cons_succ]); (refine wpAnyH_ready (rs := [15]) (by decide +kernel) (by simp) ?_; refine AllReadyH.cons (o := _) rfl (fun K hK => ?_) AllReadyH.nil)))
     all_goals ((refine Kd.R_append_step (W := w8.drew) (Kd.int .i64) (w0 := w0) w0.heap.size (by rfl) (.tmp 64) (.tmp 66) 45 3 (.int .i64 0) 8 rfl Try.underlying45 info3 rfl (by decide) (by omega) (.slice Ad (rd_T123 bs' (rd pl x)).f3.length cd) (rd_T123 bs' (rd pl x)).f3 (ps.length : Int) [.int .i64 (ps.length : Int)] oki (fun _ => False) rfl rfl ?aP (fun _ hk => hk.elim) HFR.out HR3.out HVD.out.b (below_size HVD.out.b) ?aL ?_; (case aP => exact rfl); (case aL => have := HL10.out; omega); intro v7 wC ho hB hg hat; obtain ⟨A7, c7_, e7⟩ := Kd.R_slice ho; rw [List.length_append, List.length_cons, List.length_nil, Nat.zero_add] at e7; subst e7; obtain ⟨⟨dC, fC, qC⟩, hvC, hkC⟩ := HNX.out wC _ _ ho hg; have KC := Aside0.mk qC; have HVC := Aside0.mk hvC; have HKC := Aside0.mk hkC; have KD := Aside0.mk hvC.cells.2; clear ho hB hg hat hvC hkC); refine hK.out _ _ (by (try dsimp only); (first | exact K8.out | exact KA.out | exact KC.out | exact KD.out)) (fun hHeld => ?_); clear hK K; (try simp only [Act.put, List.setIfInBounds_toArray, List.set_cons_zero, List.set_cons_succ]))
     all_goals (refine wpAnyH_take (i := 16) (oi := _) (v := ?_) rfl (by kernel_rfl) (by kernel_rfl) (by kernel_rfl) (fun _ _ _ h => h) (Or.inl ⟨by rfl, ?_⟩) (by assumption) ?_; rotate_left; (· (intro w hSw; (try dsimp only at hSw); go_simp; try with_reducible rfl)); (try simp only [Act.put, List.setIfInBounds_toArray, List.set_cons_zero, List.set_cons_succ]))
     all_goals (refine wpAnyH_take (i := 17) (oi := _) (v := ?_) rfl (by kernel_rfl) (by kernel_rfl) (by kernel_rfl) (fun _ _ _ h => h) (Or.inl ⟨by rfl, ?_⟩) (by assumption) ?_; rotate_left; (· (intro w hSw; (try dsimp only at hSw); go_simp; try with_reducible rfl)); (try simp only [Act.put, List.setIfInBounds_toArray, List.set_cons_zero, List.set_cons_succ]))
     all_goals (refine wpAnyH_ready (rs := [18]) (by decide +kernel) (by simp) ?_; refine AllReadyH.cons (o := _) rfl (fun K hK => ?_) AllReadyH.nil)
     all_goals (go_simp; refine hK.out _ _ (by (try dsimp only); (first | exact K8.out | exact KA.out | exact KC.out | exact KD.out)) (fun hHeld => ?_); clear hK K; (try simp only [Act.put, List.setIfInBounds_toArray, List.set_cons_zero, List.set_cons_succ]))
     all_goals (refine wpAnyH_done (by kernel_rfl) ?_ _)
     all_goals (refine NoPanic.normal ?_)
     all_goals
      have HK9 := Aside0.mk ((Kept.of_below (below_drew1 (Below.refl w8.heap.size w8)) (fun k => k = g ∨ P5 k)).then_ HKC.out (fun _ h => .inl h))
      have HP9 := Aside0.mk (Kd.R_kept HP8.out HK9.out HN5.out)
      have HS9 := Aside0.mk (Kd.R_kept HS8.out HK9.out HN5.out)
      clear HKC HK9 HP8 HS8 KC KD KA K8 HFR HNX HR3 HVD HV8 d3 dA d3w dC fC qC q1
      generalize wC.setCell ⟨gb, (rd pl x).toNat * 4 + 3, none⟩ (.slice A7 ((rd_T123 bs' (rd pl x)).f3.length + 1) c7_) = w9 at HVC HP9 HS9 ⊢
      go_wp2
      go_roundg k1
      case measure => have := HK1.out; omega
      case rel => exact ⟨_, _, wrap64 (x + 1), (by first | rfl | (simp; done) | (simp [*]; done)), HH, ⟨by have := HK1.out; omega⟩, HVC, HP9, HS9⟩
   ·rw [if_neg c6] at H
    have c6b : decide (x < (pl.length : Int)) = false := decide_eq_false c6
    have HH := Aside0.mk H
    clear H c6
    go_upto_region 13 with (fail)
    go_wp2
    go_loopg [12, 13, 73] k1 (fun kq v12 v13 v73 w' => ∃ (bs' : List S123) (vb' : Value) (at_ born j : Int), v12 = .int .i64 at_ ∧ v13 = .int .i64 born ∧ v73 = .int .i64 j ∧ Aside0 (impl_Weave_add.l1 kq ps parents pl st lines bs' at_ born j = some (r1, r2, r3)) ∧ Aside0 (kq ≤ k1) ∧ Aside0 (Wv w0 w' g P5 (.slice Ap ps.length cp) vb' ps bs') ∧ Aside0 (Kd.R (.int .i64) 3 w' base okP (.slice Al pl.length cl_) pl) ∧ Aside0 (Kd.R (.int .i64) 3 w' base okP (.slice As st.length cs) st))
    case atStart => exact ⟨_, _, 0, 0, 0, rfl, rfl, rfl, HH, ⟨Nat.le_refl _⟩, HV, HP, HS⟩
    case round =>
     clear HH HV HP HS
     obtain ⟨bs', vb', at_, born, j, rfl, rfl, rfl, HA, HK1, HV, HP, HS⟩ := hrel
     cases gk with
     | zero => exact absurd HA.out (by simp [impl_Weave_add.l1])
     | succ k2 =>
      have H := HA.out
      clear HA
      simp only [impl_Weave_add.l1] at H
      by_cases c6 : j < (lines.length : Int)
      ·rw [if_pos c6] at H
       have c6b : decide (j < (lines.length : Int)) = true := decide_eq_true c6
       by_cases c7 : 0 ≤ j
       case neg => rw [if_neg c7] at H; exact absurd H (by simp)
       rw [if_pos c7] at H
       by_cases c8 : j < (st.length : Int)
       case neg => rw [if_neg c8] at H; exact absurd H (by simp)
       rw [if_pos c8] at H
       obtain ⟨al, el, hl0⟩ := Kd.at_string (Kd.C_below HR2.out HV.out.b) j c7 c6
       cases el
       obtain ⟨gs, cs8, e8, _⟩ := Kd.R_form HS.out (by omega)
       cases e8
       have gi : wr.cell? ⟨gs, j.toNat, none⟩ = some (.int .i64 (rd st j)) := (Kd.R_cell (0 : Int) HS.out j c7 c8).1
       replace c6 := eq_true c6
       replace c7 := eq_true c7
       replace c8 := eq_true c8
       by_cases c9 : rd st j ≥ 0
       ·rw [if_pos c9] at H
        have c9b : decide (rd st j ≥ 0) = true := decide_eq_true c9
        by_cases c10 : rd st j < (pl.length : Int)
        case neg => rw [if_neg c10] at H; exact absurd H (by simp)
        rw [if_pos c10] at H
        have HH := Aside0.mk H
        obtain ⟨gl, cl8, e8, _⟩ := Kd.R_form HP.out (by omega)
        cases e8
        have gi2 : wr.cell? ⟨gl, (rd st j).toNat, none⟩ = some (.int .i64 (rd pl (rd st j))) := (Kd.R_cell (0 : Int) HP.out (rd st j) c9 c10).1
        replace c9 : (0 ≤ rd st j) = True := eq_true c9
        replace c10 := eq_true c10
        clear H
        go_wp2
        go_roundg k2
        case measure => have := HK1.out; omega
        case rel => exact ⟨bs', vb', _, born, wrap64 (j + 1), (by first | rfl | (simp; done) | (simp [*]; done)), rfl, (by first | rfl | (simp; done) | (simp [*]; done)), HH, ⟨by have := HK1.out; omega⟩, HV, HP, HS⟩
       ·rw [if_neg c9] at H
        have c9b : decide (rd st j ≥ 0) = false := decide_eq_false c9
        by_cases c10 : 0 ≤ at_
        case neg => rw [if_neg c10] at H; exact absurd H (by simp)
        rw [if_pos c10] at H
        by_cases c11 : at_ ≤ (bs'.length : Int)
        case neg => rw [if_neg c11] at H; exact absurd H (by simp)
        rw [if_pos c11] at H
        by_cases c12 : bs'.length < 2513169434915
        case neg => rw [if_neg c12] at H; exact absurd H (by simp)
        rw [if_pos c12] at H
        have HH := Aside0.mk H
        have e10 : ((at_.toNat : Nat) : Int) = at_ := Int.toNat_of_nonneg c10
        have hcx := weave_insert w0 wr g P5 (.slice Ap ps.length cp) vb' ps bs' HV.out at_.toNat (rdOf ByteArray.empty lines j) (ps.length : Int) (by omega) (by omega)
        rw [e10] at hcx
        have HCX := Aside0.mk hcx
        obtain ⟨bs1, hb1⟩ : ∃ b, bs'.insertIdx at_.toNat (⟨rdOf ByteArray.empty lines j, (ps.length : Int), 0, []⟩ : S123) = b := ⟨_, rfl⟩
        have hw13 : wrap64 (at_ + 1) = at_ + 1 := wrap64_id _ (by omega) (by omega)
        have hl1 : bs1.length = bs'.length + 1 := by rw [← hb1]; exact List.length_insertIdx_of_le_length (by omega) _
        have c13 : at_ < (bs1.length : Int) := by omega
        have hd1 : bs1.getD at_.toNat z123 = ⟨rdOf ByteArray.empty lines j, (ps.length : Int), 0, []⟩ := by rw [← hb1]; exact insertIdx_getD _ _ _ _ (by omega)
        have hs1 : bs1.set at_.toNat ⟨rdOf ByteArray.empty lines j, (ps.length : Int), born, []⟩ = bs'.insertIdx at_.toNat ⟨rdOf ByteArray.empty lines j, (ps.length : Int), born, []⟩ := by rw [← hb1]; exact insertIdx_set _ _ _ _ (by omega)
        rw [← hs1] at HH
        rw [hb1] at HCX
        have HD1 := Aside0.mk hd1
        have HL1 := Aside0.mk hl1
        clear hcx hb1 hl1 hd1 hs1 H
        go_upto_region 19 with (first | (go_at_call 120; refine HCX.out.mono ?_; clear HCX; rintro e w8 ⟨vb8, rfl, hv8, hk8⟩; have HV8 := Aside0.mk hv8; have HP8 := Aside0.mk (Kd.R_kept HP.out hk8 HN5.out); have HS8 := Aside0.mk (Kd.R_kept HS.out hk8 HN5.out); clear hv8 hk8))
        clear HV HP HS gi hl0
        obtain ⟨gb, cbb, eb, _⟩ := Kd.S_form HV8.out.sb (by omega)
        cases eb
        have q1 : w8.cell? ⟨g, 1, none⟩ = some (.slice (some ⟨gb, 0, none⟩) bs1.length cbb) := HV8.out.cells.2
        obtain ⟨⟨u8, oc8⟩, of8, hn8⟩ := HV8.out.ord at_.toNat (by omega) _ HD1.out
        obtain ⟨hv9, hk9⟩ := hn8 born
        have HV9 := Aside0.mk hv9
        have HP9 := Aside0.mk (Kd.R_kept HP8.out hk9 HN5.out)
        have HS9 := Aside0.mk (Kd.R_kept HS8.out hk9 HN5.out)
        replace c10 := eq_true c10
        replace c13 := eq_true c13
        clear hn8 hv9 hk9 HV8 HP8 HS8
        go_upto_region 20 with (fail)
        clear q1 oc8 of8
        go_wp2
        go_roundg k2
        case measure => have := HK1.out; omega
        case rel => exact ⟨_, _, wrap64 (at_ + 1), wrap64 (born + 1), wrap64 (j + 1), (by first | rfl | (simp; done) | (simp [*]; done) | (rw [hw13]; done)), (by first | rfl | (simp; done) | (simp [*]; done)), (by first | rfl | (simp; done) | (simp [*]; done)), HH, ⟨by have := HK1.out; omega⟩, HV9, HP9, HS9⟩
      ·rw [if_neg c6] at H
       have c6b : decide (j < (lines.length : Int)) = false := decide_eq_false c6
       have HH := Aside0.mk H
       clear H c6
       obtain ⟨cl9, hcl9, h9⟩ := Option.bind_eq_some_iff.mp HH.out
       by_cases c14 : ps.length < 5864062014805
       case neg => rw [if_neg c14] at h9; exact absurd h9 (by simp)
       rw [if_pos c14] at h9
       simp only [Option.some.injEq, Prod.mk.injEq] at h9
       obtain ⟨rfl, rfl, rfl⟩ := h9
       have HVD := Aside0.mk (HV.out.below (below_drew1 (Below.refl wr.heap.size wr)))
       have HCX := Aside0.mk (slices_Clone_int_int.calls A1 c1 parents cl9 wr.drew (Kd.C_below HR1.out HVD.out.b) HC1.out hcl9)
       have p8 : wr.cell? ⟨g, 0, none⟩ = some (.slice Ap ps.length cp) := HV.out.cells.1
       have HL14 := Aside0.mk c14
       clear HH hcl9 c14
       go_upto_region 23 with (fail)
       refine wp_region_noPanic ?_
       refine wp_region_held_drew (S := (fun _ => True)) (by kernel_rfl) (by (try dsimp only); (first | done | exact trivial)) (fun hHeld => ?_)
       (refine wpAnyH_take (i := 0) (oi := _) (v := ?_) rfl (by kernel_rfl) (by kernel_rfl) (by kernel_rfl) (fun _ _ _ h => h) (Or.inl ⟨by rfl, ?_⟩) (by assumption) ?_; rotate_left; (· (intro w hSw; (try dsimp only at hSw); go_simp; try with_reducible rfl)); (try simp only [Act.put, List.setIfInBounds_toArray, List.set_cons_zero, List.set_cons_succ]))
       (refine wpAnyH_take (i := 1) (oi := _) (v := ?_) rfl (by kernel_rfl) (by kernel_rfl) (by kernel_rfl) (fun _ _ _ h => h) (Or.inl ⟨by rfl, ?_⟩) (by assumption) ?_; rotate_left; (· (intro w hSw; (try dsimp only at hSw); go_simp; try with_reducible rfl)); (try simp only [Act.put, List.setIfInBounds_toArray, List.set_cons_zero, List.set_cons_succ]))
       (refine wpAnyH_take (i := 2) (oi := _) (v := ?_) rfl (by kernel_rfl) (by kernel_rfl) (by kernel_rfl) (fun _ _ _ h => h) (Or.inl ⟨by rfl, ?_⟩) (by assumption) ?_; rotate_left; (· (intro w hSw; (try dsimp only at hSw); go_simp; try with_reducible rfl)); (try simp only [Act.put, List.setIfInBounds_toArray, List.set_cons_zero, List.set_cons_succ]))
       (refine wpAnyH_take (i := 3) (oi := _) (v := ?_) rfl (by kernel_rfl) (by kernel_rfl) (by kernel_rfl) (fun _ _ _ h => h) (Or.inl ⟨by rfl, ?_⟩) (by assumption) ?_; rotate_left; (· (intro w hSw; (try dsimp only at hSw); go_simp; try with_reducible rfl)); (try simp only [Act.put, List.setIfInBounds_toArray, List.set_cons_zero, List.set_cons_succ]))
       (refine wpAnyH_take (i := 5) (oi := _) (v := ?_) rfl (by kernel_rfl) (by kernel_rfl) (by kernel_rfl) (fun _ _ _ h => h) (Or.inl ⟨by rfl, ?_⟩) (by assumption) ?_; rotate_left; (· (intro w hSw; (try dsimp only at hSw); go_simp; try with_reducible rfl)); (try simp only [Act.put, List.setIfInBounds_toArray, List.set_cons_zero, List.set_cons_succ]))
       all_goals (first | (refine wpAnyH_ready (rs := [6]) (by decide +kernel) (by simp) ?_; refine AllReadyH.cons (o := _) rfl (fun K hK => ?_) AllReadyH.nil) | (refine wpAnyH_ready (rs := [4, 6]) (by kernel_rfl) (by simp) ?_; refine AllReadyH.cons (o := _) rfl (fun K hK => ?_) (AllReadyH.cons (o := _) rfl (fun K hK => ?_) AllReadyH.nil); go_simp; refine hK.out _ _ (by (try dsimp only); (first | done | exact trivial)) (fun hHeld => ?_); clear hK K; (try simp only [Act.put, List.setIfInBounds_toArray, List.set_cons_zero, List.set_cons_succ]); (refine wpAnyH_ready (rs := [6]) (by decide +kernel) (by simp) ?_; refine AllReadyH.cons (o := _) rfl (fun K hK => ?_) AllReadyH.nil)))
       all_goals (go_simp; (go_at_call 117; refine HCX.out.mono ?_; clear HCX; rintro e wA ⟨vc, rfl, hoc, hbc⟩; obtain ⟨Ac9, cc9, rfl⟩ := Kd.R_slice hoc; have HVA := Aside0.mk (HVD.out.below hbc); have HOC := Aside0.mk hoc; have HBC := Aside0.mk hbc; have pA : wA.cell? ⟨g, 0, none⟩ = some (.slice Ap ps.length cp) := HVA.out.cells.1; have pB : (wA.alloc (.cells #[.slice Ac9 cl9.length cc9] 45)).cell? ⟨g, 0, none⟩ = some (.slice Ap ps.length cp) := pw_cell_below (below_alloc (Below.refl wA.heap.size wA) _) pA; clear hoc hbc); refine hK.out _ _ (by (try dsimp only); (first | done | exact trivial)) (fun hHeld => ?_); clear hK K; (try simp only [Act.put, List.setIfInBounds_toArray, List.set_cons_zero, List.set_cons_succ]))
       all_goals (first | (refine wpAnyH_ready (rs := [7]) (by decide +kernel) (by simp) ?_; refine AllReadyH.cons (o := _) rfl (fun K hK => ?_) AllReadyH.nil) | (refine wpAnyH_ready (rs := [4, 7]) (by kernel_rfl) (by simp) ?_; refine AllReadyH.cons (o := _) rfl (fun K hK => ?_) (AllReadyH.cons (o := _) rfl (fun K hK => ?_) AllReadyH.nil); go_simp; refine hK.out _ _ (by (try dsimp only); (first | done | exact trivial)) (fun hHeld => ?_); clear hK K; (try simp only [Act.put, List.setIfInBounds_toArray, List.set_cons_zero, List.set_cons_succ]); (refine wpAnyH_ready (rs := [7]) (by decide +kernel) (by simp) ?_; refine AllReadyH.cons (o := _) rfl (fun K hK => ?_) AllReadyH.nil)))
       all_goals (go_simp; refine hK.out _ _ (by (try dsimp only); (first | done | exact trivial)) (fun hHeld => ?_); clear hK K; (try simp only [Act.put, List.setIfInBounds_toArray, List.set_cons_zero, List.set_cons_succ]))
       all_goals (first | (refine wpAnyH_ready (rs := [8]) (by decide +kernel) (by simp) ?_; refine AllReadyH.cons (o := _) rfl (fun K hK => ?_) AllReadyH.nil) | ((refine wpAnyH_ready (rs := [4]) (by decide +kernel) (by simp) ?_; refine AllReadyH.cons (o := _) rfl (fun K hK => ?_) AllReadyH.nil); go_simp; refine hK.out _ _ (by (try dsimp only); (first | done | exact trivial)) (fun hHeld => ?_); clear hK K; (try simp only [Act.put, List.setIfInBounds_toArray, List.set_cons_zero, List.set_cons_succ]); (refine wpAnyH_ready (rs := [8]) (by decide +kernel) (by simp) ?_; refine AllReadyH.cons (o := _) rfl (fun K hK => ?_) AllReadyH.nil)))
       all_goals ((refine Kd.S_append_step (W := wA) (Kd.slice 3 (Kd.int .i64)) (w0 := w0) w0.heap.size (by rfl) (.tmp 115) (.tmp 118) 22 45 (.slice none 0 0) 24 rfl Try.underlying22 info45 rfl (by decide) (by omega) (.slice Ap ps.length cp) ps cl9 [.slice Ac9 cl9.length cc9] (fun k_ => k_ ≠ g ∧ ¬ (P5 k_ ∧ k_ < wr.heap.size)) (fun k_ => some k_ = (Value.slice Ac9 cl9.length cc9).ownBlock) rfl rfl ?aP ?aK ?aF ?aO ?aB ?aS ?aL ?_; (case aP => exact Kd.M_row (Kd.R_of_own (Kd.own_of_R (Kd.R_lower HOC.out (below_size HVD.out.b))) (fun _ hk => hk.symm))); (case aK => exact fun k_ hk => HVD.out.newer (Kd.R_base HOC.out k_ hk.symm)); (case aF => exact fun k_ hk => (HVD.out.newer (Nat.le_trans (Below.size HBC.out) hk)).1); (case aO => exact Kd.S_mono (Kd.S_elder' HVD.out.sp (Kd.R_base HOC.out) HBC.out) (fun k_ hk => ⟨⟨hk.1.1, fun h => hk.1.2 h.1⟩, hk.2⟩)); (case aB => exact HVA.out.b); (case aS => exact below_size HVA.out.b); (case aL => have := HL14.out; omega); intro vp1 wC ho hB hg hat; obtain ⟨Ap1, cp1, e7⟩ := Kd.S_slice ho; rw [List.length_append, List.length_cons, List.length_nil, Nat.zero_add] at e7; subst e7; have HVE := Aside0.mk (HVD.out.row HBC.out hg ho); have hbG := blk_grown HVA.out.h hg (fun e => ((Kd.S_R HVA.out.sp).1 g e.symm).1 rfl); have pC : wC.cell? ⟨g, 0, none⟩ = some (.slice Ap ps.length cp) := (blk_cell hbG 0).trans rfl; have fC := blk_frozen hbG 0; clear ho hB hg hat hbG); refine hK.out _ _ (by (try dsimp only); (first | done | exact trivial)) (fun hHeld => ?_); clear hK K; (try simp only [Act.put, List.setIfInBounds_toArray, List.set_cons_zero, List.set_cons_succ]))
       all_goals (refine wpAnyH_take (i := 9) (oi := _) (v := ?_) rfl (by kernel_rfl) (by kernel_rfl) (by kernel_rfl) (fun _ _ _ h => h) (Or.inl ⟨by rfl, ?_⟩) (by assumption) ?_; rotate_left; (· (intro w hSw; (try dsimp only at hSw); go_simp; try with_reducible rfl)); (try simp only [Act.put, List.setIfInBounds_toArray, List.set_cons_zero, List.set_cons_succ]))
       all_goals (refine wpAnyH_take (i := 10) (oi := _) (v := ?_) rfl (by kernel_rfl) (by kernel_rfl) (by kernel_rfl) (fun _ _ _ h => h) (Or.inl ⟨by rfl, ?_⟩) (by assumption) ?_; rotate_left; (· (intro w hSw; (try dsimp only at hSw); go_simp; try with_reducible rfl)); (try simp only [Act.put, List.setIfInBounds_toArray, List.set_cons_zero, List.set_cons_succ]))
       all_goals (refine wpAnyH_ready (rs := [11]) (by decide +kernel) (by simp) ?_; refine AllReadyH.cons (o := _) rfl (fun K hK => ?_) AllReadyH.nil)
       all_goals (go_simp; refine hK.out _ _ (by (try dsimp only); (first | done | exact trivial)) (fun hHeld => ?_); clear hK K; (try simp only [Act.put, List.setIfInBounds_toArray, List.set_cons_zero, List.set_cons_succ]))
       all_goals (refine wpAnyH_done (by kernel_rfl) ?_ _)
       all_goals (refine NoPanic.normal ?_)
       all_goals
        have HVF := HVE
        clear HVE HVD HVA HOC HBC pA pB pC fC p8 HV HP HS
        generalize wC.setCell ⟨g, 0, none⟩ (.slice Ap1 (ps.length + 1) cp1) = w9 at HVF ⊢
        obtain ⟨A9, c9, e9⟩ := Kd.S_slice HVF.out.sb
        subst e9
        have q1 : w9.cell? ⟨g, 1, none⟩ = some (.slice A9 bs'.length c9) := HVF.out.cells.2
        go_wp2
        go_ret
        exact ⟨_, _, _, rfl, HVF.out⟩

end Go.Proofs.Ytmodgiingohphaa.PFnTop
