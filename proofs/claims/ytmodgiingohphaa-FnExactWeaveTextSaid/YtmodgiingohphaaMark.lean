/- A row of bytes of the call's own of which nothing is frozen, whatever its mark ('[]byte(s)' leaves one behind the row's end): read, stored to, appended to. -/
import Derived.Test.YtmodgiingohphaaWMore
import Derived.Lib.FrozenHead2
import Derived.Lib.Builder
namespace Go.Proofs.YtmodgiingohphaaW.PrintMore
open Go Go.RowKit Go.Proofs.YtmodgiingohphaaW.PrintWords Go.Proofs.YtmodgiingohphaaW.PrintLast

def FreeM (fz : Nat × Nat) (n : Nat) : Prop := ∀ j, j < n → ¬ (fz.1 ≤ j ∧ j < fz.2)
theorem FreeM.zero (n : Nat) : FreeM (0, 0) n := fun j _ h => by have := h.2; simp at this
theorem FreeM.past (n : Nat) : FreeM (n, n + 1) n := fun j hj h => by have := h.1; simp at this; omega
abbrev encB : List Int → List Value := fun l => l.map (Value.int .u8)
def OwnB (e : TypeId) (w : World) (base : Nat) (v : Value) (xs : List Int) : Prop :=
  (v = .slice none 0 0 ∧ xs = []) ∨ ∃ g cap cur fz, v = .slice (some ⟨g, 0, none⟩) xs.length cap ∧ base ≤ g ∧ w.heap[g]? = some (.cells cur e fz) ∧ FreeM fz cur.size ∧ xs.length ≤ cap ∧ cap ≤ maxLen ∧ cur.size = cap ∧ cur.toList.take xs.length = encB xs
section
variable {e : TypeId} {w w1 : World} {base : Nat} {v : Value} {xs : List Int}
theorem OwnB.nil (e : TypeId) (w : World) (base : Nat) : OwnB e w base (.slice none 0 0) [] := .inl ⟨rfl, rfl⟩
theorem OwnB.slice (h : OwnB e w base v xs) : ∃ A c, v = .slice A xs.length c := by
  rcases h with ⟨rfl, rfl⟩ | ⟨g, cap, cur, fz, rfl, _⟩
  · exact ⟨none, 0, rfl⟩
  · exact ⟨_, _, rfl⟩
theorem OwnB.lt (h : OwnB e w base v xs) : ∀ k, v.ownBlock = some k → base ≤ k ∧ k < w.heap.size := by
  intro k hk
  rcases h with ⟨rfl, _⟩ | ⟨g, cap, cur, fz, rfl, hb, hg, _⟩
  · simp [Value.ownBlock] at hk
  · simp [Value.ownBlock] at hk
    subst hk
    exact ⟨hb, (Array.getElem?_eq_some_iff.1 hg).1⟩
theorem OwnB.below (h : OwnB e w base v xs) (hb : Below w.heap.size w w1) : OwnB e w1 base v xs := by
  rcases h with hn | ⟨g, cap, cur, fz, rfl, h1, hg, r⟩
  · exact .inl hn
  · exact .inr ⟨g, cap, cur, fz, rfl, h1, (hb.block g (Array.getElem?_eq_some_iff.1 hg).1).trans hg, r⟩
theorem OwnB.alloc (h : OwnB e w base v xs) (o : Obj) : OwnB e (w.alloc o) base v xs := h.below (below_alloc (Below.refl _ _) o)
theorem OwnB.drew (h : OwnB e w base v xs) : OwnB e w.drew base v xs := h.below (below_drew1 (Below.refl _ _))
theorem OwnB.drewN (h : OwnB e w base v xs) (n : Nat) : OwnB e (w.drewN n) base v xs := h.below (pw_below_drewN (Below.refl _ _) n)
theorem OwnB.lower {base1 : Nat} (h : OwnB e w base v xs) (hb : base1 ≤ base) : OwnB e w base1 v xs := by
  rcases h with hn | ⟨g, cap, cur, fz, rfl, h1, r⟩
  · exact .inl hn
  · exact .inr ⟨g, cap, cur, fz, rfl, Nat.le_trans hb h1, r⟩
theorem encB_get (xs : List Int) (j : Nat) (h : j < xs.length) : (encB xs)[j]? = some (.int .u8 (rd xs (j : Int))) := by
  simp [encB, rd, List.getD, List.getElem?_eq_getElem h]
theorem OwnB.cells {A : Option Addr} {n c : Nat} (h : OwnB e w base (.slice A n c) xs) (j : Nat) (hj : j < xs.length) : ∃ g, A = some ⟨g, 0, none⟩ ∧ w.cell? ⟨g, j, none⟩ = some (.int .u8 (rd xs (j : Int))) ∧ w.frozen? ⟨g, j, none⟩ = false := by
  rcases h with ⟨_, rfl⟩ | ⟨g, cap, cur, fz, ev, h1, hg, hf, h2, h3, h4, h5⟩
  · simp at hj
  · injection ev with ea _ _
    subst ea
    refine ⟨g, rfl, ?_, ?_⟩
    · rw [cell_of_row w g j cur e fz hg]
      have := encB_get xs j hj
      rw [← h5, List.getElem?_take, if_pos hj] at this
      simpa using this
    · simp only [World.frozen?, hg]
      have := hf j (by omega)
      rw [Bool.and_eq_false_iff, decide_eq_false_iff_not, decide_eq_false_iff_not]
      omega
theorem OwnB.reads {A : Option Addr} {n c : Nat} (h : OwnB e w base (.slice A n c) xs) (hl : xs.length ≤ 140737488355328) : n = xs.length ∧ n ≤ c ∧ Kd.C (Kd.int .u8) w A xs.length xs := by
  have hs : ∃ A' c', (.slice A n c : Value) = .slice A' xs.length c' := h.slice
  obtain ⟨A', c', es⟩ := hs
  injection es with _ en _
  refine ⟨en, ?_, Kd.C_of_reads (enc := Value.int .u8) (d := (0 : Int)) ⟨rfl, by omega, fun hp => ?_⟩⟩
  · rcases h with ⟨e1, _⟩ | ⟨g, cap, cur, fz, ev, h1, hg, hf, h2, _⟩
    · injection e1 with _ e2 e3
      omega
    · injection ev with _ e2 e3
      omega
  · obtain ⟨g, rfl, _⟩ := h.cells 0 hp
    refine ⟨_, rfl, fun j hj => ?_⟩
    obtain ⟨g', eg, hc, _⟩ := h.cells j hj
    injection eg with eg
    injection eg with eg _ _
    subst eg
    have ea : (⟨g, 0, none⟩ : Addr).add j = ⟨g, j, none⟩ := by
      simp [Addr.add]
      intro h
      exact h.symm
    rw [ea, hc]
    simp [rd]
theorem OwnB.set {g n c : Nat} (h : OwnB e w base (.slice (some ⟨g, 0, none⟩) n c) xs) (i : Nat) (x : Int) : OwnB e (w.setCell ⟨g, i, none⟩ (.int .u8 x)) base (.slice (some ⟨g, 0, none⟩) n c) (xs.set i x) := by
  rcases h with ⟨e1, _⟩ | ⟨g', cap, cur, fz, ev, h1, hg, hf, h2, h3, h4, h5⟩
  · cases e1
  · injection ev with ea en ec
    injection ea with ea
    injection ea with ea _ _
    subst ea; subst en; subst ec
    rw [setCell_eq_setRow w g i cur e fz _ hg]
    refine .inr ⟨g, c, cur.setIfInBounds i (.int .u8 x), fz, by rw [List.length_set], h1, setRow_heap w g cur _ e fz hg, by rw [Array.size_setIfInBounds]; exact hf, by rw [List.length_set]; exact h2, h3, by rw [Array.size_setIfInBounds]; exact h4, ?_⟩
    rw [List.length_set, Array.toList_setIfInBounds, List.take_set, h5]
    simp [encB, List.map_set]
theorem bytesRow_rows (s : ByteArray) (c : Nat) (h : s.size ≤ c) : (bytesRow s c).size = c ∧ (bytesRow s c).toList.take s.size = encB (s.data.toList.map fun b => (b.toNat : Int)) := by
  have e : s.size = s.data.size := rfl
  refine ⟨by simp only [bytesRow, Array.size_append, Array.size_map, Array.size_replicate]; omega, ?_⟩
  have hl : (s.data.map fun b => Value.int .u8 (b.toNat : Int)).toList.length = s.size := by rw [Array.length_toList, Array.size_map]; exact e.symm
  unfold bytesRow
  rw [Array.toList_append, ← hl, List.take_left]
  simp [encB]
theorem OwnB.conv (e : TypeId) (W : World) (s : ByteArray) (c base : Nat) (hb : base ≤ W.heap.size) (h : s.size ≤ c) (hc : c ≤ maxLen) : OwnB e (W.alloc (.cells (bytesRow s c) e ((bytesRow s c).size, (bytesRow s c).size + 1))) base (.slice (some ⟨W.heap.size, 0, none⟩) s.size c) (s.data.toList.map fun b => (b.toNat : Int)) := by
  obtain ⟨h1, h2⟩ := bytesRow_rows s c h
  have hl : (s.data.toList.map fun b => (b.toNat : Int)).length = s.size := by rw [List.length_map, Array.length_toList]; rfl
  refine .inr ⟨W.heap.size, c, bytesRow s c, _, by rw [hl], hb, heap_alloc_new W _, FreeM.past _, by omega, hc, h1, ?_⟩
  rw [hl]
  exact h2
end
theorem run_storeCells_M (P : Program) (g o : Nat) (t : TypeId) (fz : Nat × Nat) : ∀ (vs : List Value) (i : Nat) (cur : Array Value) (w : World), w.heap[g]? = some (.cells cur t fz) → FreeM fz cur.size → o + i + vs.length ≤ cur.size → (∀ v ∈ vs, v.oneCell' = true) →
    (storeCells ⟨g, o, none⟩ vs i).run P w = .ok () (w.setRow g (cur.toList.take (o + i) ++ vs ++ cur.toList.drop (o + i + vs.length)).toArray)
  | [], i, cur, w, hg, _, _, _ => by
    simp only [storeCells, List.append_nil, List.length_nil, Nat.add_zero, List.take_append_drop, Array.toArray_toList]
    rw [setRow_self w g cur t fz hg]
    rfl
  | v :: rest, i, cur, w, hg, hfz, hl, h1 => by
    have hi : o + i < cur.size := by simp at hl; omega
    have hadd : (⟨g, o, none⟩ : Addr).add i = ⟨g, o + i, none⟩ := by unfold Addr.add; split <;> simp_all
    have hcell : w.cell? ⟨g, o + i, none⟩ = some cur[o + i] := by simp [World.cell?, hg, hi]
    have hfro : w.frozen? ⟨g, o + i, none⟩ = false := by
      have := hfz (o + i) hi
      simp only [World.frozen?, hg, Bool.and_eq_false_iff, decide_eq_false_iff_not]
      omega
    have hst : (store ((⟨g, o, none⟩ : Addr).add i) v).run P w = .ok () (w.setRow g (cur.setIfInBounds (o + i) v)) := by
      rw [hadd, run_store P w _ v _ (h1 v (by simp)), hcell]
      simp [hfro, setCell_eq_setRow w g (o + i) cur t fz v hg]
    have ih := run_storeCells_M P g o t fz rest (i + 1) (cur.setIfInBounds (o + i) v) (w.setRow g (cur.setIfInBounds (o + i) v)) (setRow_heap w g cur _ t _ hg) (by rw [Array.size_setIfInBounds]; exact hfz) (by simp at hl ⊢; omega) (fun x hx => h1 x (by simp [hx]))
    simp only [storeCells, Sem.run_bind, hst, Result.andThen_ok, ih, setRow_setRow]
    congr 3
    have e := list_seg_step cur.toList (o + i) v rest (by simp at hl ⊢; omega)
    simpa [Array.toList_setIfInBounds, Nat.add_assoc] using e
section
variable {P : Program}
/-- 'append(v, ys...)' onto such a row, what is appended being the cells of a row. -/
theorem run_append_B (w : World) (base : Nat) (t ty e : TypeId) (ht : P.underlying t = some (.slice e)) (hi : (P.info? e).map (fun i => (i.zero, i.size, i.bytes)) = some (some (.int .u8 0), 1, 1))
    (v : Value) (xs ys : List Int) (hown : OwnB e w base v xs) (a : Addr) (c : Nat) (hnews : ∀ j, j < ys.length → w.cell? (a.add j) = some (.int .u8 (rd ys (j : Int)))) (hs : xs.length + ys.length ≤ 140737488355328) (hbase : base ≤ w.heap.size) :
    ∃ v' w', (Builtin.append_ #[t, t] ty #[v, .slice (some a) ys.length c]).run P w = .ok v' w' ∧ OwnB e w' base v' (xs ++ ys) ∧ w.grownBy w' v.ownBlock := by
  obtain ⟨i, hi0, hi1⟩ := Option.map_eq_some_iff.1 hi
  simp only [Prod.mk.injEq] at hi1
  obtain ⟨hz, hsize, hby⟩ := hi1
  have hzs : (Value.int IntKind.u8 0).cells.size = 1 := rfl
  have hnl : (encB ys).length = ys.length * 1 := by simp [encB]
  have hnw : ∀ j u, (encB ys)[j]? = some u → w.cell? (a.add j) = some u := fun j u hu => by
    have hj : j < ys.length := by have := (List.getElem?_eq_some_iff.1 hu).1; simpa [encB] using this
    rw [encB_get ys j hj] at hu
    rw [hnews j hj, hu]
  have hone : ∀ u ∈ encB ys, u.oneCell' = true := fun u hu => by
    simp only [encB, List.mem_map] at hu
    obtain ⟨x, _, rfl⟩ := hu
    rfl
  have hmax : maxLen = 9223372036854775807 := rfl
  rcases hown with ⟨rfl, rfl⟩ | ⟨g, cap, cur, fz, rfl, hbg, hg, hf, hnc, hcm, hcs, htake⟩
  · obtain ⟨v', w', h1, h2, h3, h4⟩ := run_append_own (P := P) w base t ty e i (.int .u8 0) 1 1 ht hi0 hz hsize hby hzs (by omega) (.slice none 0 0) 0 [] ⟨rfl, .inl ⟨rfl, rfl⟩⟩ a ys.length c (encB ys) hnl hnw hone (by rw [hmax]; simp at hs; omega) (by simp at hs; omega) hbase
    refine ⟨v', w', h1, ?_, h3⟩
    rw [List.nil_append] at h2 ⊢
    obtain ⟨k1, k2⟩ := h2
    rcases k2 with ⟨rfl, k2⟩ | ⟨g, cap, cur, rfl, k3, k4, k5, k6, k7, k8⟩
    · exact .inl ⟨rfl, List.length_eq_zero_iff.1 (by omega)⟩
    · refine .inr ⟨g, cap, cur, (0, 0), by rw [Nat.zero_add], k3, k4, FreeM.zero _, by omega, k6, by omega, ?_⟩
      rw [Nat.mul_one, Nat.zero_add] at k8
      exact k8
  · have hlen : (xs ++ ys).length = xs.length + ys.length := List.length_append
    have hel : encB (xs ++ ys) = encB xs ++ encB ys := by simp [encB]
    have hxl : (encB xs).length = xs.length := by simp [encB]
    have hyl : (encB ys).length = ys.length := by simp [encB]
    by_cases hroom : xs.length + ys.length ≤ cap
    · have hff := run_firstCells_some (P := P) w i.size ys.length a ys.length c (encB ys) (by rw [hsize]; exact hnl) hnw
      have hst := run_storeCells_M P g xs.length e fz (encB ys) 0 cur w hg hf (by rw [hyl]; omega) hone
      simp only [Nat.add_zero] at hst
      have hr : (Builtin.append_ #[t, t] ty #[.slice (some ⟨g, 0, none⟩) xs.length cap, .slice (some a) ys.length c]).run P w =
          .ok (.slice (some ⟨g, 0, none⟩) (xs.length + ys.length) cap) (w.setRow g (cur.toList.take xs.length ++ encB ys ++ cur.toList.drop (xs.length + (encB ys).length)).toArray) := by
        rw [hsize] at hff
        simp [Builtin.append_, run_underlying ht, sizeOf, typeInfo, hi0, hsize, Builtin.lenOf, hroom, hff, Addr.add_lit, hst]
      refine ⟨_, _, hr, ?_, ⟨rfl, rfl, rfl, by simp, fun k _ hk => setRow_other w g k _ (fun e => hk (by simp [Value.ownBlock, e]))⟩⟩
      have hsz : (cur.toList.take xs.length ++ encB ys ++ cur.toList.drop (xs.length + (encB ys).length)).toArray.size = cap := by
        simp only [List.size_toArray, List.length_append, List.length_take, List.length_drop, Array.length_toList, hyl]
        omega
      refine .inr ⟨g, cap, _, fz, by rw [hlen], hbg, setRow_heap w g cur _ e _ hg, by rw [hsz, ← hcs]; exact hf, by omega, hcm, hsz, ?_⟩
      rw [htake, hel]
      have hk : (xs ++ ys).length = (encB xs ++ encB ys).length := by rw [hlen, List.length_append, hxl, hyl]
      rw [hk]
      exact List.take_left
    · have holds : ∀ j u, (encB xs)[j]? = some u → w.cell? ((⟨g, 0, none⟩ : Addr).add j) = some u := fun j u hu => by
        have hj : j < xs.length := by have := (List.getElem?_eq_some_iff.1 hu).1; simpa [encB] using this
        have hadd : (⟨g, 0, none⟩ : Addr).add j = ⟨g, j, none⟩ := by unfold Addr.add; split <;> simp_all
        rw [hadd, cell_of_row w g j cur e fz hg]
        rw [← htake, List.getElem?_take, if_pos hj] at hu
        simpa using hu
      have hr := run_append_grow (P := P) w t ty e i (.int .u8 0) ht hi0 hz ⟨g, 0, none⟩ xs.length cap (encB xs) (by rw [hsize, Nat.mul_one]; exact hxl) holds a ys.length c (encB ys) (by rw [hsize]; exact hnl) hnw (by omega) (by omega) (by rw [hby]; exact growslice_fits (by omega) (by omega))
      have hge := grownCap_ge w (xs.length + ys.length) cap e
      have hcm2 : grownCap w (xs.length + ys.length) cap e ≤ maxLen := grownCap_le_maxLen w (xs.length + ys.length) cap e (by rw [hmax]; omega)
      refine ⟨_, _, hr, .inr ⟨w.heap.size, _, _, (0, 0), by rw [hlen], hbase, heap_alloc_new w.drew _, FreeM.zero _, by omega, hcm2, ?_, ?_⟩, ⟨rfl, rfl, rfl, by simp, fun k hk _ => by first | exact heap_alloc_old w.drew _ k hk | exact heap_alloc_old w.drew _ hk⟩⟩
      · simp only [Array.size_append, List.size_toArray, size_zeroCells, hzs, hxl, hyl]
        omega
      · simp only [Array.toList_append, List.append_assoc]
        rw [← List.append_assoc, ← hel]
        have hk : (xs ++ ys).length = (encB (xs ++ ys)).length := by simp [encB]
        rw [hk]
        exact List.take_left
variable {ops : Array Oper} {rest : List Oper} {o : Oper} {a : Act} {Q : Exit → Act → World → Prop}
theorem append_B {w : World} (base : Nat) (hgd : o.guard = none) (s x : Operand) (t e : TypeId) (ho : o.op = .call { callee := .builtin .append, args := #[s, x], argTypes := #[t, t] }) (ht : P.underlying t = some (.slice e)) (hi : (P.info? e).map (fun i => (i.zero, i.size, i.bytes)) = some (some (.int .u8 0), 1, 1))
    (v : Value) (xs ys : List Int) (ad : Addr) (c : Nat) (hs : a.eval s = v) (hx : a.eval x = .slice (some ad) ys.length c) (hown : OwnB e w base v xs) (hnews : ∀ j, j < ys.length → w.cell? (ad.add j) = some (.int .u8 (rd ys (j : Int)))) (hl : xs.length + ys.length ≤ 140737488355328) (hbase : base ≤ w.heap.size)
    (h : ∀ v' w', OwnB e w' base v' (xs ++ ys) → w.grownBy w' v.ownBlock → wpList P ops Q rest (a.put o.dst v') w') : wpList P ops Q (o :: rest) a w := by
  refine wpList_plain hgd fun K hK => ?_
  obtain ⟨v', w', hr, h2, h3⟩ := run_append_B (P := P) w base t o.type e ht hi v xs ys hown ad c hnews hl hbase
  unfold Oper.wp execOp
  simp only [ho, resolve, invoke, builtin, Sem.run_bind, Sem.run_pure, Result.andThen_ok, List.map_toArray, List.map_cons, List.map_nil, hs, hx, hr]
  exact hK _ _ (h v' w' h2 h3)
theorem append_Bn {w : World} (base : Nat) (hgd : o.guard = none) (s x : Operand) (t e : TypeId) (ho : o.op = .call { callee := .builtin .append, args := #[s, x], argTypes := #[t, t] }) (ht : P.underlying t = some (.slice e)) (hi : (P.info? e).map (fun i => (i.zero, i.size, i.bytes)) = some (some (.int .u8 0), 1, 1))
    (v : Value) (xs ys : List Int) (n : Nat) (hn : ys.length = n) (ad : Addr) (c : Nat) (hs : a.eval s = v) (hx : a.eval x = .slice (some ad) n c) (hown : OwnB e w base v xs) (hnews : ∀ j, j < ys.length → w.cell? (ad.add j) = some (.int .u8 (rd ys (j : Int)))) (hl : xs.length + ys.length ≤ 140737488355328) (hbase : base ≤ w.heap.size)
    (h : ∀ v' w', OwnB e w' base v' (xs ++ ys) → w.grownBy w' v.ownBlock → wpList P ops Q rest (a.put o.dst v') w') : wpList P ops Q (o :: rest) a w := by
  subst hn
  exact append_B base hgd s x t e ho ht hi v xs ys ad c hs hx hown hnews hl hbase h
end
def numsB (s : ByteArray) : List Int := s.data.toList.map fun b => (b.toNat : Int)
theorem numsB_length (s : ByteArray) : (numsB s).length = s.size := by
  rw [numsB, List.length_map, Array.length_toList]
  rfl
theorem numsB_append (a b : ByteArray) : numsB (a ++ b) = numsB a ++ numsB b := by
  unfold numsB
  rw [ByteArray.toList_data_append, List.map_append]
theorem strOf_numsB (s : ByteArray) : strOfNums (numsB s) = s := by
  have e : (strOfNums (numsB s)).data.toList = s.data.toList := by
    rw [strOfNums_data, numsB, List.map_map]
    conv => rhs; rw [← List.map_id s.data.toList]
    apply List.map_congr_left
    intro b _
    simp
  generalize strOfNums (numsB s) = t at e
  cases s; cases t
  simp at e
  subst e
  rfl
theorem conv_cells (W : World) (s : ByteArray) (e : TypeId) (c : Nat) (m : Nat × Nat) (j : Nat) (hj : j < (numsB s).length) : (W.alloc (.cells (bytesRow s c) e m)).cell? ((⟨W.heap.size, 0, none⟩ : Addr).add j) = some (.int .u8 (rd (numsB s) (j : Int))) := by
  have ea : (⟨W.heap.size, 0, none⟩ : Addr).add j = ⟨W.heap.size, j, none⟩ := by
    simp [Addr.add]
    intro h
    exact h.symm
  rw [numsB_length] at hj
  have hj' : j < s.data.size := hj
  rw [ea, cell_of_row _ _ _ _ _ _ (heap_alloc_new W _)]
  unfold bytesRow
  rw [Array.getElem?_append_left (by simpa using hj'), Array.getElem?_map, Array.getElem?_eq_getElem hj']
  simp [numsB, rd, List.getD, Array.getElem?_eq_getElem hj']
/-! texts one behind the other -/
def seqO (g : Nat → Option ByteArray) : Nat → Option ByteArray
  | 0 => some (⟨#[]⟩ : ByteArray)
  | i + 1 => (seqO g i).bind fun a => (g i).bind fun b => some (a ++ b)
theorem seqO_le (g : Nat → Option ByteArray) : ∀ (n : Nat) (r : ByteArray), seqO g n = some r → ∀ i, i ≤ n → ∃ a, seqO g i = some a ∧ a.size ≤ r.size
  | 0, r, h, i, hi => ⟨r, by rw [show i = 0 by omega]; exact h, Nat.le_refl _⟩
  | n + 1, r, h, i, hi => by
    obtain ⟨a, ha, h2⟩ := Option.bind_eq_some_iff.mp h
    obtain ⟨b, hb, h3⟩ := Option.bind_eq_some_iff.mp h2
    obtain rfl := Option.some.inj h3
    by_cases c : i = n + 1
    · subst c
      exact ⟨_, h, Nat.le_refl _⟩
    · obtain ⟨x, hx, hz⟩ := seqO_le g n a ha i (by omega)
      exact ⟨x, hx, by rw [ByteArray.size_append]; omega⟩
theorem seqO_step (g : Nat → Option ByteArray) (n : Nat) (r : ByteArray) (h : seqO g n = some r) (i : Nat) (hi : i < n) : ∃ a b, seqO g i = some a ∧ g i = some b ∧ seqO g (i + 1) = some (a ++ b) ∧ a.size + b.size ≤ r.size := by
  obtain ⟨x, hx, hz⟩ := seqO_le g n r h (i + 1) (by omega)
  obtain ⟨a, ha, h2⟩ := Option.bind_eq_some_iff.mp hx
  obtain ⟨b, hb, h3⟩ := Option.bind_eq_some_iff.mp h2
  obtain rfl := Option.some.inj h3
  rw [ByteArray.size_append] at hz
  exact ⟨a, b, ha, hb, hx, hz⟩
theorem seqO_mono {g g' : Nat → Option ByteArray} (hg : ∀ i, LeO (g i) (g' i)) : ∀ n, LeO (seqO g n) (seqO g' n)
  | 0 => LeO.refl _
  | n + 1 => LeO.bind (seqO_mono hg n) fun _ => LeO.bind (hg n) fun _ => LeO.refl _
theorem mk_data (s : ByteArray) : (⟨s.data.toList.toArray⟩ : ByteArray) = s := by simp
theorem builder_below {T e : TypeId} {B b : Nat} {bs : List Value} {w w1 : World} (h : Lib.IsBuilder T e B b bs w) (hb : Below w.heap.size w w1) : Lib.IsBuilder T e B b bs w1 := by
  have key : ∀ p, Lib.BuilderAt T e B b p bs w → Lib.BuilderAt T e B b p bs w1 := fun p k => by
    have hlt := k.lt
    obtain ⟨k1, v, k2, k3, k4⟩ := k
    exact ⟨k1, v, (hb.block b hlt).trans k2, own_move k3 (fun j hj => hb.block j (own_lt k3 j hj)), k4⟩
  exact h.imp (key _) (key _)
end Go.Proofs.YtmodgiingohphaaW.PrintMore
