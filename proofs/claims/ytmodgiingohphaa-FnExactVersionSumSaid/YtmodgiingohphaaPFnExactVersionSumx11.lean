-- Made by a program (the kit's print with additions of this session: wip/tools/patch_print.py, ext.py).
-- (turned)
import Derived.Test.YtmodgiingohphaaPFnExactVersionSumx0
import Derived.Test.YtmodgiingohphaaPFnExactVersionSumx10
namespace Go.Proofs.Ytmodgiingohphaa.PFnExactVersionSum
open Go.RowKit Go.Proofs.YtmodgiingohphaaW.PrintWords Go.Proofs.YtmodgiingohphaaW.PrintLast Go.Proofs.YtmodgiingohphaaW.PrintMore
attribute [local go_sem] max2_int min2_int max_two min_two max_three min_three max_four min_four   -- for this text's walks alone
set_option linter.unusedVariables false
set_option linter.unusedSimpArgs false

/-! ### impl_SumMore: function 96 -/
mutual
def impl_SumMore.l0 : Nat → Int → ByteArray → Int → Option (Int)
  | 0, _, _, _ => none
  | k + 1, x0, x1, x5 => if x5 < (x1.size : Int) then (if 0 ≤ x5 then (impl_SumMore.l1 k (Go.bits .xor .u32 x0 ((bt x1 x5) % 4294967296)) x1 x5 0) else (none)) else (some x0)
def impl_SumMore.l1 : Nat → Int → ByteArray → Int → Int → Option (Int)
  | 0, _, _, _, _ => none
  | k + 1, x0, x1, x5, x19 => if x19 < 8 then (if (Go.bits .and .u32 x0 1) = 1 then (impl_SumMore.l1 k (Go.bits .xor .u32 (x0 / 2) 3558460437) x1 x5 (wrap64 (x19 + 1))) else (impl_SumMore.l1 k (x0 / 2) x1 x5 (wrap64 (x19 + 1)))) else (impl_SumMore.l0 k x0 x1 (wrap64 (x5 + 1)))
end
def impl_SumMore.f (k : Nat) (a0 : Int) (a1 : ByteArray) : Option (Int) := impl_SumMore.l0 k a0 a1 0
theorem impl_SumMore.mono_l : ∀ k, (∀ y0 y1 y2, LeO (impl_SumMore.l0 k y0 y1 y2) (impl_SumMore.l0 (k + 1) y0 y1 y2)) ∧ (∀ y0 y1 y2 y3, LeO (impl_SumMore.l1 k y0 y1 y2 y3) (impl_SumMore.l1 (k + 1) y0 y1 y2 y3))
  | 0 => by refine ⟨?_, ?_⟩ <;> intros <;> exact LeO.none _
  | k + 1 => by
    obtain ⟨ih0, ih1⟩ := impl_SumMore.mono_l k; refine ⟨?_, ?_⟩ <;> intros <;> (first | unfold impl_SumMore.l0 | unfold impl_SumMore.l1) <;> repeat' with_reducible first | exact LeO.refl _ | exact LeO.none _ | refine LeO.ite ?_ ?_ | refine LeO.bind ?_ (fun _ => ?_) | exact ih0 _ _ _ | exact ih1 _ _ _ _
theorem impl_SumMore.mono : ∀ a0 a1 k, LeO (impl_SumMore.f k a0 a1) (impl_SumMore.f (k + 1) a0 a1) := by
  intro a0 a1 k; obtain ⟨ih0, ih1⟩ := impl_SumMore.mono_l k; unfold impl_SumMore.f
  repeat' with_reducible first | exact LeO.refl _ | exact LeO.none _ | refine LeO.ite ?_ ?_ | refine LeO.bind ?_ (fun _ => ?_) | exact ih0 _ _ _ | exact ih1 _ _ _ _
set_option maxHeartbeats 8000000 in
set_option maxRecDepth 100000 in
theorem impl_SumMore.calls (k : Nat) (a0 : Int) (a1 : ByteArray) (r : Int) (w : World) (h : impl_SumMore.f k a0 a1 = some r) :
    Calls Try.prog 96 #[.int .u32 a0, .string a1] w fun e w' => e = .returned (.int .u32 r) ∧ Drawn0 w w' := by
  have H : (impl_SumMore.l0 k a0 a1 0) = some r := h; clear h; have H' := Aside0.mk H; clear H; go_enter Try.func96, Try.ntmps96; go_wp2; go_loopg [0, 5] k (fun kq v0 v5 w' => ∃ (x0_1 : Int) (x5_1 : Int), v0 = .int .u32 x0_1 ∧ v5 = .int .i64 x5_1 ∧ Aside0 (impl_SumMore.l0 kq x0_1 a1 x5_1 = some r) ∧ Aside0 (kq ≤ k) ∧ Drawn0 w w')
  case atStart => exact ⟨(a0), (0), q5_, q5_, H', ⟨Nat.le_refl _⟩, by repeat (first | exact Drawn0.refl _ | apply Drawn0.step)⟩
  case round =>
    clear H'; (try clear p2); obtain ⟨x0_1, x5_1, rfl, rfl, HA, HK1, ⟨m1, rfl⟩⟩ := hrel
    cases gk with
    | zero => exact absurd HA.out (by simp [impl_SumMore.l0])
    | succ k1 =>
     have H := HA.out; clear HA; simp only [impl_SumMore.l0] at H; by_cases c3 : x5_1 < (a1.size : Int)
     ·rw [if_pos c3] at H; have c3b0 : decide (x5_1 < (a1.size : Int)) = true := decide_eq_true c3; clear c3; obtain ⟨c4b0, H⟩ := ifd_ H; have H' := Aside0.mk H; clear H; have p5 : 0 ≤ (x5_1 : Int) := of_decide_eq_true q2_; have q5 : x5_1 < (a1.size : Int) := of_decide_eq_true q2_; have hx5 := bt_at a1 x5_1; replace p5 := eq_true p5; replace q5 := eq_true q5; go_wp2; go_loopg [0, 19] k1 (fun kq v0 v19 w' => ∃ (x0_2 : Int) (x19_2 : Int), v0 = .int .u32 x0_2 ∧ v19 = .int .i64 x19_2 ∧ Aside0 (impl_SumMore.l1 kq x0_2 a1 x5_1 x19_2 = some r) ∧ Aside0 (kq ≤ k1) ∧ Drawn0 w w')
      case atStart => exact ⟨(Go.bits .xor .u32 x0_1 ((bt a1 x5_1) % 4294967296)), (0), q5_, q5_, H', ⟨Nat.le_refl _⟩, by repeat (first | exact Drawn0.refl _ | apply Drawn0.step)⟩
      case round =>
       clear H'; (try clear p2); (try clear c3); (try clear c3b0); (try clear c4); (try clear c4b0); (try clear p5); (try clear q5); (try clear hx5); (try clear p2); (try clear p5); (try clear q5); obtain ⟨x0_2, x19_2, rfl, rfl, HA, HK2, ⟨m2, rfl⟩⟩ := hrel
       cases gk with
       | zero => exact absurd HA.out (by simp [impl_SumMore.l1])
       | succ k2 =>
        have H := HA.out; clear HA; simp only [impl_SumMore.l1] at H; by_cases c6 : x19_2 < 8
        ·rw [if_pos c6] at H; have c6b0 : decide (x19_2 < 8) = true := decide_eq_true c6; clear c6; by_cases c7 : (Go.bits .and .u32 x0_2 1) = 1
         ·rw [if_pos c7] at H; have c7b0 : ((Go.bits .and .u32 x0_2 1) == 1) = true := beq_iff_eq.mpr c7; have c7b1 : ((Go.bits .and .u32 x0_2 1) != 1) = false := bne_eq_false_iff_eq.mpr c7; clear c7; have H' := Aside0.mk H; clear H; go_wp2; go_roundg k2
          case measure => have := HK1.out; have := HK2.out; omega
          case rel => exact ⟨(Go.bits .xor .u32 (x0_2 / 2) 3558460437), (wrap64 (x19_2 + 1)), q5_, q5_, H', ⟨by have := HK1.out; have := HK2.out; omega⟩, by repeat (first | exact Drawn0.refl _ | apply Drawn0.step)⟩
         ·rw [if_neg c7] at H; have c7b0 : ((Go.bits .and .u32 x0_2 1) == 1) = false := beq_eq_false_iff_ne.mpr c7; have c7b1 : ((Go.bits .and .u32 x0_2 1) != 1) = true := bne_iff_ne.mpr c7; have H' := Aside0.mk H; clear H; go_wp2; go_roundg k2
          case measure => have := HK1.out; have := HK2.out; omega
          case rel => exact ⟨(x0_2 / 2), (wrap64 (x19_2 + 1)), q5_, q5_, H', ⟨by have := HK1.out; have := HK2.out; omega⟩, by repeat (first | exact Drawn0.refl _ | apply Drawn0.step)⟩
        ·rw [if_neg c6] at H; have c6b0 : decide (x19_2 < 8) = false := decide_eq_false c6; clear c6; have H' := Aside0.mk H; clear H; go_wp2; go_roundg k2
         case measure => have := HK1.out; have := HK2.out; omega
         case rel => exact ⟨(x0_2), (wrap64 (x5_1 + 1)), q5_, q5_, H', ⟨by have := HK1.out; have := HK2.out; omega⟩, by repeat (first | exact Drawn0.refl _ | apply Drawn0.step)⟩
     ·rw [if_neg c3] at H; have c3b0 : decide (x5_1 < (a1.size : Int)) = false := decide_eq_false c3; clear c3; obtain rfl := Option.some.inj H; go_wp2; go_ret; exact ⟨by first | rfl | (simp; done) | (simp [*]; done), by repeat (first | exact Drawn0.refl _ | apply Drawn0.step)⟩

/-! ### impl_SumOf: function 45 -/
def impl_SumOf.f (k : Nat) (a0 : ByteArray) : Option (Int) := (impl_SumMore.f k 4294967295 a0).bind fun t351 => (some t351)
theorem impl_SumOf.mono : ∀ a0 k, LeO (impl_SumOf.f k a0) (impl_SumOf.f (k + 1) a0) := by
  intro a0 k; unfold impl_SumOf.f
  repeat' with_reducible first | exact LeO.refl _ | exact LeO.none _ | refine LeO.ite ?_ ?_ | refine LeO.bind ?_ (fun _ => ?_) | exact impl_SumMore.mono _ _ _
set_option maxHeartbeats 8000000 in
set_option maxRecDepth 100000 in
theorem impl_SumOf.calls (k : Nat) (a0 : ByteArray) (r : Int) (w : World) (h : impl_SumOf.f k a0 = some r) :
    Calls Try.prog 45 #[.string a0] w fun e w' => e = .returned (.int .u32 r) ∧ Drawn0 w w' := by
  have H : ((impl_SumMore.f k 4294967295 a0).bind fun t351 => (some t351)) = some r := h; clear h; replace H := Option.bind_eq_some_iff.mp H; obtain ⟨t351, A20, H⟩ := H; (try dsimp only at H); have A2 := Aside0.mk A20; clear A20; obtain rfl := Option.some.inj H; go_enter Try.func45, Try.ntmps45; go_wp2_with (first | ((with_reducible refine gate_callee (f := 96) rfl ?_); refine gl_ 4 Try.func96 #[.int .u32 4294967295, .string a0] ?_; (with_reducible refine (impl_SumMore.calls k 4294967295 a0 t351 _ A2.out).mono ?_); rintro e w' ⟨rfl, ⟨nd, rfl⟩⟩; refine ⟨_, rfl, ?_⟩)); go_ret; exact ⟨by first | rfl | (simp; done) | (simp [*]; done), by repeat (first | exact Drawn0.refl _ | apply Drawn0.step)⟩

/-! ### strings_Builder_WriteString: function 61 -/
/-! a builder that the call has made: this dump's own copyCheck and WriteString (its copyCheck refuses where the shelf's panics) -/
set_option maxHeartbeats 1000000 in
set_option maxRecDepth 100000 in
theorem strings_Builder_WriteString.used (b : Nat) (w : World) (h0 : w.cell? ⟨b, 0, none⟩ = some (.pointer (some ⟨b, 0, none⟩))) :
    Calls Try.prog 108 #[.pointer (some ⟨b, 0, none⟩)] w fun e w' => e = .returned (.tuple #[]) ∧ w' = w := by
  obtain ⟨j, hj, _⟩ := Option.map_eq_some_iff.1 Try.Builder_Extra_169.sizeBuilder; have t72 := Try.underlying86; have u72 := run_underlying t72; have t70 := Try.underlying84; have u70 := run_underlying t70; go_enter Try.func108, Try.ntmps108; go_wp2; rw [Lib.run_neq_ptr_same w _ Try.underlying84 hj]; go_wp2; go_end0; exact ⟨rfl, rfl⟩
set_option maxHeartbeats 1000000 in
set_option maxRecDepth 100000 in
theorem strings_Builder_WriteString.fresh (b : Nat) (w : World) (h0 : w.cell? ⟨b, 0, none⟩ = some (.pointer none)) (hsh : w.shape? b = some (86, 2)) (hfz : w.frozen? ⟨b, 0, none⟩ = false) :
    Calls Try.prog 108 #[.pointer (some ⟨b, 0, none⟩)] w fun e w' => e = .returned (.tuple #[]) ∧ w' = w.setCell ⟨b, 0, none⟩ (.pointer (some ⟨b, 0, none⟩)) := by
  obtain ⟨j, hj, hjs⟩ := Option.map_eq_some_iff.1 Try.Builder_Extra_169.sizeBuilder; have t72 := Try.underlying86; have u72 := run_underlying t72; have t70 := Try.underlying84; have u70 := run_underlying t70; have t164 := Try.underlying154; have u164 := run_underlying t164; go_enter Try.func108, Try.ntmps108; go_wp2; rw [Lib.run_to_unsafe w ⟨b, 0, none⟩ Try.underlying84 Try.underlying154 hj (by rw [hjs]; decide) hsh (Nat.zero_lt_succ 1)]; simp only [Result.andThen]; rw [Oper.upon_value]; go_wp2; rw [run_callFunc_extern Try.func132 (by kernel_rfl) (by kernel_rfl) (by kernel_rfl) (e := Extern.AbiNoEscape.same) (by kernel_rfl)]; rw [Lib.run_noEscape]; simp only [Result.andThen]; rw [Oper.upon_value]; go_wp2; rw [Lib.run_from_unsafe w ⟨b, 0, none⟩ Try.underlying154 Try.underlying84 hj hsh Try.Builder_Extra_169.liesBuilder]; simp only [Result.andThen]; rw [Oper.upon_value]; go_wp2; go_end0; exact ⟨rfl, rfl⟩
theorem strings_Builder_WriteString.check (B b : Nat) (bs : List Value) (w : World) (h : Lib.IsBuilder 86 5 B b bs w) :
    Calls Try.prog 108 #[.pointer (some ⟨b, 0, none⟩)] w fun e w' => e = .returned (.tuple #[]) ∧ (Lib.BuilderAt 86 5 B b (.pointer (some ⟨b, 0, none⟩)) bs w' ∧ Below B w w') := by
  rcases h with h | h
  · refine (strings_Builder_WriteString.fresh b w h.cell0 h.shape h.frozen0).mono ?_; rintro e w' ⟨rfl, rfl⟩; exact ⟨rfl, h.used _, (Below.refl B w).setCell (p := ⟨b, 0, none⟩) h.1 _⟩
  · refine (strings_Builder_WriteString.used b w h.cell0).mono ?_; rintro e w' ⟨rfl, rfl⟩; exact ⟨rfl, h, Below.refl B _⟩
set_option maxHeartbeats 2000000 in
set_option maxRecDepth 100000 in
theorem strings_Builder_WriteString.write (B b : Nat) (bs : List Value) (s : ByteArray) (w : World) (h : Lib.IsBuilder 86 5 B b bs w) (hlen : bs.length + s.size ≤ 140737488355328) (hBw : B ≤ w.heap.size) :
    Calls Try.prog 61 #[.pointer (some ⟨b, 0, none⟩), .string s] w fun e w' => e = .returned (.tuple #[.int .i64 s.size, .nilIface]) ∧ (Lib.BuilderAt 86 5 B b (.pointer (some ⟨b, 0, none⟩)) (bs ++ Lib.strCells s) w' ∧ Below B w w') := by
  obtain ⟨i0, hi, hz0, hz1, hz2⟩ := info_parts Try.Builder_Extra_169.infoByte; have t72 := Try.underlying86; have u72 := run_underlying t72; have t70 := Try.underlying84; have u70 := run_underlying t70; have t37 := Try.underlying56; have u37 := run_underlying t37; have t9 := Try.underlying9; have u9 := run_underlying t9; have t5 := Try.underlying5; have u5 := run_underlying t5; go_enter Try.func61, Try.ntmps61; go_wp2_with (go_at_call 108; refine (strings_Builder_WriteString.check B b bs _ h).mono ?_); rintro e w1 ⟨rfl, h1, hb1⟩; obtain ⟨hB, v, hbk, hown, hne⟩ := h1; have c0 : w1.cell? ⟨b, 0, none⟩ = some (.pointer (some ⟨b, 0, none⟩)) := (by rw [Lib.cell_of_heap hbk]; rfl); have c1 : w1.cell? ⟨b, 1, none⟩ = some v := (by rw [Lib.cell_of_heap hbk]; rfl); go_wp2_with (at_builtin; refine Lib.wpList_append_own_string _ rfl _ _ 56 9 rfl B 5 i0 Try.underlying56 Try.underlying9 hi hz0 hz1 hz2 _ _ _ rfl hown s rfl ?c3 ?c4 ?c5 ?_)
  case c3 => unfold maxLen; omega
  case c4 => omega
  case c5 => have := hb1.size; omega
  intro v' w2 hown' hgrow _
  have hlt : b < w1.heap.size := by
    rcases Nat.lt_or_ge b w1.heap.size with h' | h'
    ·exact h'
    ·simp [Array.getElem?_eq_none h'] at hbk
  have hb2 : w2.heap[b]? = some (.cells #[.pointer (some ⟨b, 0, none⟩), v] 86 (0, 0)) := by
    rw [hgrow.block b hlt (fun e => hne e.symm)]; exact hbk
  have d0 : w2.cell? ⟨b, 0, none⟩ = some (.pointer (some ⟨b, 0, none⟩)) := (by rw [Lib.cell_of_heap hb2]; rfl); have d1 : w2.cell? ⟨b, 1, none⟩ = some v := (by rw [Lib.cell_of_heap hb2]; rfl); have f1 : w2.frozen? ⟨b, 1, none⟩ = false := Lib.frozen_of_heap hb2 1
  obtain ⟨ao, n', cap, rfl⟩ : ∃ ao n' cap, v' = .slice ao n' cap := by
    rcases hown'.2 with ⟨hv, _⟩ | ⟨g, cap, cur, hv, _⟩
    ·exact ⟨_, _, _, hv⟩
    ·exact ⟨_, _, _, hv⟩
  go_wp2; go_ret2; refine ⟨rfl, ?_, ?_⟩
  · exact Lib.BuilderAt.put (T := 86) (e := 5) hB hb2 (bs' := bs ++ Lib.strCells s) (by simpa [Lib.strCells_length] using hown') Try.Builder_Extra_169.neB5
  · exact (hb1.grown hgrow (by have := hb1.size; omega) (fun k hk => (hown.lt k hk).1)).setCell (p := ⟨b, 1, none⟩) hB _

/-! ### impl_joinLines: function 46 -/
def impl_joinLines.tot (l : List ByteArray) : Nat := (l.map fun s => s.size + 1).sum
def impl_joinLines.cat (l : List ByteArray) : List UInt8 := l.flatMap fun s => s.data.toList ++ [10]
theorem impl_joinLines.tot_take (l : List ByteArray) (i : Nat) (h : i < l.length) : impl_joinLines.tot (l.take (i + 1)) = impl_joinLines.tot (l.take i) + (l[i].size + 1) := by
  unfold impl_joinLines.tot; rw [List.take_succ_eq_append_getElem h]; simp only [List.map_append, List.sum_append, List.map_cons, List.map_nil, List.sum_cons, List.sum_nil, Nat.add_zero]
theorem impl_joinLines.tot_le (l : List ByteArray) (i : Nat) : impl_joinLines.tot (l.take i) ≤ impl_joinLines.tot l := by
  have h : impl_joinLines.tot l = impl_joinLines.tot (l.take i) + impl_joinLines.tot (l.drop i) := by
    unfold impl_joinLines.tot
    conv => lhs; rw [← List.take_append_drop i l]
    rw [List.map_append, List.sum_append]
  omega
theorem impl_joinLines.cat_take (l : List ByteArray) (i : Nat) (h : i < l.length) : impl_joinLines.cat (l.take (i + 1)) = impl_joinLines.cat (l.take i) ++ (l[i] ++ (⟨#[10]⟩ : ByteArray)).data.toList := by
  have e : (l[i] ++ (⟨#[10]⟩ : ByteArray)).data.toList = l[i].data.toList ++ [10] := (by simp); rw [e]; unfold impl_joinLines.cat; rw [List.take_succ_eq_append_getElem h]; simp only [List.flatMap_append, List.flatMap_cons, List.flatMap_nil, List.append_nil]
theorem impl_joinLines.cat_length (l : List ByteArray) : (impl_joinLines.cat l).length = impl_joinLines.tot l := by
  unfold impl_joinLines.cat impl_joinLines.tot
  induction l with
  | nil => rfl
  | cons s l ih =>
    simp only [List.flatMap_cons, List.length_append, List.map_cons, List.sum_cons, ih]; have e : (s.data.toList ++ [10]).length = s.size + 1 := (by simp only [List.length_append, Array.length_toList, List.length_cons, List.length_nil]; rfl); rw [List.length_append] at e; rw [e]
def impl_joinLines.f (l0 : List ByteArray) : Option ByteArray := if impl_joinLines.tot l0 ≤ 140737488355328 then some ⟨(impl_joinLines.cat l0).toArray⟩ else none
set_option maxHeartbeats 8000000 in
set_option maxRecDepth 100000 in
theorem impl_joinLines.calls (A0 : Option Addr) (c0 : Nat) (l0 : List ByteArray) (r : ByteArray) (w : World) (hr0 : Kd.C Kd.string w A0 l0.length l0) (hc0 : l0.length ≤ c0) (h : impl_joinLines.f l0 = some r) :
    Calls Try.prog 46 #[.slice A0 l0.length c0] w fun e w' => e = .returned (.string r) ∧ Below w.heap.size w w' := by
  unfold impl_joinLines.f at h; by_cases ht : impl_joinLines.tot l0 ≤ 140737488355328
  case neg => rw [if_neg ht] at h; exact absurd h (by simp)
  rw [if_pos ht] at h; obtain rfl := Option.some.inj h; have hu := Try.underlying86; have HR := Aside0.mk hr0; have HC := Aside0.mk hc0; have HT := Aside0.mk ht; clear hr0 hc0 ht h
  have hlen : l0.length ≤ 140737488355328 := by
    have e : l0.length ≤ impl_joinLines.tot l0 := by
     unfold impl_joinLines.tot; clear HR HC HT
     induction l0 with
     | nil => simp
     | cons s l ih => simp only [List.length_cons, List.map_cons, List.sum_cons]; omega
    have := HT.out; omega
  go_enter Try.func46, Try.ntmps46; go_wp2_with (first | ((with_reducible refine gate_dst (N := 3) rfl ?_); refine be_ 3 #[.pointer none, .slice none 0 0] 86 ?_; intro gb hg w5 hbox hb; have HB := Aside0.mk hb; have HI : Aside0 (Lib.IsBuilder 86 5 w.heap.size gb (Lib.byteCells (impl_joinLines.cat (l0.take 0))) w5) := ⟨.inl ⟨Nat.le_of_eq hg.symm, .slice none 0 0, hbox, World.ownsRow_nil _ _ _ _, by simp [Value.ownBlock]⟩⟩; clear hb hbox hg)); go_loopg [8] l0.length (fun kq v8 w' => ∃ i : Nat, i + kq = l0.length ∧ v8 = .int .i64 i ∧ Aside0 (Lib.IsBuilder 86 5 w.heap.size gb (Lib.byteCells (impl_joinLines.cat (l0.take i))) w') ∧ Aside0 (Below w.heap.size w w'))
  case atStart => exact ⟨0, by omega, by simp, HI, HB⟩
  case round =>
    clear HI HB; obtain ⟨i, hi, rfl, HI, HB⟩ := hrel
    cases gk with
    | zero =>
     have hlt : ¬ (i < l0.length) := (by omega); have e0 : l0.take i = l0 := List.take_of_length_le (by omega); have HI0 : Aside0 (Lib.IsBuilder 86 5 w.heap.size gb (Lib.byteCells (impl_joinLines.cat l0)) wr) := ⟨by have := HI.out; rw [e0] at this; exact this⟩; clear e0 HI; go_wp2_with (first | (go_at_call 68; refine (Try.Builder_String_any w.heap.size gb (impl_joinLines.cat l0) _ HI0.out HB.out.size).mono ?_; rintro e w6 ⟨rfl, hb⟩; have HB2 := Aside0.mk (Below.trans HB.out hb); clear hb)); go_ret; exact ⟨rfl, HB2.out⟩
    | succ k1 =>
     have hlt : i < l0.length := (by omega); have p1 : (0 : Int) ≤ (i : Int) := (by omega); have q1 : (i : Int) < (l0.length : Int) := (by omega); obtain ⟨ad, e1, hx⟩ := Kd.at_string HR.out (i : Int) p1 q1; subst e1
     have hx2 : wr.cell? (ad.add i) = some (.string l0[i]) := by
      have := bx_ HB hx; simpa [rdOf, List.getD, List.getElem?_eq_getElem hlt] using this
     have HN := Aside0.mk (impl_joinLines.cat_take l0 i hlt)
     have hs : (impl_joinLines.cat (l0.take i)).length + (l0[i].size + 1) ≤ 140737488355328 := by
      have h1 := impl_joinLines.tot_take l0 i hlt; have h2 := impl_joinLines.tot_le l0 (i + 1); have h3 := HT.out; rw [impl_joinLines.cat_length]; omega
     have HS := Aside0.mk hs; have hk1 : (9223372036854775807 < l0[i].size + 1) = False := eq_false (by omega); have hk2 : l0[i].size + 1 ≤ 9223372036854775807 := (by omega); clear hx hs p1 q1; go_wp2_with (first | (go_at_call 61; refine (strings_Builder_WriteString.write w.heap.size gb _ (l0[i] ++ (⟨#[10]⟩ : ByteArray)) _ HI.out (by have := HS.out; rw [Lib.byteCells_length, ByteArray.size_append]; exact this) HB.out.size).mono ?_; rintro e w6 ⟨rfl, hi6, hb⟩; have HI2 : Aside0 (Lib.IsBuilder 86 5 w.heap.size gb (Lib.byteCells (impl_joinLines.cat (l0.take (i + 1)))) w6) := ⟨.inr (by rw [HN.out, Lib.byteCells_append, ← Lib.strCells_eq]; exact hi6)⟩; have HB2 := Aside0.mk (Below.trans HB.out hb); clear hb hi6)); go_roundg k1
     case measure => omega
     case rel => exact ⟨i + 1, by omega, by go_num, HI2, HB2⟩

/-! ### impl_VersionSum: function 11 -/
def impl_VersionSum.f (k : Nat) (l0_0 : List (List Int)) (l0_1 : List (S123)) (a1 : Int) : Option (Int × Int) := (impl_Extract.f k l0_0 l0_1 a1).bind fun bt353 => (if bt353.2 = 0 then ((impl_joinLines.f bt353.1).bind fun t357 => ((impl_SumOf.f k t357).bind fun t358 => (some (t358, 0)))) else (some (0, bt353.2)))
theorem impl_VersionSum.mono : ∀ a0 a1 a2 k, LeO (impl_VersionSum.f k a0 a1 a2) (impl_VersionSum.f (k + 1) a0 a1 a2) := by
  intro a0 a1 a2 k; unfold impl_VersionSum.f
  repeat' with_reducible first | exact LeO.refl _ | exact LeO.none _ | refine LeO.ite ?_ ?_ | refine LeO.bind ?_ (fun _ => ?_) | exact impl_Extract.mono _ _ _ _ | exact impl_SumOf.mono _ _
set_option maxHeartbeats 8000000 in
set_option maxRecDepth 100000 in
theorem impl_VersionSum.calls (k : Nat) (A0_0 : Option Addr) (c0_0 : Nat) (l0_0 : List (List Int)) (A0_1 : Option Addr) (c0_1 : Nat) (l0_1 : List (S123)) (a1 : Int) (r1 : Int) (r2 : Int) (w : World) (hr0_0 : Kd.C (Kd.slice 3 (Kd.int .i64)) w A0_0 l0_0.length l0_0) (hc0_0 : l0_0.length ≤ c0_0) (hr0_1 : Kd.C k123 w A0_1 l0_1.length l0_1) (hc0_1 : l0_1.length ≤ c0_1) (h : impl_VersionSum.f k l0_0 l0_1 a1 = some (r1, r2)) :
    Calls Try.prog 11 #[.agg #[.slice A0_0 l0_0.length c0_0, .slice A0_1 l0_1.length c0_1], .int .i64 a1] w fun e w' => e = .returned (.tuple #[.int .u32 r1, .int .i64 r2]) ∧ Below w.heap.size w w' := by
  have hu32 := Try.underlying32; have HR0_0 := Aside0.mk hr0_0; have HC0_0 := Aside0.mk hc0_0; clear hr0_0 hc0_0; have HR0_1 := Aside0.mk hr0_1; have HC0_1 := Aside0.mk hc0_1; clear hr0_1 hc0_1; have HB := Aside0.mk (Below.refl w.heap.size w); have H : ((impl_Extract.f k l0_0 l0_1 a1).bind fun bt353 => (if bt353.2 = 0 then ((impl_joinLines.f bt353.1).bind fun t357 => ((impl_SumOf.f k t357).bind fun t358 => (some (t358, 0)))) else (some (0, bt353.2)))) = some (r1, r2) := h; clear h; replace H := Option.bind_eq_some_iff.mp H; obtain ⟨⟨t353, t356⟩, A30, H⟩ := H; replace H : (if t356 = 0 then ((impl_joinLines.f t353).bind fun t357 => ((impl_SumOf.f k t357).bind fun t358 => (some (t358, 0)))) else (some (0, t356))) = some (r1, r2) := H; have A3 := Aside0.mk A30; clear A30; by_cases c4 : t356 = 0
  · rw [if_pos c4] at H; have c4b0 : (t356 == 0) = true := beq_iff_eq.mpr c4; have c4b1 : (t356 != 0) = false := bne_eq_false_iff_eq.mpr c4; clear c4; replace H := Option.bind_eq_some_iff.mp H; obtain ⟨t357, A50, H⟩ := H; replace H : ((impl_SumOf.f k t357).bind fun t358 => (some (t358, 0))) = some (r1, r2) := H; have A5 := Aside0.mk A50; clear A50; replace H := Option.bind_eq_some_iff.mp H; obtain ⟨t358, A60, H⟩ := H; replace H : (some (t358, 0)) = some (r1, r2) := H; have A6 := Aside0.mk A60; clear A60; simp only [Option.some.injEq, Prod.mk.injEq] at H; obtain ⟨rfl, rfl⟩ := H; go_enter Try.func11, Try.ntmps11; go_wp2_with (first | ((with_reducible refine gate_dst (N := 2) rfl ?_); refine be_ 2 #[.slice A0_0 l0_0.length c0_0, .slice A0_1 l0_1.length c0_1] 32 ?_; intro gb352 hg w7 hbox hb; refine ai4_ (below_step q0_ hb) (hbox) (gw_ hg q0_) (gw_ hg q0_) ?_; clear HB; intro HB BK352 GW352 GE352; clear hb hbox hg; obtain ⟨hcz8_0, hcz8_1, hfz8_0, hfz8_1⟩ := bk2_ BK352.out) | ((with_reducible refine gate_callee (f := 35) rfl ?_); refine gl_ 11 Try.func35 #[.agg #[.slice A0_0 l0_0.length c0_0, .slice A0_1 l0_1.length c0_1], .int .i64 a1] ?_; (with_reducible refine (impl_Extract.calls k _ _ l0_0 _ _ l0_1 a1 t353 t356 _ ?side1 ?side2 ?side3 ?side4 A3.out).mono ?_); (case side1 => exact q3_); (case side2 => exact HC0_0.out); (case side3 => exact q4_); (case side4 => exact HC0_1.out); rintro e w9 ⟨v354, rfl, ho0, hb⟩; refine ⟨_, rfl, ?_⟩; refine ai3_ (Kd.R_lower ho0 (below_size q40_)) (bb_ BK352 hb) (below_step q40_ hb) ?_; clear BK352 HB; intro HO355 BK352 HB; (try clear hb); (try clear hb2); (try clear hk); (try clear hi); (try clear ho0); obtain ⟨Ao10, co10, eo10⟩ := Kd.R_slice HO355.out; subst eo10) | ((with_reducible refine gate_callee (f := 46) rfl ?_); refine gl_ 18 Try.func46 #[.slice Ao10 t353.length co10] ?_; (with_reducible refine (impl_joinLines.calls _ _ t353 t357 _ ?side1 ?side2 A5.out).mono ?_); (case side1 => exact (by repeat (first | exact (Kd.R_reads' HO355.out).2.2 | (with_reducible refine Kd.C_alloc ?_ _) | (with_reducible refine Kd.C_drewN ?_ _) | (with_reducible refine Kd.C_drew ?_)))); (case side2 => exact (Kd.R_reads' HO355.out).2.1); rintro e w11 ⟨rfl, hb⟩; refine ⟨_, rfl, ?_⟩; refine ai3_ (Kd.R_below (zp_ HO355) hb) (bb_ BK352 hb) (below_step q40_ hb) ?_; clear HO355 BK352 HB; intro HO355 BK352 HB; (try clear hb); (try clear hb2); (try clear hk); (try clear hi)) | ((with_reducible refine gate_callee (f := 45) rfl ?_); refine gl_ 19 Try.func45 #[.string t357] ?_; (with_reducible refine (impl_SumOf.calls k t357 t358 _ A6.out).mono ?_); rintro e w' ⟨rfl, ⟨nd, rfl⟩⟩; refine ⟨_, rfl, ?_⟩)); go_ret2; exact ⟨er_, zb_⟩
  · rw [if_neg c4] at H; have c4b0 : (t356 == 0) = false := beq_eq_false_iff_ne.mpr c4; have c4b1 : (t356 != 0) = true := bne_iff_ne.mpr c4; simp only [Option.some.injEq, Prod.mk.injEq] at H; obtain ⟨rfl, rfl⟩ := H; go_enter Try.func11, Try.ntmps11; go_wp2_with (first | ((with_reducible refine gate_dst (N := 2) rfl ?_); refine be_ 2 #[.slice A0_0 l0_0.length c0_0, .slice A0_1 l0_1.length c0_1] 32 ?_; intro gb352 hg w12 hbox hb; refine ai4_ (below_step q0_ hb) (hbox) (gw_ hg q0_) (gw_ hg q0_) ?_; clear HB; intro HB BK352 GW352 GE352; clear hb hbox hg; obtain ⟨hcz13_0, hcz13_1, hfz13_0, hfz13_1⟩ := bk2_ BK352.out) | ((with_reducible refine gate_callee (f := 35) rfl ?_); refine gl_ 11 Try.func35 #[.agg #[.slice A0_0 l0_0.length c0_0, .slice A0_1 l0_1.length c0_1], .int .i64 a1] ?_; (with_reducible refine (impl_Extract.calls k _ _ l0_0 _ _ l0_1 a1 t353 t356 _ ?side1 ?side2 ?side3 ?side4 A3.out).mono ?_); (case side1 => exact q3_); (case side2 => exact HC0_0.out); (case side3 => exact q4_); (case side4 => exact HC0_1.out); rintro e w14 ⟨v354, rfl, ho0, hb⟩; refine ⟨_, rfl, ?_⟩; refine ai3_ (Kd.R_lower ho0 (below_size q40_)) (bb_ BK352 hb) (below_step q40_ hb) ?_; clear BK352 HB; intro HO355 BK352 HB; (try clear hb); (try clear hb2); (try clear hk); (try clear hi); (try clear ho0))); go_ret2; exact ⟨er_, zb_⟩

/-! ### laws_eqIntS: function 26 -/
def laws_eqIntS.l0 : Nat → List Int → List Int → Int → Option (Bool)
  | 0, _, _, _ => none
  | k + 1, x0, x1, x5 => if x5 < (x0.length : Int) then (if 0 ≤ x5 then (if x5 < (x1.length : Int) then (if (rd x0 x5) = (rd x1 x5) then (laws_eqIntS.l0 k x0 x1 (wrap64 (x5 + 1))) else (some false)) else (none)) else (none)) else (some true)
def laws_eqIntS.f (k : Nat) (l0 : List Int) (l1 : List Int) : Option (Bool) := if (l0.length : Int) = (l1.length : Int) then (laws_eqIntS.l0 k l0 l1 0) else (some false)
theorem laws_eqIntS.mono_l : ∀ k, (∀ y0 y1 y2, LeO (laws_eqIntS.l0 k y0 y1 y2) (laws_eqIntS.l0 (k + 1) y0 y1 y2))
  | 0 => by intros; exact LeO.none _
  | k + 1 => by
    have ih0 := laws_eqIntS.mono_l k; intros ; unfold laws_eqIntS.l0 ; repeat' with_reducible first | exact LeO.refl _ | exact LeO.none _ | refine LeO.ite ?_ ?_ | refine LeO.bind ?_ (fun _ => ?_) | exact ih0 _ _ _
theorem laws_eqIntS.mono : ∀ a0 a1 k, LeO (laws_eqIntS.f k a0 a1) (laws_eqIntS.f (k + 1) a0 a1) := by
  intro a0 a1 k; have ih0 := laws_eqIntS.mono_l k; unfold laws_eqIntS.f
  repeat' with_reducible first | exact LeO.refl _ | exact LeO.none _ | refine LeO.ite ?_ ?_ | refine LeO.bind ?_ (fun _ => ?_) | exact ih0 _ _ _
set_option maxHeartbeats 8000000 in
set_option maxRecDepth 100000 in
theorem laws_eqIntS.calls (k : Nat) (A0 : Option Addr) (c0 : Nat) (l0 : List Int) (A1 : Option Addr) (c1 : Nat) (l1 : List Int) (r : Bool) (w : World) (hr0 : Kd.C (Kd.int .i64) w A0 l0.length l0) (hc0 : l0.length ≤ c0) (hr1 : Kd.C (Kd.int .i64) w A1 l1.length l1) (hc1 : l1.length ≤ c1) (h : laws_eqIntS.f k l0 l1 = some r) :
    Calls Try.prog 26 #[.slice A0 l0.length c0, .slice A1 l1.length c1] w fun e w' => e = .returned (.bool r) ∧ Drawn0 w w' := by
  have HR0 := Aside0.mk hr0; have HC0 := Aside0.mk hc0; clear hr0 hc0; have HR1 := Aside0.mk hr1; have HC1 := Aside0.mk hc1; clear hr1 hc1; have H : (if (l0.length : Int) = (l1.length : Int) then (laws_eqIntS.l0 k l0 l1 0) else (some false)) = some r := h; clear h; by_cases c3 : (l0.length : Int) = (l1.length : Int)
  · rw [if_pos c3] at H; have c3b0 : ((l0.length : Int) == (l1.length : Int)) = true := beq_iff_eq.mpr c3; have c3b1 : ((l0.length : Int) != (l1.length : Int)) = false := bne_eq_false_iff_eq.mpr c3; have c3b2 : (l0.length == l1.length) = true := (by first | simpa using c3 | (simp at c3 ⊢; omega)); clear c3; have H' := Aside0.mk H; clear H; go_enter Try.func26, Try.ntmps26; go_wp2
    repeat (go_quiet (fail); try go_wp2)
    go_loopg [5] k (fun kq v5 w' => ∃ (x5_1 : Int), v5 = .int .i64 x5_1 ∧ Aside0 (laws_eqIntS.l0 kq l0 l1 x5_1 = some r) ∧ Aside0 (kq ≤ k) ∧ Drawn0 w w')
    case atStart => exact ⟨(0), q5_, H', ⟨Nat.le_refl _⟩, by repeat (first | exact Drawn0.refl _ | apply Drawn0.step)⟩
    case round =>
     clear H'; (try clear c1); (try clear c2); (try clear p2); (try clear c3); (try clear c3b0); (try clear c3b1); (try clear c3b2); obtain ⟨x5_1, rfl, HA, HK1, ⟨m1, rfl⟩⟩ := hrel
     cases gk with
     | zero => exact absurd HA.out (by simp [laws_eqIntS.l0])
     | succ k1 =>
      have H := HA.out; clear HA; simp only [laws_eqIntS.l0] at H; by_cases c4 : x5_1 < (l0.length : Int)
      ·rw [if_pos c4] at H; have c4b0 : decide (x5_1 < (l0.length : Int)) = true := decide_eq_true c4; clear c4; obtain ⟨c5b0, H⟩ := ifd_ H; obtain ⟨c6b0, H⟩ := ifd_ H; by_cases c7 : (rd l0 x5_1) = (rd l1 x5_1)
       ·rw [if_pos c7] at H; have c7b0 : ((rd l0 x5_1) == (rd l1 x5_1)) = true := beq_iff_eq.mpr c7; have c7b1 : ((rd l0 x5_1) != (rd l1 x5_1)) = false := bne_eq_false_iff_eq.mpr c7; clear c7; have H' := Aside0.mk H; clear H; have p359 : 0 ≤ (x5_1 : Int) := of_decide_eq_true q2_; have q359 : x5_1 < (l0.length : Int) := of_decide_eq_true q2_; obtain ⟨ad359, e359, hx359_0⟩ := Kd.at_int HR0.out x5_1 p359 q359; cases e359; replace p359 := eq_true p359; replace q359 := eq_true q359; have p360 : 0 ≤ (x5_1 : Int) := of_decide_eq_true q2_; have q360 : x5_1 < (l1.length : Int) := of_decide_eq_true q2_; obtain ⟨ad360, e360, hx360_0⟩ := Kd.at_int HR1.out x5_1 p360 q360; cases e360; replace p360 := eq_true p360; replace q360 := eq_true q360; go_wp2
        repeat (go_quiet (fail); try go_wp2)
        go_roundg k1
        case measure => have := HK1.out; omega
        case rel => exact ⟨(wrap64 (x5_1 + 1)), q5_, H', ⟨by have := HK1.out; omega⟩, by repeat (first | exact Drawn0.refl _ | apply Drawn0.step)⟩
       ·rw [if_neg c7] at H; have c7b0 : ((rd l0 x5_1) == (rd l1 x5_1)) = false := beq_eq_false_iff_ne.mpr c7; have c7b1 : ((rd l0 x5_1) != (rd l1 x5_1)) = true := bne_iff_ne.mpr c7; obtain rfl := Option.some.inj H; have p359 : 0 ≤ (x5_1 : Int) := of_decide_eq_true q2_; have q359 : x5_1 < (l0.length : Int) := of_decide_eq_true q2_; obtain ⟨ad359, e359, hx359_0⟩ := Kd.at_int HR0.out x5_1 p359 q359; cases e359; replace p359 := eq_true p359; replace q359 := eq_true q359; have p360 : 0 ≤ (x5_1 : Int) := of_decide_eq_true q2_; have q360 : x5_1 < (l1.length : Int) := of_decide_eq_true q2_; obtain ⟨ad360, e360, hx360_0⟩ := Kd.at_int HR1.out x5_1 p360 q360; cases e360; replace p360 := eq_true p360; replace q360 := eq_true q360; go_wp2
        repeat (go_quiet (fail); try go_wp2)
        go_ret; exact ⟨by first | rfl | (simp; done) | (simp [*]; done), by repeat (first | exact Drawn0.refl _ | apply Drawn0.step)⟩
      ·rw [if_neg c4] at H; have c4b0 : decide (x5_1 < (l0.length : Int)) = false := decide_eq_false c4; clear c4; obtain rfl := Option.some.inj H; go_wp2
       repeat (go_quiet (fail); try go_wp2)
       go_ret; exact ⟨by first | rfl | (simp; done) | (simp [*]; done), by repeat (first | exact Drawn0.refl _ | apply Drawn0.step)⟩
  · rw [if_neg c3] at H; have c3b0 : ((l0.length : Int) == (l1.length : Int)) = false := beq_eq_false_iff_ne.mpr c3; have c3b1 : ((l0.length : Int) != (l1.length : Int)) = true := bne_iff_ne.mpr c3; have c3b2 : (l0.length == l1.length) = false := (by first | simpa using c3 | (simp at c3 ⊢; omega)); obtain rfl := Option.some.inj H; go_enter Try.func26, Try.ntmps26; go_wp2
    repeat (go_quiet (fail); try go_wp2)
    go_ret; exact ⟨by first | rfl | (simp; done) | (simp [*]; done), by repeat (first | exact Drawn0.refl _ | apply Drawn0.step)⟩

/-! ### laws_eqIntSS: function 47 -/
def laws_eqIntSS.l0 : Nat → List (List Int) → List (List Int) → Int → Option (Bool)
  | 0, _, _, _ => none
  | k + 1, x0, x1, x5 => if x5 < (x0.length : Int) then (if 0 ≤ x5 then (if x5 < (x1.length : Int) then ((laws_eqIntS.f k (rd_L1 x0 x5) (rd_L1 x1 x5)).bind fun t363 => (if t363 = true then (laws_eqIntSS.l0 k x0 x1 (wrap64 (x5 + 1))) else (some false))) else (none)) else (none)) else (some true)
def laws_eqIntSS.f (k : Nat) (l0 : List (List Int)) (l1 : List (List Int)) : Option (Bool) := if (l0.length : Int) = (l1.length : Int) then (laws_eqIntSS.l0 k l0 l1 0) else (some false)
theorem laws_eqIntSS.mono_l : ∀ k, (∀ y0 y1 y2, LeO (laws_eqIntSS.l0 k y0 y1 y2) (laws_eqIntSS.l0 (k + 1) y0 y1 y2))
  | 0 => by intros; exact LeO.none _
  | k + 1 => by
    have ih0 := laws_eqIntSS.mono_l k; intros ; unfold laws_eqIntSS.l0 ; repeat' with_reducible first | exact LeO.refl _ | exact LeO.none _ | refine LeO.ite ?_ ?_ | refine LeO.bind ?_ (fun _ => ?_) | exact ih0 _ _ _ | exact laws_eqIntS.mono _ _ _
theorem laws_eqIntSS.mono : ∀ a0 a1 k, LeO (laws_eqIntSS.f k a0 a1) (laws_eqIntSS.f (k + 1) a0 a1) := by
  intro a0 a1 k; have ih0 := laws_eqIntSS.mono_l k; unfold laws_eqIntSS.f
  repeat' with_reducible first | exact LeO.refl _ | exact LeO.none _ | refine LeO.ite ?_ ?_ | refine LeO.bind ?_ (fun _ => ?_) | exact ih0 _ _ _ | exact laws_eqIntS.mono _ _ _
set_option maxHeartbeats 8000000 in
set_option maxRecDepth 100000 in
theorem laws_eqIntSS.calls (k : Nat) (A0 : Option Addr) (c0 : Nat) (l0 : List (List Int)) (A1 : Option Addr) (c1 : Nat) (l1 : List (List Int)) (r : Bool) (w : World) (hr0 : Kd.C (Kd.slice 3 (Kd.int .i64)) w A0 l0.length l0) (hc0 : l0.length ≤ c0) (hr1 : Kd.C (Kd.slice 3 (Kd.int .i64)) w A1 l1.length l1) (hc1 : l1.length ≤ c1) (h : laws_eqIntSS.f k l0 l1 = some r) :
    Calls Try.prog 47 #[.slice A0 l0.length c0, .slice A1 l1.length c1] w fun e w' => e = .returned (.bool r) ∧ Drawn0 w w' := by
  have HR0 := Aside0.mk hr0; have HC0 := Aside0.mk hc0; clear hr0 hc0; have HR1 := Aside0.mk hr1; have HC1 := Aside0.mk hc1; clear hr1 hc1; have H : (if (l0.length : Int) = (l1.length : Int) then (laws_eqIntSS.l0 k l0 l1 0) else (some false)) = some r := h; clear h; by_cases c3 : (l0.length : Int) = (l1.length : Int)
  · rw [if_pos c3] at H; have c3b0 : ((l0.length : Int) == (l1.length : Int)) = true := beq_iff_eq.mpr c3; have c3b1 : ((l0.length : Int) != (l1.length : Int)) = false := bne_eq_false_iff_eq.mpr c3; have c3b2 : (l0.length == l1.length) = true := (by first | simpa using c3 | (simp at c3 ⊢; omega)); clear c3; have H' := Aside0.mk H; clear H; go_enter Try.func47, Try.ntmps47; go_wp2
    repeat (go_quiet (fail); try go_wp2)
    go_loopg [5] k (fun kq v5 w' => ∃ (x5_1 : Int), v5 = .int .i64 x5_1 ∧ Aside0 (laws_eqIntSS.l0 kq l0 l1 x5_1 = some r) ∧ Aside0 (kq ≤ k) ∧ Drawn0 w w')
    case atStart => exact ⟨(0), q5_, H', ⟨Nat.le_refl _⟩, by repeat (first | exact Drawn0.refl _ | apply Drawn0.step)⟩
    case round =>
     clear H'; (try clear c1); (try clear p2); (try clear c3); (try clear c3b0); (try clear c3b1); (try clear c3b2); obtain ⟨x5_1, rfl, HA, HK1, ⟨m1, rfl⟩⟩ := hrel
     cases gk with
     | zero => exact absurd HA.out (by simp [laws_eqIntSS.l0])
     | succ k1 =>
      have H := HA.out; clear HA; simp only [laws_eqIntSS.l0] at H; by_cases c4 : x5_1 < (l0.length : Int)
      ·rw [if_pos c4] at H; have c4b0 : decide (x5_1 < (l0.length : Int)) = true := decide_eq_true c4; clear c4; obtain ⟨c5b0, H⟩ := ifd_ H; obtain ⟨c6b0, H⟩ := ifd_ H; replace H := Option.bind_eq_some_iff.mp H; obtain ⟨t363, A70, H⟩ := H; (try dsimp only at H); have A7 := Aside0.mk A70; clear A70; by_cases c8 : t363 = true
       ·subst c8; rw [if_pos rfl] at H; have H' := Aside0.mk H; clear H; have p361 : 0 ≤ (x5_1 : Int) := of_decide_eq_true q2_; have q361 : x5_1 < (l0.length : Int) := of_decide_eq_true q2_; obtain ⟨ad361, A361_0, c361_0, e361, hx361_0, hl361_0, hi361_0⟩ := at_L1 HR0.out x5_1 p361 q361; cases e361; have HR361_0 := Aside0.mk hi361_0; have HC361_0 := Aside0.mk hl361_0; clear hi361_0 hl361_0; replace p361 := eq_true p361; replace q361 := eq_true q361; have p362 : 0 ≤ (x5_1 : Int) := of_decide_eq_true q2_; have q362 : x5_1 < (l1.length : Int) := of_decide_eq_true q2_; obtain ⟨ad362, A362_0, c362_0, e362, hx362_0, hl362_0, hi362_0⟩ := at_L1 HR1.out x5_1 p362 q362; cases e362; have HR362_0 := Aside0.mk hi362_0; have HC362_0 := Aside0.mk hl362_0; clear hi362_0 hl362_0; replace p362 := eq_true p362; replace q362 := eq_true q362; go_wp2_with (first | (go_at_call 26; (try simp only [i64_w]); (with_reducible refine (laws_eqIntS.calls k1 _ _ (rd_L1 l0 x5_1) _ _ (rd_L1 l1 x5_1) true _ ?side1 ?side2 ?side3 ?side4 A7.out).mono ?_); (case side1 => exact q34_); (case side2 => exact HC361_0.out); (case side3 => exact q35_); (case side4 => exact HC362_0.out); rintro e w' ⟨rfl, ⟨nd, rfl⟩⟩; (try first | exact ⟨rfl, _, World.drewN_drewN _ _ _⟩ | exact ⟨rfl, _, Eq.trans (World.drewN_drewN _ _ _) (congrArg (World.drewN _) (Nat.add_assoc _ _ _))⟩)))
        repeat (go_quiet (first | (go_at_call 26; (try simp only [i64_w]); (with_reducible refine (laws_eqIntS.calls k1 _ _ (rd_L1 l0 x5_1) _ _ (rd_L1 l1 x5_1) true _ ?side1 ?side2 ?side3 ?side4 A7.out).mono ?_); (case side1 => exact q34_); (case side2 => exact HC361_0.out); (case side3 => exact q35_); (case side4 => exact HC362_0.out); rintro e w' ⟨rfl, ⟨nd, rfl⟩⟩; (try first | exact ⟨rfl, _, World.drewN_drewN _ _ _⟩ | exact ⟨rfl, _, Eq.trans (World.drewN_drewN _ _ _) (congrArg (World.drewN _) (Nat.add_assoc _ _ _))⟩))); try go_wp2_with (first | (go_at_call 26; (try simp only [i64_w]); (with_reducible refine (laws_eqIntS.calls k1 _ _ (rd_L1 l0 x5_1) _ _ (rd_L1 l1 x5_1) true _ ?side1 ?side2 ?side3 ?side4 A7.out).mono ?_); (case side1 => exact q34_); (case side2 => exact HC361_0.out); (case side3 => exact q35_); (case side4 => exact HC362_0.out); rintro e w' ⟨rfl, ⟨nd, rfl⟩⟩; (try first | exact ⟨rfl, _, World.drewN_drewN _ _ _⟩ | exact ⟨rfl, _, Eq.trans (World.drewN_drewN _ _ _) (congrArg (World.drewN _) (Nat.add_assoc _ _ _))⟩))))
        go_roundg k1
        case measure => have := HK1.out; omega
        case rel => exact ⟨(wrap64 (x5_1 + 1)), q5_, H', ⟨by have := HK1.out; omega⟩, by repeat (first | exact Drawn0.refl _ | apply Drawn0.step)⟩
       ·replace c8 := Bool.eq_false_iff.mpr c8; subst c8; rw [if_neg nf_] at H; obtain rfl := Option.some.inj H; have p361 : 0 ≤ (x5_1 : Int) := of_decide_eq_true q2_; have q361 : x5_1 < (l0.length : Int) := of_decide_eq_true q2_; obtain ⟨ad361, A361_0, c361_0, e361, hx361_0, hl361_0, hi361_0⟩ := at_L1 HR0.out x5_1 p361 q361; cases e361; have HR361_0 := Aside0.mk hi361_0; have HC361_0 := Aside0.mk hl361_0; clear hi361_0 hl361_0; replace p361 := eq_true p361; replace q361 := eq_true q361; have p362 : 0 ≤ (x5_1 : Int) := of_decide_eq_true q2_; have q362 : x5_1 < (l1.length : Int) := of_decide_eq_true q2_; obtain ⟨ad362, A362_0, c362_0, e362, hx362_0, hl362_0, hi362_0⟩ := at_L1 HR1.out x5_1 p362 q362; cases e362; have HR362_0 := Aside0.mk hi362_0; have HC362_0 := Aside0.mk hl362_0; clear hi362_0 hl362_0; replace p362 := eq_true p362; replace q362 := eq_true q362; go_wp2_with (first | (go_at_call 26; (try simp only [i64_w]); (with_reducible refine (laws_eqIntS.calls k1 _ _ (rd_L1 l0 x5_1) _ _ (rd_L1 l1 x5_1) false _ ?side1 ?side2 ?side3 ?side4 A7.out).mono ?_); (case side1 => exact q34_); (case side2 => exact HC361_0.out); (case side3 => exact q35_); (case side4 => exact HC362_0.out); rintro e w' ⟨rfl, ⟨nd, rfl⟩⟩; (try first | exact ⟨rfl, _, World.drewN_drewN _ _ _⟩ | exact ⟨rfl, _, Eq.trans (World.drewN_drewN _ _ _) (congrArg (World.drewN _) (Nat.add_assoc _ _ _))⟩)))
        repeat (go_quiet (first | (go_at_call 26; (try simp only [i64_w]); (with_reducible refine (laws_eqIntS.calls k1 _ _ (rd_L1 l0 x5_1) _ _ (rd_L1 l1 x5_1) false _ ?side1 ?side2 ?side3 ?side4 A7.out).mono ?_); (case side1 => exact q34_); (case side2 => exact HC361_0.out); (case side3 => exact q35_); (case side4 => exact HC362_0.out); rintro e w' ⟨rfl, ⟨nd, rfl⟩⟩; (try first | exact ⟨rfl, _, World.drewN_drewN _ _ _⟩ | exact ⟨rfl, _, Eq.trans (World.drewN_drewN _ _ _) (congrArg (World.drewN _) (Nat.add_assoc _ _ _))⟩))); try go_wp2_with (first | (go_at_call 26; (try simp only [i64_w]); (with_reducible refine (laws_eqIntS.calls k1 _ _ (rd_L1 l0 x5_1) _ _ (rd_L1 l1 x5_1) false _ ?side1 ?side2 ?side3 ?side4 A7.out).mono ?_); (case side1 => exact q34_); (case side2 => exact HC361_0.out); (case side3 => exact q35_); (case side4 => exact HC362_0.out); rintro e w' ⟨rfl, ⟨nd, rfl⟩⟩; (try first | exact ⟨rfl, _, World.drewN_drewN _ _ _⟩ | exact ⟨rfl, _, Eq.trans (World.drewN_drewN _ _ _) (congrArg (World.drewN _) (Nat.add_assoc _ _ _))⟩))))
        go_ret; exact ⟨by first | rfl | (simp; done) | (simp [*]; done), by repeat (first | exact Drawn0.refl _ | apply Drawn0.step)⟩
      ·rw [if_neg c4] at H; have c4b0 : decide (x5_1 < (l0.length : Int)) = false := decide_eq_false c4; clear c4; obtain rfl := Option.some.inj H; go_wp2
       repeat (go_quiet (fail); try go_wp2)
       go_ret; exact ⟨by first | rfl | (simp; done) | (simp [*]; done), by repeat (first | exact Drawn0.refl _ | apply Drawn0.step)⟩
  · rw [if_neg c3] at H; have c3b0 : ((l0.length : Int) == (l1.length : Int)) = false := beq_eq_false_iff_ne.mpr c3; have c3b1 : ((l0.length : Int) != (l1.length : Int)) = true := bne_iff_ne.mpr c3; have c3b2 : (l0.length == l1.length) = false := (by first | simpa using c3 | (simp at c3 ⊢; omega)); obtain rfl := Option.some.inj H; go_enter Try.func47, Try.ntmps47; go_wp2
    repeat (go_quiet (fail); try go_wp2)
    go_ret; exact ⟨by first | rfl | (simp; done) | (simp [*]; done), by repeat (first | exact Drawn0.refl _ | apply Drawn0.step)⟩

/-! ### laws_eqBody: function 97 -/
def laws_eqBody.f (k : Nat) (a0_0 : ByteArray) (a0_1 : Int) (a0_2 : Int) (l0_3 : List Int) (a1_0 : ByteArray) (a1_1 : Int) (a1_2 : Int) (l1_3 : List Int) : Option (Bool) := if a0_0.toList = a1_0.toList then (if a0_1 = a1_1 then (if a0_2 = a1_2 then ((laws_eqIntS.f k l0_3 l1_3).bind fun t366 => (if t366 = true then (some true) else (some false))) else (some false)) else (some false)) else (some false)
theorem laws_eqBody.mono : ∀ a0 a1 a2 a3 a4 a5 a6 a7 k, LeO (laws_eqBody.f k a0 a1 a2 a3 a4 a5 a6 a7) (laws_eqBody.f (k + 1) a0 a1 a2 a3 a4 a5 a6 a7) := by
  intro a0 a1 a2 a3 a4 a5 a6 a7 k; unfold laws_eqBody.f
  repeat' with_reducible first | exact LeO.refl _ | exact LeO.none _ | refine LeO.ite ?_ ?_ | refine LeO.bind ?_ (fun _ => ?_) | exact laws_eqIntS.mono _ _ _
set_option maxHeartbeats 8000000 in
set_option maxRecDepth 100000 in
theorem laws_eqBody.calls (k : Nat) (a0_0 : ByteArray) (a0_1 : Int) (a0_2 : Int) (A0_3 : Option Addr) (c0_3 : Nat) (l0_3 : List Int) (a1_0 : ByteArray) (a1_1 : Int) (a1_2 : Int) (A1_3 : Option Addr) (c1_3 : Nat) (l1_3 : List Int) (r : Bool) (w : World) (hr0_3 : Kd.C (Kd.int .i64) w A0_3 l0_3.length l0_3) (hc0_3 : l0_3.length ≤ c0_3) (hr1_3 : Kd.C (Kd.int .i64) w A1_3 l1_3.length l1_3) (hc1_3 : l1_3.length ≤ c1_3) (h : laws_eqBody.f k a0_0 a0_1 a0_2 l0_3 a1_0 a1_1 a1_2 l1_3 = some r) :
    Calls Try.prog 97 #[.agg #[.string a0_0, .int .i64 a0_1, .int .i64 a0_2, .slice A0_3 l0_3.length c0_3], .agg #[.string a1_0, .int .i64 a1_1, .int .i64 a1_2, .slice A1_3 l1_3.length c1_3]] w fun e w' => e = .returned (.bool r) ∧ Below w.heap.size w w' := by
  have hu123 := Try.underlying123; have HR0_3 := Aside0.mk hr0_3; have HC0_3 := Aside0.mk hc0_3; clear hr0_3 hc0_3; have HR1_3 := Aside0.mk hr1_3; have HC1_3 := Aside0.mk hc1_3; clear hr1_3 hc1_3; have HB := Aside0.mk (Below.refl w.heap.size w); have H : (if a0_0.toList = a1_0.toList then (if a0_1 = a1_1 then (if a0_2 = a1_2 then ((laws_eqIntS.f k l0_3 l1_3).bind fun t366 => (if t366 = true then (some true) else (some false))) else (some false)) else (some false)) else (some false)) = some r := h; clear h; by_cases c3 : a0_0.toList = a1_0.toList
  · rw [if_pos c3] at H; have c3b0 : (a0_0.toList == a1_0.toList) = true := beq_iff_eq.mpr c3; have c3b1 : (a0_0.toList != a1_0.toList) = false := bne_eq_false_iff_eq.mpr c3; clear c3; by_cases c4 : a0_1 = a1_1
    ·rw [if_pos c4] at H; have c4b0 : (a0_1 == a1_1) = true := beq_iff_eq.mpr c4; have c4b1 : (a0_1 != a1_1) = false := bne_eq_false_iff_eq.mpr c4; clear c4; by_cases c5 : a0_2 = a1_2
     ·rw [if_pos c5] at H; have c5b0 : (a0_2 == a1_2) = true := beq_iff_eq.mpr c5; have c5b1 : (a0_2 != a1_2) = false := bne_eq_false_iff_eq.mpr c5; clear c5; replace H := Option.bind_eq_some_iff.mp H; obtain ⟨t366, A60, H⟩ := H; (try dsimp only at H); have A6 := Aside0.mk A60; clear A60; by_cases c7 : t366 = true
      ·subst c7; rw [if_pos rfl] at H; obtain rfl := Option.some.inj H; go_enter Try.func97, Try.ntmps97; go_wp2_with (first | ((with_reducible refine gate_dst (N := 2) rfl ?_); refine be_ 2 #[.string a0_0, .int .i64 a0_1, .int .i64 a0_2, .slice A0_3 l0_3.length c0_3] 123 ?_; intro gb364 hg w8 hbox hb; refine ai4_ (below_step q0_ hb) (hbox) (gw_ hg q0_) (gw_ hg q0_) ?_; clear HB; intro HB BK364 GW364 GE364; clear hb hbox hg) | ((with_reducible refine gate_dst (N := 3) rfl ?_); refine be_ 3 #[.string a1_0, .int .i64 a1_1, .int .i64 a1_2, .slice A1_3 l1_3.length c1_3] 123 ?_; intro gb365 hg w9 hbox hb; refine ai7_ (bb_ BK364 hb) (below_step q7_ hb) (hbox) (gw_ hg q7_) (gw_ hg q7_) (n1_ hg BK364) (n2_ hg BK364) ?_; clear BK364 HB; intro BK364 HB BK365 GW365 GE365 NB364_365 NB365_364; clear hb hbox hg; have hnb10 := NB364_365.out; have hnc10 := NB365_364.out; obtain ⟨hcz11_0, hcz11_1, hcz11_2, hcz11_3, hfz11_0, hfz11_1, hfz11_2, hfz11_3⟩ := bk4_ BK364.out; obtain ⟨hcz12_0, hcz12_1, hcz12_2, hcz12_3, hfz12_0, hfz12_1, hfz12_2, hfz12_3⟩ := bk4_ BK365.out) | ((with_reducible refine gate_callee (f := 26) rfl ?_); refine gl_ 24 Try.func26 #[.slice A0_3 l0_3.length c0_3, .slice A1_3 l1_3.length c1_3] ?_; (with_reducible refine (laws_eqIntS.calls k _ _ l0_3 _ _ l1_3 true _ ?side1 ?side2 ?side3 ?side4 A6.out).mono ?_); (case side1 => exact q45_); (case side2 => exact HC0_3.out); (case side3 => exact (by repeat (first | exact (Kd.C_below HR1_3.out HB.out) | (with_reducible refine Kd.C_alloc ?_ _) | (with_reducible refine Kd.C_drewN ?_ _) | (with_reducible refine Kd.C_drew ?_)))); (case side4 => exact HC1_3.out); rintro e w' ⟨rfl, ⟨nd, rfl⟩⟩; refine ⟨_, rfl, ?_⟩)); go_ret; exact ⟨er_, zb_⟩
      ·replace c7 := Bool.eq_false_iff.mpr c7; subst c7; rw [if_neg nf_] at H; obtain rfl := Option.some.inj H; go_enter Try.func97, Try.ntmps97; go_wp2_with (first | ((with_reducible refine gate_dst (N := 2) rfl ?_); refine be_ 2 #[.string a0_0, .int .i64 a0_1, .int .i64 a0_2, .slice A0_3 l0_3.length c0_3] 123 ?_; intro gb364 hg w13 hbox hb; refine ai4_ (below_step q0_ hb) (hbox) (gw_ hg q0_) (gw_ hg q0_) ?_; clear HB; intro HB BK364 GW364 GE364; clear hb hbox hg) | ((with_reducible refine gate_dst (N := 3) rfl ?_); refine be_ 3 #[.string a1_0, .int .i64 a1_1, .int .i64 a1_2, .slice A1_3 l1_3.length c1_3] 123 ?_; intro gb365 hg w14 hbox hb; refine ai7_ (bb_ BK364 hb) (below_step q7_ hb) (hbox) (gw_ hg q7_) (gw_ hg q7_) (n1_ hg BK364) (n2_ hg BK364) ?_; clear BK364 HB; intro BK364 HB BK365 GW365 GE365 NB364_365 NB365_364; clear hb hbox hg; have hnb15 := NB364_365.out; have hnc15 := NB365_364.out; obtain ⟨hcz16_0, hcz16_1, hcz16_2, hcz16_3, hfz16_0, hfz16_1, hfz16_2, hfz16_3⟩ := bk4_ BK364.out; obtain ⟨hcz17_0, hcz17_1, hcz17_2, hcz17_3, hfz17_0, hfz17_1, hfz17_2, hfz17_3⟩ := bk4_ BK365.out) | ((with_reducible refine gate_callee (f := 26) rfl ?_); refine gl_ 24 Try.func26 #[.slice A0_3 l0_3.length c0_3, .slice A1_3 l1_3.length c1_3] ?_; (with_reducible refine (laws_eqIntS.calls k _ _ l0_3 _ _ l1_3 false _ ?side1 ?side2 ?side3 ?side4 A6.out).mono ?_); (case side1 => exact q45_); (case side2 => exact HC0_3.out); (case side3 => exact (by repeat (first | exact (Kd.C_below HR1_3.out HB.out) | (with_reducible refine Kd.C_alloc ?_ _) | (with_reducible refine Kd.C_drewN ?_ _) | (with_reducible refine Kd.C_drew ?_)))); (case side4 => exact HC1_3.out); rintro e w' ⟨rfl, ⟨nd, rfl⟩⟩; refine ⟨_, rfl, ?_⟩)); go_ret; exact ⟨er_, zb_⟩
     ·rw [if_neg c5] at H; have c5b0 : (a0_2 == a1_2) = false := beq_eq_false_iff_ne.mpr c5; have c5b1 : (a0_2 != a1_2) = true := bne_iff_ne.mpr c5; obtain rfl := Option.some.inj H; go_enter Try.func97, Try.ntmps97; go_wp2_with (first | ((with_reducible refine gate_dst (N := 2) rfl ?_); refine be_ 2 #[.string a0_0, .int .i64 a0_1, .int .i64 a0_2, .slice A0_3 l0_3.length c0_3] 123 ?_; intro gb364 hg w18 hbox hb; refine ai4_ (below_step q0_ hb) (hbox) (gw_ hg q0_) (gw_ hg q0_) ?_; clear HB; intro HB BK364 GW364 GE364; clear hb hbox hg) | ((with_reducible refine gate_dst (N := 3) rfl ?_); refine be_ 3 #[.string a1_0, .int .i64 a1_1, .int .i64 a1_2, .slice A1_3 l1_3.length c1_3] 123 ?_; intro gb365 hg w19 hbox hb; refine ai7_ (bb_ BK364 hb) (below_step q7_ hb) (hbox) (gw_ hg q7_) (gw_ hg q7_) (n1_ hg BK364) (n2_ hg BK364) ?_; clear BK364 HB; intro BK364 HB BK365 GW365 GE365 NB364_365 NB365_364; clear hb hbox hg; have hnb20 := NB364_365.out; have hnc20 := NB365_364.out; obtain ⟨hcz21_0, hcz21_1, hcz21_2, hcz21_3, hfz21_0, hfz21_1, hfz21_2, hfz21_3⟩ := bk4_ BK364.out; obtain ⟨hcz22_0, hcz22_1, hcz22_2, hcz22_3, hfz22_0, hfz22_1, hfz22_2, hfz22_3⟩ := bk4_ BK365.out)); go_ret; exact ⟨er_, zb_⟩
    ·rw [if_neg c4] at H; have c4b0 : (a0_1 == a1_1) = false := beq_eq_false_iff_ne.mpr c4; have c4b1 : (a0_1 != a1_1) = true := bne_iff_ne.mpr c4; obtain rfl := Option.some.inj H; go_enter Try.func97, Try.ntmps97; go_wp2_with (first | ((with_reducible refine gate_dst (N := 2) rfl ?_); refine be_ 2 #[.string a0_0, .int .i64 a0_1, .int .i64 a0_2, .slice A0_3 l0_3.length c0_3] 123 ?_; intro gb364 hg w23 hbox hb; refine ai4_ (below_step q0_ hb) (hbox) (gw_ hg q0_) (gw_ hg q0_) ?_; clear HB; intro HB BK364 GW364 GE364; clear hb hbox hg) | ((with_reducible refine gate_dst (N := 3) rfl ?_); refine be_ 3 #[.string a1_0, .int .i64 a1_1, .int .i64 a1_2, .slice A1_3 l1_3.length c1_3] 123 ?_; intro gb365 hg w24 hbox hb; refine ai7_ (bb_ BK364 hb) (below_step q7_ hb) (hbox) (gw_ hg q7_) (gw_ hg q7_) (n1_ hg BK364) (n2_ hg BK364) ?_; clear BK364 HB; intro BK364 HB BK365 GW365 GE365 NB364_365 NB365_364; clear hb hbox hg; have hnb25 := NB364_365.out; have hnc25 := NB365_364.out; obtain ⟨hcz26_0, hcz26_1, hcz26_2, hcz26_3, hfz26_0, hfz26_1, hfz26_2, hfz26_3⟩ := bk4_ BK364.out; obtain ⟨hcz27_0, hcz27_1, hcz27_2, hcz27_3, hfz27_0, hfz27_1, hfz27_2, hfz27_3⟩ := bk4_ BK365.out)); go_ret; exact ⟨er_, zb_⟩
  · rw [if_neg c3] at H; have c3b0 : (a0_0.toList == a1_0.toList) = false := beq_eq_false_iff_ne.mpr c3; have c3b1 : (a0_0.toList != a1_0.toList) = true := bne_iff_ne.mpr c3; obtain rfl := Option.some.inj H; go_enter Try.func97, Try.ntmps97; go_wp2_with (first | ((with_reducible refine gate_dst (N := 2) rfl ?_); refine be_ 2 #[.string a0_0, .int .i64 a0_1, .int .i64 a0_2, .slice A0_3 l0_3.length c0_3] 123 ?_; intro gb364 hg w28 hbox hb; refine ai4_ (below_step q0_ hb) (hbox) (gw_ hg q0_) (gw_ hg q0_) ?_; clear HB; intro HB BK364 GW364 GE364; clear hb hbox hg) | ((with_reducible refine gate_dst (N := 3) rfl ?_); refine be_ 3 #[.string a1_0, .int .i64 a1_1, .int .i64 a1_2, .slice A1_3 l1_3.length c1_3] 123 ?_; intro gb365 hg w29 hbox hb; refine ai7_ (bb_ BK364 hb) (below_step q7_ hb) (hbox) (gw_ hg q7_) (gw_ hg q7_) (n1_ hg BK364) (n2_ hg BK364) ?_; clear BK364 HB; intro BK364 HB BK365 GW365 GE365 NB364_365 NB365_364; clear hb hbox hg; have hnb30 := NB364_365.out; have hnc30 := NB365_364.out; obtain ⟨hcz31_0, hcz31_1, hcz31_2, hcz31_3, hfz31_0, hfz31_1, hfz31_2, hfz31_3⟩ := bk4_ BK364.out; obtain ⟨hcz32_0, hcz32_1, hcz32_2, hcz32_3, hfz32_0, hfz32_1, hfz32_2, hfz32_3⟩ := bk4_ BK365.out)); go_ret; exact ⟨er_, zb_⟩

end Go.Proofs.Ytmodgiingohphaa.PFnExactVersionSum
-- (flat)
-- (thin)
