-- Made by a program (the kit's print with additions of this session: wip/tools/patch_print.py, ext.py).
-- (turned)
import Derived.Test.YtmodgiingohphaaPFnExactWeaveTextx0
import Derived.Test.YtmodgiingohphaaPFnExactWeaveTextx11
import Derived.Test.YtmodgiingohphaaPFnExactWeaveTextx12
import Derived.Test.YtmodgiingohphaaPFnExactWeaveTextx14
import Derived.Test.YtmodgiingohphaaPFnExactWeaveTextx15
namespace Go.Proofs.Ytmodgiingohphaa.PFnExactWeaveText
open Go.RowKit Go.Proofs.YtmodgiingohphaaW.PrintWords Go.Proofs.YtmodgiingohphaaW.PrintLast Go.Proofs.YtmodgiingohphaaW.PrintMore
attribute [local go_sem] max2_int min2_int max_two min_two max_three min_three max_four min_four   -- for this text's walks alone
set_option linter.unusedVariables false
set_option linter.unusedSimpArgs false

/-! ### impl_Records: function 14 -/
def impl_Records.f (k : Nat) (l0_0 : List (List Int)) (l0_1 : List (S123)) : Option ((List (S78)) × Bool) := (impl_WeaveOk.f k l0_0 l0_1).bind fun t436 => (if t436 = true then ((impl_records.f k l0_0 l0_1).bind fun t437 => (if (t437.length : Int) > 4000 then (some (([] : List (S78)), false)) else (some (t437, true)))) else (some (([] : List (S78)), false)))
theorem impl_Records.mono : ∀ a0 a1 k, LeO (impl_Records.f k a0 a1) (impl_Records.f (k + 1) a0 a1) := by
  intro a0 a1 k; unfold impl_Records.f
  repeat' with_reducible first | exact LeO.refl _ | exact LeO.none _ | refine LeO.ite ?_ ?_ | refine LeO.bind ?_ (fun _ => ?_) | exact impl_WeaveOk.mono _ _ _ | exact impl_records.mono _ _ _
set_option maxHeartbeats 8000000 in
set_option maxRecDepth 100000 in
theorem impl_Records.calls (k : Nat) (A0_0 : Option Addr) (c0_0 : Nat) (l0_0 : List (List Int)) (A0_1 : Option Addr) (c0_1 : Nat) (l0_1 : List (S123)) (r1 : List (S78)) (r2 : Bool) (w : World) (hr0_0 : Kd.C (Kd.slice 3 (Kd.int .i64)) w A0_0 l0_0.length l0_0) (hc0_0 : l0_0.length ≤ c0_0) (hr0_1 : Kd.C k123 w A0_1 l0_1.length l0_1) (hc0_1 : l0_1.length ≤ c0_1) (h : impl_Records.f k l0_0 l0_1 = some (r1, r2)) :
    Calls Try.prog 14 #[.agg #[.slice A0_0 l0_0.length c0_0, .slice A0_1 l0_1.length c0_1]] w fun e w' => ∃ v0_ : Value, e = .returned (.tuple #[v0_, .bool r2]) ∧ Kd.R k78 78 w' w.heap.size (fun _ => True) v0_ r1 ∧ Below w.heap.size w w' := by
  have hu32 := Try.underlying32; have HR0_0 := Aside0.mk hr0_0; have HC0_0 := Aside0.mk hc0_0; clear hr0_0 hc0_0; have HR0_1 := Aside0.mk hr0_1; have HC0_1 := Aside0.mk hc0_1; clear hr0_1 hc0_1; have HB := Aside0.mk (Below.refl w.heap.size w); have H : ((impl_WeaveOk.f k l0_0 l0_1).bind fun t436 => (if t436 = true then ((impl_records.f k l0_0 l0_1).bind fun t437 => (if (t437.length : Int) > 4000 then (some (([] : List (S78)), false)) else (some (t437, true)))) else (some (([] : List (S78)), false)))) = some (r1, r2) := h; clear h; replace H := Option.bind_eq_some_iff.mp H; obtain ⟨t436, A20, H⟩ := H; replace H : (if t436 = true then ((impl_records.f k l0_0 l0_1).bind fun t437 => (if (t437.length : Int) > 4000 then (some (([] : List (S78)), false)) else (some (t437, true)))) else (some (([] : List (S78)), false))) = some (r1, r2) := H; have A2 := Aside0.mk A20; clear A20; by_cases c3 : t436 = true
  · subst c3; have H1 : ((impl_records.f k l0_0 l0_1).bind fun t437 => (if (t437.length : Int) > 4000 then (some (([] : List (S78)), false)) else (some (t437, true)))) = some (r1, r2) := (by rw [if_pos rfl] at H; exact H); clear H; have H := H1; clear H1; replace H := Option.bind_eq_some_iff.mp H; obtain ⟨t437, A40, H⟩ := H; replace H : (if (t437.length : Int) > 4000 then (some (([] : List (S78)), false)) else (some (t437, true))) = some (r1, r2) := H; have A4 := Aside0.mk A40; clear A40; by_cases c5 : (t437.length : Int) > 4000
    ·rw [if_pos c5] at H; have c5b0 : decide (4000 < (t437.length : Int)) = true := decide_eq_true c5; have c5b1 : decide (4000 < t437.length) = true := decide_eq_true (by omega); clear c5; simp only [Option.some.injEq, Prod.mk.injEq] at H; obtain ⟨rfl, rfl⟩ := H; go_enter Try.func14, Try.ntmps14; go_wp2_with (first | ((with_reducible refine gate_dst (N := 1) rfl ?_); refine be_ 1 #[.slice A0_0 l0_0.length c0_0, .slice A0_1 l0_1.length c0_1] 32 ?_; intro gb435 hg w6 hbox hb; refine ai4_ (below_step q0_ hb) (hbox) (gw_ hg q0_) (gw_ hg q0_) ?_; clear HB; intro HB BK435 GW435 GE435; clear hb hbox hg; obtain ⟨hcz7_0, hcz7_1, hfz7_0, hfz7_1⟩ := bk2_ BK435.out) | ((with_reducible refine gate_callee (f := 37) rfl ?_); refine gl_ 6 Try.func37 #[.agg #[.slice A0_0 l0_0.length c0_0, .slice A0_1 l0_1.length c0_1]] ?_; (with_reducible refine (impl_WeaveOk.calls k _ _ l0_0 _ _ l0_1 true _ ?side1 ?side2 ?side3 ?side4 A2.out).mono ?_); (case side1 => exact q4_); (case side2 => exact HC0_0.out); (case side3 => exact q9_); (case side4 => exact HC0_1.out); rintro e w8 ⟨rfl, hb⟩; refine ⟨_, rfl, ?_⟩; refine ai2_ (bb_ BK435 hb) (below_step q32_ hb) ?_; clear BK435 HB; intro BK435 HB; (try clear hb); (try clear hb2); (try clear hk); (try clear hi); obtain ⟨hcz9_0, hcz9_1, hfz9_0, hfz9_1⟩ := bk2_ BK435.out) | ((with_reducible refine gate_callee (f := 51) rfl ?_); refine gl_ 9 Try.func51 #[.agg #[.slice A0_0 l0_0.length c0_0, .slice A0_1 l0_1.length c0_1]] ?_; (with_reducible refine (impl_records.calls k _ _ l0_0 (fun k_ => k_ < w.heap.size) _ _ l0_1 t437 _ ?side1 ?side2 ?side3 A4.out).mono ?_); (case side1 => exact q4_); (case side2 => exact HC0_0.out); (case side3 => exact Kd.V_mk HC0_1.out (Kd.F_below (Kd.C_F k123_heap HR0_1.out) q32_)); rintro e w10 ⟨v438, rfl, ho0, hb⟩; refine ⟨_, rfl, ?_⟩; refine ai3_ (Kd.R_lower (Kd.R_mono (ok' := fun k_ => True) ho0 (fun _ hk_ => trivial)) (below_size q32_)) (bb_ BK435 hb) (below_step q32_ hb) ?_; clear BK435 HB; intro HO439 BK435 HB; (try clear hb); (try clear hb2); (try clear hk); (try clear hi); (try clear ho0); obtain ⟨Ao11, co11, eo11⟩ := Kd.R_slice HO439.out; subst eo11)); go_ret2; exact ⟨_, er_, by first | exact Kd.R_nil _ _ _ _ _ | exact Kd.N_nil _ _ _ _ _ | exact Kd.V_nil _ _ _ _ _ | exact Kd.Q_nil _ _ _ _ _ | exact Kd.S_nil _ _ _ _ _, zb_⟩
    ·rw [if_neg c5] at H; have c5b0 : decide (4000 < (t437.length : Int)) = false := decide_eq_false c5; have c5b1 : decide (4000 < t437.length) = false := decide_eq_false (by omega); clear c5; simp only [Option.some.injEq, Prod.mk.injEq] at H; obtain ⟨rfl, rfl⟩ := H; go_enter Try.func14, Try.ntmps14; go_wp2_with (first | ((with_reducible refine gate_dst (N := 1) rfl ?_); refine be_ 1 #[.slice A0_0 l0_0.length c0_0, .slice A0_1 l0_1.length c0_1] 32 ?_; intro gb435 hg w12 hbox hb; refine ai4_ (below_step q0_ hb) (hbox) (gw_ hg q0_) (gw_ hg q0_) ?_; clear HB; intro HB BK435 GW435 GE435; clear hb hbox hg; obtain ⟨hcz13_0, hcz13_1, hfz13_0, hfz13_1⟩ := bk2_ BK435.out) | ((with_reducible refine gate_callee (f := 37) rfl ?_); refine gl_ 6 Try.func37 #[.agg #[.slice A0_0 l0_0.length c0_0, .slice A0_1 l0_1.length c0_1]] ?_; (with_reducible refine (impl_WeaveOk.calls k _ _ l0_0 _ _ l0_1 true _ ?side1 ?side2 ?side3 ?side4 A2.out).mono ?_); (case side1 => exact q4_); (case side2 => exact HC0_0.out); (case side3 => exact q9_); (case side4 => exact HC0_1.out); rintro e w14 ⟨rfl, hb⟩; refine ⟨_, rfl, ?_⟩; refine ai2_ (bb_ BK435 hb) (below_step q32_ hb) ?_; clear BK435 HB; intro BK435 HB; (try clear hb); (try clear hb2); (try clear hk); (try clear hi); obtain ⟨hcz15_0, hcz15_1, hfz15_0, hfz15_1⟩ := bk2_ BK435.out) | ((with_reducible refine gate_callee (f := 51) rfl ?_); refine gl_ 9 Try.func51 #[.agg #[.slice A0_0 l0_0.length c0_0, .slice A0_1 l0_1.length c0_1]] ?_; (with_reducible refine (impl_records.calls k _ _ l0_0 (fun k_ => k_ < w.heap.size) _ _ l0_1 t437 _ ?side1 ?side2 ?side3 A4.out).mono ?_); (case side1 => exact q4_); (case side2 => exact HC0_0.out); (case side3 => exact Kd.V_mk HC0_1.out (Kd.F_below (Kd.C_F k123_heap HR0_1.out) q32_)); rintro e w16 ⟨v438, rfl, ho0, hb⟩; refine ⟨_, rfl, ?_⟩; refine ai3_ (Kd.R_lower (Kd.R_mono (ok' := fun k_ => True) ho0 (fun _ hk_ => trivial)) (below_size q32_)) (bb_ BK435 hb) (below_step q32_ hb) ?_; clear BK435 HB; intro HO439 BK435 HB; (try clear hb); (try clear hb2); (try clear hk); (try clear hi); (try clear ho0); obtain ⟨Ao17, co17, eo17⟩ := Kd.R_slice HO439.out; subst eo17)); go_ret2; exact ⟨_, er_, zp_ HO439, zb_⟩
  · replace c3 := Bool.eq_false_iff.mpr c3; subst c3; have H1 : (some (([] : List (S78)), false)) = some (r1, r2) := (by rw [if_neg (show ¬ (false = true) by decide)] at H; exact H); clear H; have H := H1; clear H1; simp only [Option.some.injEq, Prod.mk.injEq] at H; obtain ⟨rfl, rfl⟩ := H; go_enter Try.func14, Try.ntmps14; go_wp2_with (first | ((with_reducible refine gate_dst (N := 1) rfl ?_); refine be_ 1 #[.slice A0_0 l0_0.length c0_0, .slice A0_1 l0_1.length c0_1] 32 ?_; intro gb435 hg w18 hbox hb; refine ai4_ (below_step q0_ hb) (hbox) (gw_ hg q0_) (gw_ hg q0_) ?_; clear HB; intro HB BK435 GW435 GE435; clear hb hbox hg; obtain ⟨hcz19_0, hcz19_1, hfz19_0, hfz19_1⟩ := bk2_ BK435.out) | ((with_reducible refine gate_callee (f := 37) rfl ?_); refine gl_ 6 Try.func37 #[.agg #[.slice A0_0 l0_0.length c0_0, .slice A0_1 l0_1.length c0_1]] ?_; (with_reducible refine (impl_WeaveOk.calls k _ _ l0_0 _ _ l0_1 false _ ?side1 ?side2 ?side3 ?side4 A2.out).mono ?_); (case side1 => exact q4_); (case side2 => exact HC0_0.out); (case side3 => exact q9_); (case side4 => exact HC0_1.out); rintro e w20 ⟨rfl, hb⟩; refine ⟨_, rfl, ?_⟩; refine ai2_ (bb_ BK435 hb) (below_step q32_ hb) ?_; clear BK435 HB; intro BK435 HB; (try clear hb); (try clear hb2); (try clear hk); (try clear hi))); go_ret2; exact ⟨_, er_, by first | exact Kd.R_nil _ _ _ _ _ | exact Kd.N_nil _ _ _ _ _ | exact Kd.V_nil _ _ _ _ _ | exact Kd.Q_nil _ _ _ _ _ | exact Kd.S_nil _ _ _ _ _, zb_⟩

/-! ### strings_Builder_WriteString: function 61 -/
/-! a builder that the call has made: this dump's own copyCheck and WriteString (its copyCheck refuses where the shelf's panics) -/
set_option maxHeartbeats 1000000 in
set_option maxRecDepth 100000 in
theorem strings_Builder_WriteString.used (b : Nat) (w : World) (h0 : w.cell? ⟨b, 0, none⟩ = some (.pointer (some ⟨b, 0, none⟩))) :
    Calls Try.prog 108 #[.pointer (some ⟨b, 0, none⟩)] w fun e w' => e = .returned (.tuple #[]) ∧ w' = w := by
  obtain ⟨j, hj, _⟩ := Option.map_eq_some_iff.1 Try.Builder_Extra_169.sizeBuilder; have t72 := Try.underlying86; have u72 := run_underlying t72; have t70 := Try.underlying84; have u70 := run_underlying t70; go_enter Try.func108, Try.ntmps108; go_wp2; rw [Lib.run_neq_ptr_same w _ Try.underlying84 hj]; go_wp2; go_end0; exact ⟨rfl, rfl⟩
set_option maxHeartbeats 1000000 in
set_option maxRecDepth 100000 in
theorem strings_Builder_WriteString.fresh (b : Nat) (w : World) (h0 : w.cell? ⟨b, 0, none⟩ = some (.pointer none)) (hsh : w.shape? b = some (86, 2)) (hfz : w.frozen? ⟨b, 0, none⟩ = false) :
    Calls Try.prog 108 #[.pointer (some ⟨b, 0, none⟩)] w fun e w' => e = .returned (.tuple #[]) ∧ w' = w.setCell ⟨b, 0, none⟩ (.pointer (some ⟨b, 0, none⟩)) := by
  obtain ⟨j, hj, hjs⟩ := Option.map_eq_some_iff.1 Try.Builder_Extra_169.sizeBuilder; have t72 := Try.underlying86; have u72 := run_underlying t72; have t70 := Try.underlying84; have u70 := run_underlying t70; have t164 := Try.underlying154; have u164 := run_underlying t164; go_enter Try.func108, Try.ntmps108; go_wp2; rw [Lib.run_to_unsafe w ⟨b, 0, none⟩ Try.underlying84 Try.underlying154 hj (by rw [hjs]; decide) hsh (Nat.zero_lt_succ 1)]; simp only [Result.andThen]; rw [Oper.upon_value]; go_wp2; rw [run_callFunc_extern Try.func132 (by kernel_rfl) (by kernel_rfl) (by kernel_rfl) (e := Extern.AbiNoEscape.same) (by kernel_rfl)]; rw [Lib.run_noEscape]; simp only [Result.andThen]; rw [Oper.upon_value]; go_wp2; rw [Lib.run_from_unsafe w ⟨b, 0, none⟩ Try.underlying154 Try.underlying84 hj hsh Try.Builder_Extra_169.liesBuilder]; simp only [Result.andThen]; rw [Oper.upon_value]; go_wp2; go_end0; exact ⟨rfl, rfl⟩
theorem strings_Builder_WriteString.check (B b : Nat) (bs : List Value) (w : World) (h : Lib.IsBuilder 86 5 B b bs w) :
    Calls Try.prog 108 #[.pointer (some ⟨b, 0, none⟩)] w fun e w' => e = .returned (.tuple #[]) ∧ (Lib.BuilderAt 86 5 B b (.pointer (some ⟨b, 0, none⟩)) bs w' ∧ Below B w w') := by
  rcases h with h | h
  · refine (strings_Builder_WriteString.fresh b w h.cell0 h.shape h.frozen0).mono ?_; rintro e w' ⟨rfl, rfl⟩; exact ⟨rfl, h.used _, (Below.refl B w).setCell (p := ⟨b, 0, none⟩) h.1 _⟩
  · refine (strings_Builder_WriteString.used b w h.cell0).mono ?_; rintro e w' ⟨rfl, rfl⟩; exact ⟨rfl, h, Below.refl B _⟩
set_option maxHeartbeats 2000000 in
set_option maxRecDepth 100000 in
theorem strings_Builder_WriteString.write (B b : Nat) (bs : List Value) (s : ByteArray) (w : World) (h : Lib.IsBuilder 86 5 B b bs w) (hlen : bs.length + s.size ≤ 140737488355328) (hBw : B ≤ w.heap.size) :
    Calls Try.prog 61 #[.pointer (some ⟨b, 0, none⟩), .string s] w fun e w' => e = .returned (.tuple #[.int .i64 s.size, .nilIface]) ∧ (Lib.BuilderAt 86 5 B b (.pointer (some ⟨b, 0, none⟩)) (bs ++ Lib.strCells s) w' ∧ Below B w w') := by
  obtain ⟨i0, hi, hz0, hz1, hz2⟩ := info_parts Try.Builder_Extra_169.infoByte; have t72 := Try.underlying86; have u72 := run_underlying t72; have t70 := Try.underlying84; have u70 := run_underlying t70; have t37 := Try.underlying56; have u37 := run_underlying t37; have t9 := Try.underlying9; have u9 := run_underlying t9; have t5 := Try.underlying5; have u5 := run_underlying t5; go_enter Try.func61, Try.ntmps61; go_wp2_with (go_at_call 108; refine (strings_Builder_WriteString.check B b bs _ h).mono ?_); rintro e w1 ⟨rfl, h1, hb1⟩; obtain ⟨hB, v, hbk, hown, hne⟩ := h1; have c0 : w1.cell? ⟨b, 0, none⟩ = some (.pointer (some ⟨b, 0, none⟩)) := (by rw [Lib.cell_of_heap hbk]; rfl); have c1 : w1.cell? ⟨b, 1, none⟩ = some v := (by rw [Lib.cell_of_heap hbk]; rfl); go_wp2_with (at_builtin; refine Lib.wpList_append_own_string _ rfl _ _ 56 9 rfl B 5 i0 Try.underlying56 Try.underlying9 hi hz0 hz1 hz2 _ _ _ rfl hown s rfl ?c3 ?c4 ?c5 ?_)
  case c3 => unfold maxLen; omega
  case c4 => omega
  case c5 => have := hb1.size; omega
  intro v' w2 hown' hgrow _
  have hlt : b < w1.heap.size := by
    rcases Nat.lt_or_ge b w1.heap.size with h' | h'
    ·exact h'
    ·simp [Array.getElem?_eq_none h'] at hbk
  have hb2 : w2.heap[b]? = some (.cells #[.pointer (some ⟨b, 0, none⟩), v] 86 (0, 0)) := by
    rw [hgrow.block b hlt (fun e => hne e.symm)]; exact hbk
  have d0 : w2.cell? ⟨b, 0, none⟩ = some (.pointer (some ⟨b, 0, none⟩)) := (by rw [Lib.cell_of_heap hb2]; rfl); have d1 : w2.cell? ⟨b, 1, none⟩ = some v := (by rw [Lib.cell_of_heap hb2]; rfl); have f1 : w2.frozen? ⟨b, 1, none⟩ = false := Lib.frozen_of_heap hb2 1
  obtain ⟨ao, n', cap, rfl⟩ : ∃ ao n' cap, v' = .slice ao n' cap := by
    rcases hown'.2 with ⟨hv, _⟩ | ⟨g, cap, cur, hv, _⟩
    ·exact ⟨_, _, _, hv⟩
    ·exact ⟨_, _, _, hv⟩
  go_wp2; go_ret2; refine ⟨rfl, ?_, ?_⟩
  · exact Lib.BuilderAt.put (T := 86) (e := 5) hB hb2 (bs' := bs ++ Lib.strCells s) (by simpa [Lib.strCells_length] using hown') Try.Builder_Extra_169.neB5
  · exact (hb1.grown hgrow (by have := hb1.size; omega) (fun k hk => (hown.lt k hk).1)).setCell (p := ⟨b, 1, none⟩) hB _

/-! ### impl_joinLines: function 46 -/
def impl_joinLines.tot (l : List ByteArray) : Nat := (l.map fun s => s.size + 1).sum
def impl_joinLines.cat (l : List ByteArray) : List UInt8 := l.flatMap fun s => s.data.toList ++ [10]
theorem impl_joinLines.tot_take (l : List ByteArray) (i : Nat) (h : i < l.length) : impl_joinLines.tot (l.take (i + 1)) = impl_joinLines.tot (l.take i) + (l[i].size + 1) := by
  unfold impl_joinLines.tot; rw [List.take_succ_eq_append_getElem h]; simp only [List.map_append, List.sum_append, List.map_cons, List.map_nil, List.sum_cons, List.sum_nil, Nat.add_zero]
theorem impl_joinLines.tot_le (l : List ByteArray) (i : Nat) : impl_joinLines.tot (l.take i) ≤ impl_joinLines.tot l := by
  have h : impl_joinLines.tot l = impl_joinLines.tot (l.take i) + impl_joinLines.tot (l.drop i) := by
    unfold impl_joinLines.tot
    conv => lhs; rw [← List.take_append_drop i l]
    rw [List.map_append, List.sum_append]
  omega
theorem impl_joinLines.cat_take (l : List ByteArray) (i : Nat) (h : i < l.length) : impl_joinLines.cat (l.take (i + 1)) = impl_joinLines.cat (l.take i) ++ (l[i] ++ (⟨#[10]⟩ : ByteArray)).data.toList := by
  have e : (l[i] ++ (⟨#[10]⟩ : ByteArray)).data.toList = l[i].data.toList ++ [10] := (by simp); rw [e]; unfold impl_joinLines.cat; rw [List.take_succ_eq_append_getElem h]; simp only [List.flatMap_append, List.flatMap_cons, List.flatMap_nil, List.append_nil]
theorem impl_joinLines.cat_length (l : List ByteArray) : (impl_joinLines.cat l).length = impl_joinLines.tot l := by
  unfold impl_joinLines.cat impl_joinLines.tot
  induction l with
  | nil => rfl
  | cons s l ih =>
    simp only [List.flatMap_cons, List.length_append, List.map_cons, List.sum_cons, ih]; have e : (s.data.toList ++ [10]).length = s.size + 1 := (by simp only [List.length_append, Array.length_toList, List.length_cons, List.length_nil]; rfl); rw [List.length_append] at e; rw [e]
def impl_joinLines.f (l0 : List ByteArray) : Option ByteArray := if impl_joinLines.tot l0 ≤ 140737488355328 then some ⟨(impl_joinLines.cat l0).toArray⟩ else none
set_option maxHeartbeats 8000000 in
set_option maxRecDepth 100000 in
theorem impl_joinLines.calls (A0 : Option Addr) (c0 : Nat) (l0 : List ByteArray) (r : ByteArray) (w : World) (hr0 : Kd.C Kd.string w A0 l0.length l0) (hc0 : l0.length ≤ c0) (h : impl_joinLines.f l0 = some r) :
    Calls Try.prog 46 #[.slice A0 l0.length c0] w fun e w' => e = .returned (.string r) ∧ Below w.heap.size w w' := by
  unfold impl_joinLines.f at h; by_cases ht : impl_joinLines.tot l0 ≤ 140737488355328
  case neg => rw [if_neg ht] at h; exact absurd h (by simp)
  rw [if_pos ht] at h; obtain rfl := Option.some.inj h; have hu := Try.underlying86; have HR := Aside0.mk hr0; have HC := Aside0.mk hc0; have HT := Aside0.mk ht; clear hr0 hc0 ht h
  have hlen : l0.length ≤ 140737488355328 := by
    have e : l0.length ≤ impl_joinLines.tot l0 := by
     unfold impl_joinLines.tot; clear HR HC HT
     induction l0 with
     | nil => simp
     | cons s l ih => simp only [List.length_cons, List.map_cons, List.sum_cons]; omega
    have := HT.out; omega
  go_enter Try.func46, Try.ntmps46; go_wp2_with (first | ((with_reducible refine gate_dst (N := 3) rfl ?_); refine be_ 3 #[.pointer none, .slice none 0 0] 86 ?_; intro gb hg w5 hbox hb; have HB := Aside0.mk hb; have HI : Aside0 (Lib.IsBuilder 86 5 w.heap.size gb (Lib.byteCells (impl_joinLines.cat (l0.take 0))) w5) := ⟨.inl ⟨Nat.le_of_eq hg.symm, .slice none 0 0, hbox, World.ownsRow_nil _ _ _ _, by simp [Value.ownBlock]⟩⟩; clear hb hbox hg)); go_loopg [8] l0.length (fun kq v8 w' => ∃ i : Nat, i + kq = l0.length ∧ v8 = .int .i64 i ∧ Aside0 (Lib.IsBuilder 86 5 w.heap.size gb (Lib.byteCells (impl_joinLines.cat (l0.take i))) w') ∧ Aside0 (Below w.heap.size w w'))
  case atStart => exact ⟨0, by omega, by simp, HI, HB⟩
  case round =>
    clear HI HB; obtain ⟨i, hi, rfl, HI, HB⟩ := hrel
    cases gk with
    | zero =>
     have hlt : ¬ (i < l0.length) := (by omega); have e0 : l0.take i = l0 := List.take_of_length_le (by omega); have HI0 : Aside0 (Lib.IsBuilder 86 5 w.heap.size gb (Lib.byteCells (impl_joinLines.cat l0)) wr) := ⟨by have := HI.out; rw [e0] at this; exact this⟩; clear e0 HI; go_wp2_with (first | (go_at_call 68; refine (Try.Builder_String_any w.heap.size gb (impl_joinLines.cat l0) _ HI0.out HB.out.size).mono ?_; rintro e w6 ⟨rfl, hb⟩; have HB2 := Aside0.mk (Below.trans HB.out hb); clear hb)); go_ret; exact ⟨rfl, HB2.out⟩
    | succ k1 =>
     have hlt : i < l0.length := (by omega); have p1 : (0 : Int) ≤ (i : Int) := (by omega); have q1 : (i : Int) < (l0.length : Int) := (by omega); obtain ⟨ad, e1, hx⟩ := Kd.at_string HR.out (i : Int) p1 q1; subst e1
     have hx2 : wr.cell? (ad.add i) = some (.string l0[i]) := by
      have := bx_ HB hx; simpa [rdOf, List.getD, List.getElem?_eq_getElem hlt] using this
     have HN := Aside0.mk (impl_joinLines.cat_take l0 i hlt)
     have hs : (impl_joinLines.cat (l0.take i)).length + (l0[i].size + 1) ≤ 140737488355328 := by
      have h1 := impl_joinLines.tot_take l0 i hlt; have h2 := impl_joinLines.tot_le l0 (i + 1); have h3 := HT.out; rw [impl_joinLines.cat_length]; omega
     have HS := Aside0.mk hs; have hk1 : (9223372036854775807 < l0[i].size + 1) = False := eq_false (by omega); have hk2 : l0[i].size + 1 ≤ 9223372036854775807 := (by omega); clear hx hs p1 q1; go_wp2_with (first | (go_at_call 61; refine (strings_Builder_WriteString.write w.heap.size gb _ (l0[i] ++ (⟨#[10]⟩ : ByteArray)) _ HI.out (by have := HS.out; rw [Lib.byteCells_length, ByteArray.size_append]; exact this) HB.out.size).mono ?_; rintro e w6 ⟨rfl, hi6, hb⟩; have HI2 : Aside0 (Lib.IsBuilder 86 5 w.heap.size gb (Lib.byteCells (impl_joinLines.cat (l0.take (i + 1)))) w6) := ⟨.inr (by rw [HN.out, Lib.byteCells_append, ← Lib.strCells_eq]; exact hi6)⟩; have HB2 := Aside0.mk (Below.trans HB.out hb); clear hb hi6)); go_roundg k1
     case measure => omega
     case rel => exact ⟨i + 1, by omega, by go_num, HI2, HB2⟩

/-! ### impl_varText: function 62 -/
def impl_varText.l0 : Nat → Int → List Int → Option (ByteArray)
  | 0, _, _ => none
  | k + 1, x0, x3 => if x0 > 127 then (if x3.length < 140737488355328 then (impl_varText.l0 k (wrap64 (Int.tdiv x0 128)) (x3 ++ [(wrap64 (128 + (Int.tmod x0 128))) % 256])) else (none)) else (if x3.length < 140737488355328 then (some (strOfNums (x3 ++ [(x0) % 256]))) else (none))
def impl_varText.f (k : Nat) (a0 : Int) : Option (ByteArray) := impl_varText.l0 k a0 ([] : List Int)
theorem impl_varText.mono_l : ∀ k, (∀ y0 y1, LeO (impl_varText.l0 k y0 y1) (impl_varText.l0 (k + 1) y0 y1))
  | 0 => by intros; exact LeO.none _
  | k + 1 => by
    have ih0 := impl_varText.mono_l k; intros ; unfold impl_varText.l0 ; repeat' with_reducible first | exact LeO.refl _ | exact LeO.none _ | refine LeO.ite ?_ ?_ | refine LeO.bind ?_ (fun _ => ?_) | exact ih0 _ _
theorem impl_varText.mono : ∀ a0 k, LeO (impl_varText.f k a0) (impl_varText.f (k + 1) a0) := by
  intro a0 k; have ih0 := impl_varText.mono_l k; unfold impl_varText.f
  repeat' with_reducible first | exact LeO.refl _ | exact LeO.none _ | refine LeO.ite ?_ ?_ | refine LeO.bind ?_ (fun _ => ?_) | exact ih0 _ _
set_option maxHeartbeats 8000000 in
set_option maxRecDepth 100000 in
theorem impl_varText.calls (k : Nat) (a0 : Int) (r : ByteArray) (w : World) (h : impl_varText.f k a0 = some r) :
    Calls Try.prog 62 #[.int .i64 a0] w fun e w' => e = .returned (.string r) ∧ Below w.heap.size w w' := by
  have HB := Aside0.mk (Below.refl w.heap.size w); have H : (impl_varText.l0 k a0 ([] : List Int)) = some r := h; clear h; have H' := Aside0.mk H; clear H; go_enter Try.func62, Try.ntmps62; go_wp2; go_loopg [0, 3] k (fun kq v0 v3 w' => ∃ (x0_1 : Int) (x3_1 : List Int), v0 = .int .i64 x0_1 ∧ Aside0 (impl_varText.l0 kq x0_1 x3_1 = some r) ∧ Aside0 (kq ≤ k) ∧ Aside0 (Kd.R (Kd.int .u8) 5 w' w.heap.size (fun _ => True) v3 x3_1) ∧ Aside0 (Below w.heap.size w w'))
  case atStart => exact ⟨(a0), (([] : List Int)), q5_, H', ⟨Nat.le_refl _⟩, ⟨by first | exact Kd.R_nil _ _ _ _ _ | exact Kd.N_nil _ _ _ _ _ | exact Kd.V_nil _ _ _ _ _ | exact Kd.Q_nil _ _ _ _ _ | exact Kd.S_nil _ _ _ _ _⟩, ⟨zb_⟩⟩
  case round =>
    clear H'; obtain ⟨x0_1, x3_1, rfl, HA, HK1, HO_3, HB⟩ := hrel
    cases gk with
    | zero => exact absurd HA.out (by simp [impl_varText.l0])
    | succ k1 =>
     have H := HA.out; clear HA; simp only [impl_varText.l0] at H; by_cases c2 : x0_1 > 127
     ·rw [if_pos c2] at H; have c2b0 : decide (127 < x0_1) = true := decide_eq_true c2; clear c2; obtain ⟨c3, H⟩ := ifs_ H; have LMc3 := Aside0.mk c3; clear c3; obtain ⟨y440, hy_⟩ : ∃ y_ : List Int, y_ = (x3_1 ++ [(wrap64 (128 + (Int.tmod x0_1 128))) % 256]) := ⟨_, rfl⟩; replace H : (impl_varText.l0 k1 (wrap64 (Int.tdiv x0_1 128)) y440) = some r := yh_; have Ny440 := Aside0.mk hy_; clear hy_; have H' := Aside0.mk H; clear H; go_wp2_with (first | ((with_reducible refine gate_builtin (b := .append) (xs := #[.tmp 6, .tmp 11]) rfl ?_); at_builtin; refine Kd.R_append (Kd.int .u8) (w0 := w) w.heap.size rfl (.tmp 6) (.tmp 11) 56 5 (.int .u8 0) 1 rfl Try.underlying56 info5 rfl (by decide) (by omega) u3 x3_1 ((wrap64 (128 + (Int.tmod x0_1 128))) % 256) [.int .u8 ((wrap64 (128 + (Int.tmod x0_1 128))) % 256)] (fun _ => True) (fun _ => False) rfl rfl ?aP (fun _ hk => hk.elim) ?aF ?aO ?aB ?aS ?aL ?_; (case aP => exact rfl); (case aB => exact q0_); (case aF => exact (fun _ _ => trivial)); (case aO => exact q16_); (case aS => exact (below_size q0_)); (case aL => have := LMc3.out; omega); intro v441 w4 ho hb hg hat; rw [← Ny440.out] at ho; refine ai2_ (hb) (ho) ?_; clear HB HO_3; intro HB HO442; clear ho hb hg hat)); go_roundg k1
      case measure => have := HK1.out; omega
      case rel => exact ⟨(wrap64 (Int.tdiv x0_1 128)), (y440), q5_, H', ⟨by have := HK1.out; omega⟩, z_ HO442, ⟨zb_⟩⟩
     ·rw [if_neg c2] at H; have c2b0 : decide (127 < x0_1) = false := decide_eq_false c2; clear c2; obtain ⟨c5, H⟩ := ifs_ H; have LMc5 := Aside0.mk c5; clear c5; obtain ⟨y443, hy_⟩ : ∃ y_ : List Int, y_ = (x3_1 ++ [(x0_1) % 256]) := ⟨_, rfl⟩; replace H : (some (strOfNums y443)) = some r := yh_; have Ny443 := Aside0.mk hy_; clear hy_; obtain rfl := Option.some.inj H; go_wp2_with (first | ((with_reducible refine gate_builtin (b := .append) (xs := #[.tmp 15, .tmp 18]) rfl ?_); at_builtin; refine Kd.R_append (Kd.int .u8) (w0 := w) w.heap.size rfl (.tmp 15) (.tmp 18) 56 5 (.int .u8 0) 1 rfl Try.underlying56 info5 rfl (by decide) (by omega) u3 x3_1 ((x0_1) % 256) [.int .u8 ((x0_1) % 256)] (fun _ => True) (fun _ => False) rfl rfl ?aP (fun _ hk => hk.elim) ?aF ?aO ?aB ?aS ?aL ?_; (case aP => exact rfl); (case aB => exact q0_); (case aF => exact (fun _ _ => trivial)); (case aO => exact q16_); (case aS => exact (below_size q0_)); (case aL => have := LMc5.out; omega); intro v444 w6 ho hb hg hat; rw [← Ny443.out] at ho; refine ai2_ (hb) (ho) ?_; clear HB HO_3; intro HB HO445; clear ho hb hg hat; have hcv7 := own_string (P := Try.prog) Try.underlying56 Try.underlying5 Try.underlying9 (Kd.own_of_R HO445.out))); go_ret; exact ⟨er_, zb_⟩
/-! ### impl_listText: function 63 -/
def impl_listText.f (k : Nat) (l0 : List Int) : Option ByteArray :=
  (impl_varText.f k (l0.length : Int)).bind fun h => (seqO (fun i => impl_varText.f k (rd l0 (i : Int))) l0.length).bind fun t => if h.size + t.size ≤ 140737488355328 ∧ l0.length ≤ 140737488355328 then some (h ++ t) else none
theorem impl_listText.mono : ∀ a0 k, LeO (impl_listText.f k a0) (impl_listText.f (k + 1) a0) := by
  intro a0 k; unfold impl_listText.f; exact LeO.bind (impl_varText.mono _ _) fun _ => LeO.bind (seqO_mono (fun _ => impl_varText.mono _ _) _) fun _ => LeO.refl _
set_option maxHeartbeats 8000000 in
set_option maxRecDepth 100000 in
theorem impl_listText.calls (k : Nat) (A0 : Option Addr) (c0 : Nat) (l0 : List Int) (r : ByteArray) (w : World) (hr0 : Kd.C (Kd.int .i64) w A0 l0.length l0) (hc0 : l0.length ≤ c0) (h : impl_listText.f k l0 = some r) :
    Calls Try.prog 63 #[.slice A0 l0.length c0] w fun e w' => e = .returned (.string r) ∧ Below w.heap.size w w' := by
  unfold impl_listText.f at h; obtain ⟨hd, hh, h⟩ := Option.bind_eq_some_iff.mp h; obtain ⟨t, ht, h⟩ := Option.bind_eq_some_iff.mp h; by_cases hz : hd.size + t.size ≤ 140737488355328 ∧ l0.length ≤ 140737488355328
  case neg => rw [if_neg hz] at h; exact absurd h (by simp)
  rw [if_pos hz] at h; obtain rfl := Option.some.inj h; obtain ⟨hz1, hlen⟩ := hz; have hu := Try.underlying86; have HR := Aside0.mk hr0; have HC := Aside0.mk hc0; have HH := Aside0.mk hh; have HT := Aside0.mk ht; have HZ := Aside0.mk hz1; clear hr0 hc0 hh ht hz1 h; go_enter Try.func63, Try.ntmps63; go_wp2_with (first | ((with_reducible refine gate_dst (N := 3) rfl ?_); refine be_ 3 #[.pointer none, .slice none 0 0] 86 ?_; intro gb hg w5 hbox hb; have HB := Aside0.mk hb; have HI : Aside0 (Lib.IsBuilder 86 5 w.heap.size gb (Lib.byteCells []) w5) := ⟨.inl ⟨Nat.le_of_eq hg.symm, .slice none 0 0, hbox, World.ownsRow_nil _ _ _ _, by simp [Value.ownBlock]⟩⟩; clear hb hbox hg) | (go_at_call 62; (try simp only [i64_w]); (with_reducible refine (impl_varText.calls k _ hd _ HH.out).mono ?_); rintro e w6 ⟨rfl, hb⟩; have HI1 := Aside0.mk (builder_below HI.out hb); have HB1 := Aside0.mk (below_step HB.out hb); clear hb) | (go_at_call 61; refine (strings_Builder_WriteString.write w.heap.size gb _ hd _ HI1.out (by have := HZ.out; simp [Lib.byteCells]; omega) HB1.out.size).mono ?_; rintro e w7 ⟨rfl, hi6, hb⟩; have HI2 : Aside0 (Lib.IsBuilder 86 5 w.heap.size gb (Lib.byteCells hd.data.toList) w7) := ⟨.inr (by rw [← Lib.strCells_eq]; exact hi6)⟩; have HB2 := Aside0.mk (Below.trans HB1.out hb); clear hb hi6)); go_loopg [12] l0.length (fun kq v12 w' => ∃ (i : Nat) (a : ByteArray), i + kq = l0.length ∧ v12 = .int .i64 i ∧ Aside0 (seqO (fun i => impl_varText.f k (rd l0 (i : Int))) i = some a) ∧ Aside0 (Lib.IsBuilder 86 5 w.heap.size gb (Lib.byteCells (hd ++ a).data.toList) w') ∧ Aside0 (Below w.heap.size w w'))
  case atStart => exact ⟨0, ⟨#[]⟩, by omega, by simp, ⟨rfl⟩, ⟨by have := HI2.out; simpa using this⟩, HB2⟩
  case round =>
    clear HI2 HB2 HI1 HB1 HI HB; obtain ⟨i, a, hi, rfl, HS, HI, HB⟩ := hrel
    cases gk with
    | zero =>
     have hlt : ¬ (i < l0.length) := by omega
     have e0 : a = t := by
      have h1 := HS.out; rw [show i = l0.length by omega, HT.out] at h1; exact (Option.some.inj h1).symm
     have HI0 : Aside0 (Lib.IsBuilder 86 5 w.heap.size gb (Lib.byteCells (hd ++ t).data.toList) wr) := ⟨by have := HI.out; rw [e0] at this; exact this⟩; clear e0 HI HS; go_wp2_with (first | (go_at_call 68; refine (Try.Builder_String_any w.heap.size gb (hd ++ t).data.toList _ HI0.out HB.out.size).mono ?_; rintro e w6 ⟨rfl, hb⟩; rw [mk_data]; have HB2 := Aside0.mk (Below.trans HB.out hb); clear hb)); go_ret; exact ⟨rfl, HB2.out⟩
    | succ k1 =>
     have hlt : i < l0.length := (by omega); have p1 : (0 : Int) ≤ (i : Int) := (by omega); have q1 : (i : Int) < (l0.length : Int) := (by omega); obtain ⟨ad, e1, hx⟩ := Kd.at_int HR.out (i : Int) p1 q1; subst e1
     have hx2 : wr.cell? (ad.add i) = some (.int .i64 (rd l0 (i : Int))) := by
      have := bx_ HB hx; simpa using this
     obtain ⟨a2, b, h1, h2, h3, h4⟩ := seqO_step _ _ _ HT.out i hlt; obtain rfl : a = a2 := Option.some.inj (HS.out.symm.trans h1); have H2 := Aside0.mk h2; have HN : Aside0 (seqO (fun i => impl_varText.f k (rd l0 (i : Int))) (i + 1) = some (a ++ b)) := ⟨h3⟩
     have hs : (hd ++ a).data.toList.length + b.size ≤ 140737488355328 := by
      have := HZ.out; rw [Array.length_toList]
      show (hd ++ a).size + b.size ≤ _
      rw [ByteArray.size_append]; omega
     have HSZ := Aside0.mk hs; clear hx hs p1 q1 h1 h2 h3 h4 HS; go_wp2_with (first | (go_at_call 62; (try simp only [i64_w]); (with_reducible refine (impl_varText.calls k _ b _ H2.out).mono ?_); rintro e w6 ⟨rfl, hb⟩; have HI1 := Aside0.mk (builder_below HI.out hb); have HB1 := Aside0.mk (below_step HB.out hb); clear hb) | (go_at_call 61; refine (strings_Builder_WriteString.write w.heap.size gb _ b _ HI1.out (by have := HSZ.out; rw [Lib.byteCells_length]; exact this) HB1.out.size).mono ?_; rintro e w7 ⟨rfl, hi6, hb⟩; have HI2 : Aside0 (Lib.IsBuilder 86 5 w.heap.size gb (Lib.byteCells (hd ++ (a ++ b)).data.toList) w7) := ⟨.inr (by rw [← ByteArray.append_assoc, ByteArray.toList_data_append, Lib.byteCells_append, ← Lib.strCells_eq]; exact hi6)⟩; have HB2 := Aside0.mk (Below.trans HB1.out hb); clear hb hi6)); go_roundg k1
     case measure => omega
     case rel => exact ⟨i + 1, a ++ b, by omega, by go_num, HN, HI2, HB2⟩

/-! ### impl_SumMore: function 96 -/
mutual
def impl_SumMore.l0 : Nat → Int → ByteArray → Int → Option (Int)
  | 0, _, _, _ => none
  | k + 1, x0, x1, x5 => if x5 < (x1.size : Int) then (if 0 ≤ x5 then (impl_SumMore.l1 k (Go.bits .xor .u32 x0 ((bt x1 x5) % 4294967296)) x1 x5 0) else (none)) else (some x0)
def impl_SumMore.l1 : Nat → Int → ByteArray → Int → Int → Option (Int)
  | 0, _, _, _, _ => none
  | k + 1, x0, x1, x5, x19 => if x19 < 8 then (if (Go.bits .and .u32 x0 1) = 1 then (impl_SumMore.l1 k (Go.bits .xor .u32 (x0 / 2) 3558460437) x1 x5 (wrap64 (x19 + 1))) else (impl_SumMore.l1 k (x0 / 2) x1 x5 (wrap64 (x19 + 1)))) else (impl_SumMore.l0 k x0 x1 (wrap64 (x5 + 1)))
end
def impl_SumMore.f (k : Nat) (a0 : Int) (a1 : ByteArray) : Option (Int) := impl_SumMore.l0 k a0 a1 0
theorem impl_SumMore.mono_l : ∀ k, (∀ y0 y1 y2, LeO (impl_SumMore.l0 k y0 y1 y2) (impl_SumMore.l0 (k + 1) y0 y1 y2)) ∧ (∀ y0 y1 y2 y3, LeO (impl_SumMore.l1 k y0 y1 y2 y3) (impl_SumMore.l1 (k + 1) y0 y1 y2 y3))
  | 0 => by refine ⟨?_, ?_⟩ <;> intros <;> exact LeO.none _
  | k + 1 => by
    obtain ⟨ih0, ih1⟩ := impl_SumMore.mono_l k; refine ⟨?_, ?_⟩ <;> intros <;> (first | unfold impl_SumMore.l0 | unfold impl_SumMore.l1) <;> repeat' with_reducible first | exact LeO.refl _ | exact LeO.none _ | refine LeO.ite ?_ ?_ | refine LeO.bind ?_ (fun _ => ?_) | exact ih0 _ _ _ | exact ih1 _ _ _ _
theorem impl_SumMore.mono : ∀ a0 a1 k, LeO (impl_SumMore.f k a0 a1) (impl_SumMore.f (k + 1) a0 a1) := by
  intro a0 a1 k; obtain ⟨ih0, ih1⟩ := impl_SumMore.mono_l k; unfold impl_SumMore.f
  repeat' with_reducible first | exact LeO.refl _ | exact LeO.none _ | refine LeO.ite ?_ ?_ | refine LeO.bind ?_ (fun _ => ?_) | exact ih0 _ _ _ | exact ih1 _ _ _ _
set_option maxHeartbeats 8000000 in
set_option maxRecDepth 100000 in
theorem impl_SumMore.calls (k : Nat) (a0 : Int) (a1 : ByteArray) (r : Int) (w : World) (h : impl_SumMore.f k a0 a1 = some r) :
    Calls Try.prog 96 #[.int .u32 a0, .string a1] w fun e w' => e = .returned (.int .u32 r) ∧ Drawn0 w w' := by
  have H : (impl_SumMore.l0 k a0 a1 0) = some r := h; clear h; have H' := Aside0.mk H; clear H; go_enter Try.func96, Try.ntmps96; go_wp2; go_loopg [0, 5] k (fun kq v0 v5 w' => ∃ (x0_1 : Int) (x5_1 : Int), v0 = .int .u32 x0_1 ∧ v5 = .int .i64 x5_1 ∧ Aside0 (impl_SumMore.l0 kq x0_1 a1 x5_1 = some r) ∧ Aside0 (kq ≤ k) ∧ Drawn0 w w')
  case atStart => exact ⟨(a0), (0), q5_, q5_, H', ⟨Nat.le_refl _⟩, by repeat (first | exact Drawn0.refl _ | apply Drawn0.step)⟩
  case round =>
    clear H'; (try clear p2); obtain ⟨x0_1, x5_1, rfl, rfl, HA, HK1, ⟨m1, rfl⟩⟩ := hrel
    cases gk with
    | zero => exact absurd HA.out (by simp [impl_SumMore.l0])
    | succ k1 =>
     have H := HA.out; clear HA; simp only [impl_SumMore.l0] at H; by_cases c3 : x5_1 < (a1.size : Int)
     ·rw [if_pos c3] at H; have c3b0 : decide (x5_1 < (a1.size : Int)) = true := decide_eq_true c3; clear c3; obtain ⟨c4b0, H⟩ := ifd_ H; have H' := Aside0.mk H; clear H; have p5 : 0 ≤ (x5_1 : Int) := of_decide_eq_true q2_; have q5 : x5_1 < (a1.size : Int) := of_decide_eq_true q2_; have hx5 := bt_at a1 x5_1; replace p5 := eq_true p5; replace q5 := eq_true q5; go_wp2; go_loopg [0, 19] k1 (fun kq v0 v19 w' => ∃ (x0_2 : Int) (x19_2 : Int), v0 = .int .u32 x0_2 ∧ v19 = .int .i64 x19_2 ∧ Aside0 (impl_SumMore.l1 kq x0_2 a1 x5_1 x19_2 = some r) ∧ Aside0 (kq ≤ k1) ∧ Drawn0 w w')
      case atStart => exact ⟨(Go.bits .xor .u32 x0_1 ((bt a1 x5_1) % 4294967296)), (0), q5_, q5_, H', ⟨Nat.le_refl _⟩, by repeat (first | exact Drawn0.refl _ | apply Drawn0.step)⟩
      case round =>
       clear H'; (try clear p2); (try clear c3); (try clear c3b0); (try clear c4); (try clear c4b0); (try clear p5); (try clear q5); (try clear hx5); (try clear p2); (try clear p5); (try clear q5); obtain ⟨x0_2, x19_2, rfl, rfl, HA, HK2, ⟨m2, rfl⟩⟩ := hrel
       cases gk with
       | zero => exact absurd HA.out (by simp [impl_SumMore.l1])
       | succ k2 =>
        have H := HA.out; clear HA; simp only [impl_SumMore.l1] at H; by_cases c6 : x19_2 < 8
        ·rw [if_pos c6] at H; have c6b0 : decide (x19_2 < 8) = true := decide_eq_true c6; clear c6; by_cases c7 : (Go.bits .and .u32 x0_2 1) = 1
         ·rw [if_pos c7] at H; have c7b0 : ((Go.bits .and .u32 x0_2 1) == 1) = true := beq_iff_eq.mpr c7; have c7b1 : ((Go.bits .and .u32 x0_2 1) != 1) = false := bne_eq_false_iff_eq.mpr c7; clear c7; have H' := Aside0.mk H; clear H; go_wp2; go_roundg k2
          case measure => have := HK1.out; have := HK2.out; omega
          case rel => exact ⟨(Go.bits .xor .u32 (x0_2 / 2) 3558460437), (wrap64 (x19_2 + 1)), q5_, q5_, H', ⟨by have := HK1.out; have := HK2.out; omega⟩, by repeat (first | exact Drawn0.refl _ | apply Drawn0.step)⟩
         ·rw [if_neg c7] at H; have c7b0 : ((Go.bits .and .u32 x0_2 1) == 1) = false := beq_eq_false_iff_ne.mpr c7; have c7b1 : ((Go.bits .and .u32 x0_2 1) != 1) = true := bne_iff_ne.mpr c7; have H' := Aside0.mk H; clear H; go_wp2; go_roundg k2
          case measure => have := HK1.out; have := HK2.out; omega
          case rel => exact ⟨(x0_2 / 2), (wrap64 (x19_2 + 1)), q5_, q5_, H', ⟨by have := HK1.out; have := HK2.out; omega⟩, by repeat (first | exact Drawn0.refl _ | apply Drawn0.step)⟩
        ·rw [if_neg c6] at H; have c6b0 : decide (x19_2 < 8) = false := decide_eq_false c6; clear c6; have H' := Aside0.mk H; clear H; go_wp2; go_roundg k2
         case measure => have := HK1.out; have := HK2.out; omega
         case rel => exact ⟨(x0_2), (wrap64 (x5_1 + 1)), q5_, q5_, H', ⟨by have := HK1.out; have := HK2.out; omega⟩, by repeat (first | exact Drawn0.refl _ | apply Drawn0.step)⟩
     ·rw [if_neg c3] at H; have c3b0 : decide (x5_1 < (a1.size : Int)) = false := decide_eq_false c3; clear c3; obtain rfl := Option.some.inj H; go_wp2; go_ret; exact ⟨by first | rfl | (simp; done) | (simp [*]; done), by repeat (first | exact Drawn0.refl _ | apply Drawn0.step)⟩

/-! ### impl_SumOf: function 45 -/
def impl_SumOf.f (k : Nat) (a0 : ByteArray) : Option (Int) := (impl_SumMore.f k 4294967295 a0).bind fun t446 => (some t446)
theorem impl_SumOf.mono : ∀ a0 k, LeO (impl_SumOf.f k a0) (impl_SumOf.f (k + 1) a0) := by
  intro a0 k; unfold impl_SumOf.f
  repeat' with_reducible first | exact LeO.refl _ | exact LeO.none _ | refine LeO.ite ?_ ?_ | refine LeO.bind ?_ (fun _ => ?_) | exact impl_SumMore.mono _ _ _
set_option maxHeartbeats 8000000 in
set_option maxRecDepth 100000 in
theorem impl_SumOf.calls (k : Nat) (a0 : ByteArray) (r : Int) (w : World) (h : impl_SumOf.f k a0 = some r) :
    Calls Try.prog 45 #[.string a0] w fun e w' => e = .returned (.int .u32 r) ∧ Drawn0 w w' := by
  have H : ((impl_SumMore.f k 4294967295 a0).bind fun t446 => (some t446)) = some r := h; clear h; replace H := Option.bind_eq_some_iff.mp H; obtain ⟨t446, A20, H⟩ := H; (try dsimp only at H); have A2 := Aside0.mk A20; clear A20; obtain rfl := Option.some.inj H; go_enter Try.func45, Try.ntmps45; go_wp2_with (first | ((with_reducible refine gate_callee (f := 96) rfl ?_); refine gl_ 4 Try.func96 #[.int .u32 4294967295, .string a0] ?_; (with_reducible refine (impl_SumMore.calls k 4294967295 a0 t446 _ A2.out).mono ?_); rintro e w' ⟨rfl, ⟨nd, rfl⟩⟩; refine ⟨_, rfl, ?_⟩)); go_ret; exact ⟨by first | rfl | (simp; done) | (simp [*]; done), by repeat (first | exact Drawn0.refl _ | apply Drawn0.step)⟩

/-! ### impl_sumText: function 64 -/
def impl_sumText.f (k : Nat) (a0 : ByteArray) : Option (ByteArray) := (impl_SumOf.f k a0).bind fun t447 => (some (strOfNums (([(t447 / 16777216) % 256, (t447 / 65536) % 256, (t447 / 256) % 256, (t447) % 256] : List Int))))
theorem impl_sumText.mono : ∀ a0 k, LeO (impl_sumText.f k a0) (impl_sumText.f (k + 1) a0) := by
  intro a0 k; unfold impl_sumText.f
  repeat' with_reducible first | exact LeO.refl _ | exact LeO.none _ | refine LeO.ite ?_ ?_ | refine LeO.bind ?_ (fun _ => ?_) | exact impl_SumOf.mono _ _
set_option maxHeartbeats 8000000 in
set_option maxRecDepth 100000 in
theorem impl_sumText.calls (k : Nat) (a0 : ByteArray) (r : ByteArray) (w : World) (h : impl_sumText.f k a0 = some r) :
    Calls Try.prog 64 #[.string a0] w fun e w' => e = .returned (.string r) ∧ Below w.heap.size w w' := by
  have HB := Aside0.mk (Below.refl w.heap.size w); have H : ((impl_SumOf.f k a0).bind fun t447 => (some (strOfNums (([(t447 / 16777216) % 256, (t447 / 65536) % 256, (t447 / 256) % 256, (t447) % 256] : List Int))))) = some r := h; clear h; replace H := Option.bind_eq_some_iff.mp H; obtain ⟨t447, A20, H⟩ := H; (try dsimp only at H); have A2 := Aside0.mk A20; clear A20; obtain ⟨y448, hy_⟩ : ∃ y_ : List Int, y_ = (([(t447 / 16777216) % 256, (t447 / 65536) % 256, (t447 / 256) % 256, (t447) % 256] : List Int)) := ⟨_, rfl⟩; replace H : (some (strOfNums y448)) = some r := yh_; have Ny448 := Aside0.mk hy_; clear hy_; obtain rfl := Option.some.inj H; go_enter Try.func64, Try.ntmps64; go_wp2_with (first | ((with_reducible refine gate_callee (f := 45) rfl ?_); refine gl_ 5 Try.func45 #[.string a0] ?_; (with_reducible refine (impl_SumOf.calls k a0 t447 _ A2.out).mono ?_); rintro e w' ⟨rfl, ⟨nd, rfl⟩⟩; refine ⟨_, rfl, ?_⟩) | ((with_reducible refine gate_dst (N := 17) rfl ?_); refine Kd.R_lit (Kd.int .u8) _ 5 ?hg (N := 17) ?hd (xs := ([(t447 / 16777216) % 256, (t447 / 65536) % 256, (t447 / 256) % 256, (t447) % 256] : List Int)) (inner := [.int .u8 ((t447 / 16777216) % 256), .int .u8 ((t447 / 65536) % 256), .int .u8 ((t447 / 256) % 256), .int .u8 ((t447) % 256)]) (ok := fun _ => True) (okp := fun _ => True) ?hr ?hp (fun _ hk => hk) trivial (Below.refl _ _) (Nat.le_refl _) (by simp) ?_; (case hd => rfl); (case hg => rfl); (case hr => first | (go_simp; done) | (go_simp; rfl)); (case hp => exact (Reps.one (show Kd.M (Kd.int .u8) _ _ _ ((t447 / 16777216) % 256) [.int .u8 ((t447 / 16777216) % 256)] from rfl) (Reps.one (show Kd.M (Kd.int .u8) _ _ _ ((t447 / 65536) % 256) [.int .u8 ((t447 / 65536) % 256)] from rfl) (Reps.one (show Kd.M (Kd.int .u8) _ _ _ ((t447 / 256) % 256) [.int .u8 ((t447 / 256) % 256)] from rfl) (Reps.one (show Kd.M (Kd.int .u8) _ _ _ ((t447) % 256) [.int .u8 ((t447) % 256)] from rfl) (Reps.none _ _)))))); intro v449 w3 ho4 hb hg_ hnew_; clear hg_ hnew_; (first | rw [← Ny448.out] at ho4 | (simp only [Int.reduceToNat] at ho4; rw [← Ny448.out] at ho4)); refine ai2_ (Kd.R_lower ho4 (below_size q0_)) (below_step q0_ hb) ?_; clear HB; intro HO450 HB; clear hb ho4; have hcv5 := own_string (P := Try.prog) Try.underlying56 Try.underlying5 Try.underlying9 (Kd.own_of_R HO450.out))); go_ret; exact ⟨er_, zb_⟩

/-! ### impl_Weave_linesAt: function 81 -/
def impl_Weave_linesAt.l0 : Nat → List ByteArray → List Int → Int → Int → List (List Int) → List (S123) → Option (List ByteArray)
  | 0, _, _, _, _, _, _ => none
  | k + 1, x5, x8, x9, x10, x1000, x1001 => if x10 < x9 then (if 0 ≤ x10 then (if x10 < (x8.length : Int) then (if 0 ≤ (rd x8 x10) then (if (rd x8 x10) < (x1001.length : Int) then (if x5.length < 8796093022208 then (impl_Weave_linesAt.l0 k (x5 ++ [(rd_T123 x1001 (rd x8 x10)).f0]) x8 x9 (wrap64 (x10 + 1)) x1000 x1001) else (none)) else (none)) else (none)) else (none)) else (none)) else (some x5)
def impl_Weave_linesAt.f (k : Nat) (l0_0 : List (List Int)) (l0_1 : List (S123)) (l1 : List Int) : Option (List ByteArray) := impl_Weave_linesAt.l0 k ([] : List ByteArray) l1 (l1.length : Int) 0 l0_0 l0_1
theorem impl_Weave_linesAt.mono_l : ∀ k, (∀ y0 y1 y2 y3 y4 y5, LeO (impl_Weave_linesAt.l0 k y0 y1 y2 y3 y4 y5) (impl_Weave_linesAt.l0 (k + 1) y0 y1 y2 y3 y4 y5))
  | 0 => by intros; exact LeO.none _
  | k + 1 => by
    have ih0 := impl_Weave_linesAt.mono_l k; intros ; unfold impl_Weave_linesAt.l0 ; repeat' with_reducible first | exact LeO.refl _ | exact LeO.none _ | refine LeO.ite ?_ ?_ | refine LeO.bind ?_ (fun _ => ?_) | exact ih0 _ _ _ _ _ _
theorem impl_Weave_linesAt.mono : ∀ a0 a1 a2 k, LeO (impl_Weave_linesAt.f k a0 a1 a2) (impl_Weave_linesAt.f (k + 1) a0 a1 a2) := by
  intro a0 a1 a2 k; have ih0 := impl_Weave_linesAt.mono_l k; unfold impl_Weave_linesAt.f
  repeat' with_reducible first | exact LeO.refl _ | exact LeO.none _ | refine LeO.ite ?_ ?_ | refine LeO.bind ?_ (fun _ => ?_) | exact ih0 _ _ _ _ _ _
set_option maxHeartbeats 8000000 in
set_option maxRecDepth 100000 in
theorem impl_Weave_linesAt.calls (k : Nat) (g0 : Nat) (A0_0 : Option Addr) (c0_0 : Nat) (l0_0 : List (List Int)) (A0_1 : Option Addr) (c0_1 : Nat) (l0_1 : List (S123)) (A1 : Option Addr) (c1 : Nat) (l1 : List Int) (r : List ByteArray) (w : World) (hbk0 : w.heap[g0]? = some (.cells #[.slice A0_0 l0_0.length c0_0, .slice A0_1 l0_1.length c0_1] 32 (0, 0))) (hr0_0 : Kd.C (Kd.slice 3 (Kd.int .i64)) w A0_0 l0_0.length l0_0) (hc0_0 : l0_0.length ≤ c0_0) (hr0_1 : Kd.C k123 w A0_1 l0_1.length l0_1) (hc0_1 : l0_1.length ≤ c0_1) (hr1 : Kd.C (Kd.int .i64) w A1 l1.length l1) (hc1 : l1.length ≤ c1) (h : impl_Weave_linesAt.f k l0_0 l0_1 l1 = some r) :
    Calls Try.prog 81 #[.pointer (some ⟨g0, 0, none⟩), .slice A1 l1.length c1] w fun e w' => ∃ v0_ : Value, e = .returned (v0_) ∧ Kd.R Kd.string 9 w' w.heap.size (fun _ => True) v0_ r ∧ Below w.heap.size w w' := by
  have HR0_0 := Aside0.mk hr0_0; have HC0_0 := Aside0.mk hc0_0; clear hr0_0 hc0_0; have HR0_1 := Aside0.mk hr0_1; have HC0_1 := Aside0.mk hc0_1; clear hr0_1 hc0_1; have HR1 := Aside0.mk hr1; have HC1 := Aside0.mk hc1; clear hr1 hc1; have BK0 := Aside0.mk hbk0; clear hbk0; have HB := Aside0.mk (Below.refl w.heap.size w); have H : (impl_Weave_linesAt.l0 k ([] : List ByteArray) l1 (l1.length : Int) 0 l0_0 l0_1) = some r := h; clear h; have H' := Aside0.mk H; clear H; go_enter Try.func81, Try.ntmps81; go_wp2; go_loopg [5, 10] k (fun kq v5 v10 w' => ∃ (x5_1 : List ByteArray) (x10_1 : Int), v10 = .int .i64 x10_1 ∧ Aside0 (impl_Weave_linesAt.l0 kq x5_1 l1 (l1.length : Int) x10_1 l0_0 l0_1 = some r) ∧ Aside0 (kq ≤ k) ∧ Aside0 (Kd.R Kd.string 9 w' w.heap.size (fun _ => True) v5 x5_1) ∧ Aside0 (w'.heap[g0]? = some (.cells #[(.slice A0_0 l0_0.length c0_0), (.slice A0_1 l0_1.length c0_1)] 32 (0, 0))) ∧ Aside0 (Below w.heap.size w w'))
  case atStart => exact ⟨(([] : List ByteArray)), (0), q5_, H', ⟨Nat.le_refl _⟩, ⟨by first | exact Kd.R_nil _ _ _ _ _ | exact Kd.N_nil _ _ _ _ _ | exact Kd.V_nil _ _ _ _ _ | exact Kd.Q_nil _ _ _ _ _ | exact Kd.S_nil _ _ _ _ _⟩, z_ BK0, ⟨zb_⟩⟩
  case round =>
    clear H'; (try clear c1); (try clear p2); obtain ⟨x5_1, x10_1, rfl, HA, HK1, HO_5, BK0, HB⟩ := hrel
    cases gk with
    | zero => exact absurd HA.out (by simp [impl_Weave_linesAt.l0])
    | succ k1 =>
     have H := HA.out; clear HA; simp only [impl_Weave_linesAt.l0] at H; by_cases c3 : x10_1 < (l1.length : Int)
     ·rw [if_pos c3] at H; have c3b0 : decide (x10_1 < (l1.length : Int)) = true := decide_eq_true c3; clear c3; obtain ⟨c4b0, H⟩ := ifd_ H; obtain ⟨c5b0, H⟩ := ifd_ H; obtain ⟨c6b0, H⟩ := ifd_ H; obtain ⟨c7b0, H⟩ := ifd_ H; obtain ⟨c8, H⟩ := ifs_ H; have LMc8 := Aside0.mk c8; clear c8; obtain ⟨y453, hy_⟩ : ∃ y_ : List ByteArray, y_ = (x5_1 ++ [(rd_T123 l0_1 (rd l1 x10_1)).f0]) := ⟨_, rfl⟩; replace H : (impl_Weave_linesAt.l0 k1 y453 l1 (l1.length : Int) (wrap64 (x10_1 + 1)) l0_0 l0_1) = some r := yh_; have Ny453 := Aside0.mk hy_; clear hy_; have H' := Aside0.mk H; clear H; have p451 : 0 ≤ (x10_1 : Int) := of_decide_eq_true q2_; have q451 : x10_1 < (l1.length : Int) := of_decide_eq_true q2_; obtain ⟨ad451, e451, hx451_0⟩ := Kd.at_int HR1.out x10_1 p451 q451; cases e451; replace hx451_0 := bx_ HB hx451_0; replace p451 := eq_true p451; replace q451 := eq_true q451; obtain ⟨hcz9_0, hcz9_1, hfz9_0, hfz9_1⟩ := bk2_ BK0.out; have p452 : 0 ≤ ((rd l1 x10_1) : Int) := of_decide_eq_true q2_; have q452 : (rd l1 x10_1) < (l0_1.length : Int) := of_decide_eq_true q2_; obtain ⟨ad452, A452_3, c452_3, e452, hx452_0, hx452_1, hx452_2, hx452_3, hl452_3, hi452_3⟩ := at_T123 HR0_1.out (rd l1 x10_1) p452 q452; cases e452; replace hx452_0 := bx_ HB hx452_0; replace hx452_1 := bx_ HB hx452_1; replace hx452_2 := bx_ HB hx452_2; replace hx452_3 := bx_ HB hx452_3; have HR452_3 := Aside0.mk hi452_3; have HC452_3 := Aside0.mk hl452_3; clear hi452_3 hl452_3; replace p452 := eq_true p452; replace q452 := eq_true q452; go_wp2_with (first | ((with_reducible refine gate_builtin (b := .append) (xs := #[.tmp 14, .tmp 23]) rfl ?_); at_builtin; refine Kd.R_append Kd.string (w0 := w) w.heap.size rfl (.tmp 14) (.tmp 23) 46 9 (.string ⟨#[]⟩) 16 rfl Try.underlying46 info9 rfl (by decide) (by omega) u5 x5_1 ((rd_T123 l0_1 (rd l1 x10_1)).f0) [.string ((rd_T123 l0_1 (rd l1 x10_1)).f0)] (fun _ => True) (fun _ => False) rfl rfl ?aP (fun _ hk => hk.elim) ?aF ?aO ?aB ?aS ?aL ?_; (case aP => exact rfl); (case aB => exact q20_); (case aF => exact (fun _ _ => trivial)); (case aO => exact q12_); (case aS => exact (below_size q20_)); (case aL => have := LMc8.out; omega); intro v454 w10 ho hb hg hat; rw [← Ny453.out] at ho; refine ai3_ (bg_ BK0 hg (Kd.R_ne HO_5.out BK0.out (by decide))) (hb) (ho) ?_; clear BK0 HB HO_5; intro BK0 HB HO455; clear ho hb hg hat)); go_roundg k1
      case measure => have := HK1.out; omega
      case rel => exact ⟨(y453), (wrap64 (x10_1 + 1)), q5_, H', ⟨by have := HK1.out; omega⟩, z_ HO455, z_ BK0, ⟨zb_⟩⟩
     ·rw [if_neg c3] at H; have c3b0 : decide (x10_1 < (l1.length : Int)) = false := decide_eq_false c3; clear c3; obtain rfl := Option.some.inj H; go_wp2; go_ret; exact ⟨_, er_, zp_ HO_5, zb_⟩

/-! ### impl_Weave_extract: function 65 -/
def impl_Weave_extract.f (k : Nat) (l0_0 : List (List Int)) (l0_1 : List (S123)) (a1 : Int) : Option (List ByteArray) := (impl_closures.f k l0_0).bind fun t456 => (if 0 ≤ a1 then (if a1 < (t456.length : Int) then ((impl_Weave_liveIn.f k l0_0 l0_1 (rd t456 a1)).bind fun t460 => ((impl_Weave_linesAt.f k l0_0 l0_1 t460).bind fun t463 => (some t463))) else (none)) else (none))
theorem impl_Weave_extract.mono : ∀ a0 a1 a2 k, LeO (impl_Weave_extract.f k a0 a1 a2) (impl_Weave_extract.f (k + 1) a0 a1 a2) := by
  intro a0 a1 a2 k; unfold impl_Weave_extract.f
  repeat' with_reducible first | exact LeO.refl _ | exact LeO.none _ | refine LeO.ite ?_ ?_ | refine LeO.bind ?_ (fun _ => ?_) | exact impl_Weave_linesAt.mono _ _ _ _ | exact impl_Weave_liveIn.mono _ _ _ _ | exact impl_closures.mono _ _
set_option maxHeartbeats 8000000 in
set_option maxRecDepth 100000 in
theorem impl_Weave_extract.calls (k : Nat) (g0 : Nat) (A0_0 : Option Addr) (c0_0 : Nat) (l0_0 : List (List Int)) (A0_1 : Option Addr) (c0_1 : Nat) (l0_1 : List (S123)) (a1 : Int) (r : List ByteArray) (w : World) (hbk0 : w.heap[g0]? = some (.cells #[.slice A0_0 l0_0.length c0_0, .slice A0_1 l0_1.length c0_1] 32 (0, 0))) (hr0_0 : Kd.C (Kd.slice 3 (Kd.int .i64)) w A0_0 l0_0.length l0_0) (hc0_0 : l0_0.length ≤ c0_0) (hr0_1 : Kd.C k123 w A0_1 l0_1.length l0_1) (hc0_1 : l0_1.length ≤ c0_1) (h : impl_Weave_extract.f k l0_0 l0_1 a1 = some r) :
    Calls Try.prog 65 #[.pointer (some ⟨g0, 0, none⟩), .int .i64 a1] w fun e w' => ∃ v0_ : Value, e = .returned (v0_) ∧ Kd.R Kd.string 9 w' w.heap.size (fun _ => True) v0_ r ∧ Below w.heap.size w w' := by
  have HR0_0 := Aside0.mk hr0_0; have HC0_0 := Aside0.mk hc0_0; clear hr0_0 hc0_0; have HR0_1 := Aside0.mk hr0_1; have HC0_1 := Aside0.mk hc0_1; clear hr0_1 hc0_1; have BK0 := Aside0.mk hbk0; clear hbk0; have HB := Aside0.mk (Below.refl w.heap.size w); have H : ((impl_closures.f k l0_0).bind fun t456 => (if 0 ≤ a1 then (if a1 < (t456.length : Int) then ((impl_Weave_liveIn.f k l0_0 l0_1 (rd t456 a1)).bind fun t460 => ((impl_Weave_linesAt.f k l0_0 l0_1 t460).bind fun t463 => (some t463))) else (none)) else (none))) = some r := h; clear h; replace H := Option.bind_eq_some_iff.mp H; obtain ⟨t456, A30, H⟩ := H; (try dsimp only at H); have A3 := Aside0.mk A30; clear A30; obtain ⟨c4b0, H⟩ := ifd_ H; obtain ⟨c5b0, H⟩ := ifd_ H; replace H := Option.bind_eq_some_iff.mp H; obtain ⟨t460, A60, H⟩ := H; (try dsimp only at H); have A6 := Aside0.mk A60; clear A60; replace H := Option.bind_eq_some_iff.mp H; obtain ⟨t463, A70, H⟩ := H; (try dsimp only at H); have A7 := Aside0.mk A70; clear A70; obtain rfl := Option.some.inj H; obtain ⟨hcz8_0, hcz8_1, hfz8_0, hfz8_1⟩ := bk2_ BK0.out; go_enter Try.func65, Try.ntmps65; go_wp2_with (first | ((with_reducible refine gate_callee (f := 84) rfl ?_); refine gl_ 11 Try.func84 #[.slice A0_0 l0_0.length c0_0] ?_; (with_reducible refine (impl_closures.calls k _ _ l0_0 t456 _ ?side1 ?side2 A3.out).mono ?_); (case side1 => exact (by repeat (first | exact HR0_0.out | (with_reducible refine Kd.C_alloc ?_ _) | (with_reducible refine Kd.C_drewN ?_ _) | (with_reducible refine Kd.C_drew ?_)))); (case side2 => exact HC0_0.out); rintro e w9 ⟨v457, rfl, ho0, hb⟩; refine ⟨_, rfl, ?_⟩; refine ai3_ (Kd.R_lower ho0 (below_size q20_)) (bb_ BK0 hb) (below_step q20_ hb) ?_; clear BK0 HB; intro HO458 BK0 HB; (try clear hb); (try clear hb2); (try clear hk); (try clear hi); (try clear ho0); obtain ⟨Ao10, co10, eo10⟩ := Kd.R_slice HO458.out; subst eo10; have p459 : 0 ≤ (a1 : Int) := of_decide_eq_true q2_; have q459 : a1 < (t456.length : Int) := of_decide_eq_true q2_; obtain ⟨ad459, e459, hx459_0⟩ := Kd.at_int (Kd.R_reads' HO458.out).2.2 a1 p459 q459; cases e459; replace p459 := eq_true p459; replace q459 := eq_true q459) | ((with_reducible refine gate_callee (f := 82) rfl ?_); refine gl_ 15 Try.func82 #[.pointer (some ⟨g0, 0, none⟩), .int .u64 (rd t456 a1)] ?_; (with_reducible refine (impl_Weave_liveIn.calls k g0 A0_0 c0_0 l0_0 A0_1 c0_1 l0_1 (rd t456 a1) t460 _ ?side1 ?side2 ?side3 ?side4 ?side5 A6.out).mono ?_); (case side1 => exact q30_); (case side2 => exact q4_); (case side3 => exact HC0_0.out); (case side4 => exact q9_); (case side5 => exact HC0_1.out); rintro e w11 ⟨v461, rfl, ho0, hb⟩; refine ⟨_, rfl, ?_⟩; refine ai4_ (Kd.R_below (zp_ HO458) hb) (Kd.R_lower ho0 (below_size q20_)) (bb_ BK0 hb) (below_step q20_ hb) ?_; clear HO458 BK0 HB; intro HO458 HO462 BK0 HB; (try clear hb); (try clear hb2); (try clear hk); (try clear hi); (try clear ho0); obtain ⟨Ao12, co12, eo12⟩ := Kd.R_slice HO462.out; subst eo12) | ((with_reducible refine gate_callee (f := 81) rfl ?_); refine gl_ 16 Try.func81 #[.pointer (some ⟨g0, 0, none⟩), .slice Ao12 t460.length co12] ?_; (with_reducible refine (impl_Weave_linesAt.calls k g0 A0_0 c0_0 l0_0 A0_1 c0_1 l0_1 _ _ t460 t463 _ ?side1 ?side2 ?side3 ?side4 ?side5 ?side6 ?side7 A7.out).mono ?_); (case side1 => exact q30_); (case side2 => exact q4_); (case side3 => exact HC0_0.out); (case side4 => exact q9_); (case side5 => exact HC0_1.out); (case side6 => exact (by repeat (first | exact (Kd.R_reads' HO462.out).2.2 | (with_reducible refine Kd.C_alloc ?_ _) | (with_reducible refine Kd.C_drewN ?_ _) | (with_reducible refine Kd.C_drew ?_)))); (case side7 => exact (Kd.R_reads' HO462.out).2.1); rintro e w13 ⟨v464, rfl, ho0, hb⟩; refine ⟨_, rfl, ?_⟩; refine ai5_ (Kd.R_below (zp_ HO458) hb) (Kd.R_below (zp_ HO462) hb) (Kd.R_lower ho0 (below_size q20_)) (bb_ BK0 hb) (below_step q20_ hb) ?_; clear HO458 HO462 BK0 HB; intro HO458 HO462 HO465 BK0 HB; (try clear hb); (try clear hb2); (try clear hk); (try clear hi); (try clear ho0))); go_ret; exact ⟨_, er_, zp_ HO465, zb_⟩
end Go.Proofs.Ytmodgiingohphaa.PFnExactWeaveText
-- (flat)
-- (thin)
