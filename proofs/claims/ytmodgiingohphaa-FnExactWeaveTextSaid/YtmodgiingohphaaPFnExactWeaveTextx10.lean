-- Made by a program (the kit's print with additions of this session: wip/tools/patch_print.py, ext.py).
-- (turned)
import Derived.Test.YtmodgiingohphaaPFnExactWeaveTextx0
import Derived.Test.YtmodgiingohphaaPFnExactWeaveTextx5
import Derived.Test.YtmodgiingohphaaPFnExactWeaveTextx9
namespace Go.Proofs.Ytmodgiingohphaa.PFnExactWeaveText
open Go.RowKit Go.Proofs.YtmodgiingohphaaW.PrintWords Go.Proofs.YtmodgiingohphaaW.PrintLast Go.Proofs.YtmodgiingohphaaW.PrintMore
attribute [local go_sem] max2_int min2_int max_two min_two max_three min_three max_four min_four   -- for this text's walks alone
set_option linter.unusedVariables false
set_option linter.unusedSimpArgs false

/-! ### spec_JoinLines: function 41 -/
def spec_JoinLines.nums (s : ByteArray) : List Int := s.data.toList.map fun b => (b.toNat : Int)
def spec_JoinLines.cat (l : List ByteArray) : List Int := l.flatMap fun s => spec_JoinLines.nums s ++ [10]
theorem spec_JoinLines.nums_length (s : ByteArray) : (spec_JoinLines.nums s).length = s.size := by
  simp only [spec_JoinLines.nums, List.length_map, Array.length_toList]; rfl
theorem spec_JoinLines.cat_take (l : List ByteArray) (i : Nat) (h : i < l.length) : spec_JoinLines.cat (l.take (i + 1)) = (spec_JoinLines.cat (l.take i) ++ spec_JoinLines.nums l[i]) ++ [10] := by
  unfold spec_JoinLines.cat; rw [List.take_succ_eq_append_getElem h]; simp only [List.flatMap_append, List.flatMap_cons, List.flatMap_nil, List.append_nil, List.append_assoc]
theorem spec_JoinLines.cat_le (l : List ByteArray) (i : Nat) : (spec_JoinLines.cat (l.take i)).length ≤ (spec_JoinLines.cat l).length := by
  have h : spec_JoinLines.cat l = spec_JoinLines.cat (l.take i) ++ spec_JoinLines.cat (l.drop i) := by
    unfold spec_JoinLines.cat
    conv => lhs; rw [← List.take_append_drop i l]
    rw [List.flatMap_append]
  rw [h, List.length_append]; omega
theorem spec_JoinLines.len_le (l : List ByteArray) : l.length ≤ (spec_JoinLines.cat l).length := by
  unfold spec_JoinLines.cat
  induction l with
  | nil => simp
  | cons s l ih => simp only [List.length_cons, List.flatMap_cons, List.length_append, List.length_nil]; omega
theorem spec_JoinLines.reads (W : World) (s : ByteArray) (n c : Nat) (hs : s.size ≤ 140737488355328) : Kd.C (Kd.int .u8) (W.alloc (.cells (bytesRow s c) 5 (n, n + 1))) (some ⟨W.heap.size, 0, none⟩) s.size (spec_JoinLines.nums s) := by
  refine Kd.C_of_reads (enc := Value.int .u8) (d := (0 : Int)) ⟨spec_JoinLines.nums_length s, by omega, fun _ => ⟨_, rfl, fun j hj => ?_⟩⟩; have hb : (W.alloc (.cells (bytesRow s c) 5 (n, n + 1))).heap[W.heap.size]? = some (.cells (bytesRow s c) 5 (n, n + 1)) := heap_alloc_new W _
  have e : (⟨W.heap.size, 0, none⟩ : Addr).add j = ⟨W.heap.size, j, none⟩ := by
    simp [Addr.add]; intro h; exact h.symm
  rw [e, Lib.cell_of_heap hb]; have hj' : j < s.data.size := hj; unfold bytesRow; rw [Array.getElem?_append_left (by simpa using hj'), Array.getElem?_map, Array.getElem?_eq_getElem hj']; simp [spec_JoinLines.nums, List.getD, Array.getElem?_eq_getElem hj']
theorem spec_JoinLines.db {w w' : World} (h : Drawn0 w w') : Below w.heap.size w w' := by
  obtain ⟨n, rfl⟩ := h.out; apply pw_below_drewN; exact Below.refl _ _
def spec_JoinLines.f (k : Nat) (l0 : List ByteArray) : Option (ByteArray × Bool) := (spec_LinesOk.f k l0).bind fun t => if t = true then (if (spec_JoinLines.cat l0).length ≤ 140737488351232 then some (strOfNums (spec_JoinLines.cat l0), true) else none) else some (⟨#[]⟩, false)
theorem spec_JoinLines.mono : ∀ a0 k, LeO (spec_JoinLines.f k a0) (spec_JoinLines.f (k + 1) a0) := by
  intro a0 k; unfold spec_JoinLines.f; exact LeO.bind (spec_LinesOk.mono _ _) (fun _ => LeO.refl _)
set_option maxHeartbeats 8000000 in
set_option maxRecDepth 100000 in
theorem spec_JoinLines.calls (k : Nat) (A0 : Option Addr) (c0 : Nat) (l0 : List ByteArray) (r1 : ByteArray) (r2 : Bool) (w : World) (hr0 : Kd.C Kd.string w A0 l0.length l0) (hc0 : l0.length ≤ c0) (h : spec_JoinLines.f k l0 = some (r1, r2)) :
    Calls Try.prog 41 #[.slice A0 l0.length c0] w fun e w' => e = .returned (.tuple #[.string r1, .bool r2]) ∧ Below w.heap.size w w' := by
  unfold spec_JoinLines.f at h; obtain ⟨t, ht, h⟩ := Option.bind_eq_some_iff.mp h; have HR := Aside0.mk hr0; have HC := Aside0.mk hc0; have HT := Aside0.mk ht; clear hr0 hc0 ht; have hcv := fun w s => run_bytes_of_string (P := Try.prog) w 9 56 5 s Try.underlying9 Try.underlying56 Try.underlying5
  by_cases c : t = true
  case neg => rw [if_neg c] at h; replace c := Bool.eq_false_iff.mpr c; subst c; obtain ⟨rfl, rfl⟩ := Prod.mk.inj (Option.some.inj h); clear h; go_enter Try.func41, Try.ntmps41; go_wp2_with (first | (go_at_call 93; (try simp only [i64_w]); (with_reducible refine (spec_LinesOk.calls k _ _ l0 false _ ?side1 ?side2 HT.out).mono ?_); (case side1 => exact HR.out); (case side2 => exact HC.out); rintro e w5 ⟨rfl, hd⟩; have HB := Aside0.mk (spec_JoinLines.db hd); clear hd)); go_ret2; exact ⟨rfl, HB.out⟩
  rw [if_pos c] at h; subst c; by_cases hl : (spec_JoinLines.cat l0).length ≤ 140737488351232
  case neg => rw [if_neg hl] at h; exact absurd h (by simp)
  rw [if_pos hl] at h; obtain ⟨rfl, rfl⟩ := Prod.mk.inj (Option.some.inj h); have HL := Aside0.mk hl; clear h hl; go_enter Try.func41, Try.ntmps41; go_wp2_with (first | (go_at_call 93; (try simp only [i64_w]); (with_reducible refine (spec_LinesOk.calls k _ _ l0 true _ ?side1 ?side2 HT.out).mono ?_); (case side1 => exact HR.out); (case side2 => exact HC.out); rintro e w5 ⟨rfl, hd⟩; have HB := Aside0.mk (spec_JoinLines.db hd); clear hd) | ((with_reducible refine gate_dst (N := 9) rfl ?_); refine Kd.R_lit (Kd.int .u8) _ 5 ?hg (N := 9) ?hd (xs := ([] : List Int)) (inner := []) (ok := fun _ => True) (okp := fun _ => True) ?hr ?hp (fun _ hk => hk) trivial (Below.refl _ _) (Nat.le_refl _) (by simp) ?_; (case hd => rfl); (case hg => rfl); (case hr => first | (go_simp; done) | (go_simp; rfl)); (case hp => exact (Reps.none _ _)); intro v9 w6 ho hb hg_ hnew_; clear hg_ hnew_; have HB2 := Aside0.mk (below_step HB.out hb); have HO := Aside0.mk (Kd.R_lower ho (below_size HB.out)); clear HB ho hb)); go_loopg [4, 5] l0.length (fun kq v4 v5 w' => ∃ i : Nat, i + kq = l0.length ∧ v5 = .int .i64 i ∧ Aside0 (Kd.R (Kd.int .u8) 5 w' w.heap.size (fun _ => True) v4 (spec_JoinLines.cat (l0.take i))) ∧ Aside0 (Below w.heap.size w w'))
  case atStart => exact ⟨0, by omega, by simp, HO, HB2⟩
  case round =>
    clear HO HB2; obtain ⟨i, hi, rfl, HO, HB⟩ := hrel
    have hlen : l0.length ≤ 140737488351232 := by
     have e := spec_JoinLines.len_le l0; have := HL.out; omega
    cases gk with
    | zero =>
     have hlt : ¬ (i < l0.length) := (by omega); have e0 : l0.take i = l0 := List.take_of_length_le (by omega); have HO0 : Aside0 (Kd.R (Kd.int .u8) 5 wr w.heap.size (fun _ => True) u4 (spec_JoinLines.cat l0)) := ⟨by have := HO.out; rw [e0] at this; exact this⟩; clear e0 HO; obtain ⟨Ao, co, eo⟩ := Kd.R_slice HO0.out; subst eo; have hst := Kd.C_string (P := Try.prog) (src := 56) (dst := 9) (c := co) Try.underlying56 Try.underlying5 Try.underlying9 (Kd.R_reads' HO0.out).2.2; go_wp2; go_ret2; exact ⟨rfl, HB.out⟩
    | succ k1 =>
     have hlt : i < l0.length := (by omega); have p1 : (0 : Int) ≤ (i : Int) := (by omega); have q1 : (i : Int) < (l0.length : Int) := (by omega); obtain ⟨ad, e1, hx⟩ := Kd.at_string HR.out (i : Int) p1 q1; subst e1
     have hx2 : wr.cell? (ad.add i) = some (.string l0[i]) := by
      have := bx_ HB hx; simpa [rdOf, List.getD, List.getElem?_eq_getElem hlt] using this
     have hs : (spec_JoinLines.cat (l0.take i)).length + l0[i].size + 1 ≤ 140737488351232 := by
      have h1 := spec_JoinLines.cat_take l0 i hlt; have h2 := spec_JoinLines.cat_le l0 (i + 1); have h3 := HL.out; rw [h1, List.length_append, List.length_append, spec_JoinLines.nums_length] at h2; simp only [List.length_cons, List.length_nil] at h2; omega
     have HS := Aside0.mk hs; obtain ⟨y, hy⟩ : ∃ y_ : List Int, y_ = spec_JoinLines.cat (l0.take i) ++ spec_JoinLines.nums l0[i] := ⟨_, rfl⟩; have NY := Aside0.mk hy; have HN : Aside0 (spec_JoinLines.cat (l0.take (i + 1)) = y ++ [10]) := ⟨by rw [spec_JoinLines.cat_take l0 i hlt, hy]⟩; have HY : Aside0 (y.length + 1 ≤ 140737488351232) := ⟨by rw [hy, List.length_append, spec_JoinLines.nums_length]; omega⟩; clear hy hx hs p1 q1; obtain ⟨Ao, co, eo⟩ := Kd.R_slice HO.out; subst eo; go_wp2_with (first | ((with_reducible refine gate_builtin (b := .append) (xs := #[.tmp 16, .tmp 21]) rfl ?_); at_builtin; refine Kd.R_append_rows (Kd.int .u8) (w0 := w) w.heap.size rfl (.tmp 16) (.tmp 21) 56 5 (.int .u8 0) 1 rfl Try.underlying56 (by kernel_rfl) rfl (by decide) (by omega) _ (spec_JoinLines.cat (l0.take i)) (spec_JoinLines.nums l0[i]) _ _ _ (fun _ => True) (fun _ => False) rfl rfl ?aO ?aR (fun _ _ h => h) (fun _ h => h.elim) ?aF ?aB ?aS ?aL ?_; (case aR => repeat (first | exact spec_JoinLines.reads _ _ _ _ (by have := HS.out; omega) | (with_reducible refine Kd.C_drewN ?_ _) | (with_reducible refine Kd.C_drew ?_))); (case aB => exact (by repeat (first | exact HB.out | apply below_alloc | apply pw_below_drewN | apply below_drew1))); (case aF => exact fun _ _ => trivial); (case aO => exact (zp_ HO)); (case aS => exact below_size (by repeat (first | exact HB.out | apply below_alloc | apply pw_below_drewN | apply below_drew1))); (case aL => have := HS.out; omega); intro v7 w7 ho hb hg hat; rw [← NY.out] at ho; have HO2 := Aside0.mk ho; have HB2 := Aside0.mk hb; clear ho hb hg hat; obtain ⟨Ao2, co2, eo2⟩ := Kd.R_slice HO2.out; subst eo2) | ((with_reducible refine gate_builtin (b := .append) (xs := #[.tmp 22, .tmp 23]) rfl ?_); at_builtin; refine Kd.R_append (Kd.int .u8) (w0 := w) w.heap.size rfl (.tmp 22) (.tmp 23) 56 5 (.int .u8 0) 1 rfl Try.underlying56 (by kernel_rfl) rfl (by decide) (by omega) _ y 10 [.int .u8 10] (fun _ => True) (fun _ => False) rfl rfl ?aP (fun _ hk => hk.elim) ?aF ?aO ?aB ?aS ?aL ?_; (case aP => exact rfl); (case aB => exact by repeat (first | (with_reducible first | exact HB2.out | apply below_alloc | apply pw_below_drewN | apply below_drew1) | exact HB2.out | apply below_alloc | apply pw_below_drewN | apply below_drew1)); (case aF => exact fun _ _ => trivial); (case aO => exact by (with_reducible repeat (first | apply Kd.R_alloc | apply Kd.R_drewN | apply Kd.R_drew)); exact HO2.out); (case aS => exact below_size (by repeat (first | exact HB2.out | apply below_alloc | apply pw_below_drewN | apply below_drew1))); (case aL => have := HY.out; omega); intro v8 w8 ho hb hg hat; have HO3 : Aside0 (Kd.R (Kd.int .u8) 5 w8 w.heap.size (fun _ => True) v8 (spec_JoinLines.cat (l0.take (i + 1)))) := ⟨by rw [HN.out]; exact ho⟩; have HB3 := Aside0.mk hb; clear ho hb hg hat)); go_roundg k1
     case measure => omega
     case rel => exact ⟨i + 1, by omega, by go_num, HO3, HB3⟩

/-! ### spec_SumMore: function 94 -/
mutual
def spec_SumMore.l0 : Nat → Int → ByteArray → Int → Option (Int)
  | 0, _, _, _ => none
  | k + 1, x0, x1, x5 => if x5 < (x1.size : Int) then (if 0 ≤ x5 then (spec_SumMore.l1 k (Go.bits .xor .u32 x0 ((bt x1 x5) % 4294967296)) x1 x5 0) else (none)) else (some x0)
def spec_SumMore.l1 : Nat → Int → ByteArray → Int → Int → Option (Int)
  | 0, _, _, _, _ => none
  | k + 1, x0, x1, x5, x6 => if x6 < 8 then (if (Int.tmod x0 2) = 1 then (spec_SumMore.l1 k (Go.bits .xor .u32 ((Int.tdiv x0 2) % 4294967296) 3558460437) x1 x5 (wrap64 (x6 + 1))) else (spec_SumMore.l1 k ((Int.tdiv x0 2) % 4294967296) x1 x5 (wrap64 (x6 + 1)))) else (spec_SumMore.l0 k x0 x1 (wrap64 (x5 + 1)))
end
def spec_SumMore.f (k : Nat) (a0 : Int) (a1 : ByteArray) : Option (Int) := spec_SumMore.l0 k a0 a1 0
theorem spec_SumMore.mono_l : ∀ k, (∀ y0 y1 y2, LeO (spec_SumMore.l0 k y0 y1 y2) (spec_SumMore.l0 (k + 1) y0 y1 y2)) ∧ (∀ y0 y1 y2 y3, LeO (spec_SumMore.l1 k y0 y1 y2 y3) (spec_SumMore.l1 (k + 1) y0 y1 y2 y3))
  | 0 => by refine ⟨?_, ?_⟩ <;> intros <;> exact LeO.none _
  | k + 1 => by
    obtain ⟨ih0, ih1⟩ := spec_SumMore.mono_l k; refine ⟨?_, ?_⟩ <;> intros <;> (first | unfold spec_SumMore.l0 | unfold spec_SumMore.l1) <;> repeat' with_reducible first | exact LeO.refl _ | exact LeO.none _ | refine LeO.ite ?_ ?_ | refine LeO.bind ?_ (fun _ => ?_) | exact ih0 _ _ _ | exact ih1 _ _ _ _
theorem spec_SumMore.mono : ∀ a0 a1 k, LeO (spec_SumMore.f k a0 a1) (spec_SumMore.f (k + 1) a0 a1) := by
  intro a0 a1 k; obtain ⟨ih0, ih1⟩ := spec_SumMore.mono_l k; unfold spec_SumMore.f
  repeat' with_reducible first | exact LeO.refl _ | exact LeO.none _ | refine LeO.ite ?_ ?_ | refine LeO.bind ?_ (fun _ => ?_) | exact ih0 _ _ _ | exact ih1 _ _ _ _
set_option maxHeartbeats 8000000 in
set_option maxRecDepth 100000 in
theorem spec_SumMore.calls (k : Nat) (a0 : Int) (a1 : ByteArray) (r : Int) (w : World) (h : spec_SumMore.f k a0 a1 = some r) :
    Calls Try.prog 94 #[.int .u32 a0, .string a1] w fun e w' => e = .returned (.int .u32 r) ∧ Drawn0 w w' := by
  have H : (spec_SumMore.l0 k a0 a1 0) = some r := h; clear h; have H' := Aside0.mk H; clear H; go_enter Try.func94, Try.ntmps94; go_wp2; go_loopg [0, 5] k (fun kq v0 v5 w' => ∃ (x0_1 : Int) (x5_1 : Int), v0 = .int .u32 x0_1 ∧ v5 = .int .i64 x5_1 ∧ Aside0 (spec_SumMore.l0 kq x0_1 a1 x5_1 = some r) ∧ Aside0 (kq ≤ k) ∧ Drawn0 w w')
  case atStart => exact ⟨(a0), (0), q5_, q5_, H', ⟨Nat.le_refl _⟩, by repeat (first | exact Drawn0.refl _ | apply Drawn0.step)⟩
  case round =>
    clear H'; (try clear p2); obtain ⟨x0_1, x5_1, rfl, rfl, HA, HK1, ⟨m1, rfl⟩⟩ := hrel
    cases gk with
    | zero => exact absurd HA.out (by simp [spec_SumMore.l0])
    | succ k1 =>
     have H := HA.out; clear HA; simp only [spec_SumMore.l0] at H; by_cases c3 : x5_1 < (a1.size : Int)
     ·rw [if_pos c3] at H; have c3b0 : decide (x5_1 < (a1.size : Int)) = true := decide_eq_true c3; clear c3; obtain ⟨c4b0, H⟩ := ifd_ H; have H' := Aside0.mk H; clear H; have p5 : 0 ≤ (x5_1 : Int) := of_decide_eq_true q2_; have q5 : x5_1 < (a1.size : Int) := of_decide_eq_true q2_; have hx5 := bt_at a1 x5_1; replace p5 := eq_true p5; replace q5 := eq_true q5; go_wp2; go_loopg [0, 6] k1 (fun kq v0 v6 w' => ∃ (x0_2 : Int) (x6_2 : Int), v0 = .int .u32 x0_2 ∧ v6 = .int .i64 x6_2 ∧ Aside0 (spec_SumMore.l1 kq x0_2 a1 x5_1 x6_2 = some r) ∧ Aside0 (kq ≤ k1) ∧ Drawn0 w w')
      case atStart => exact ⟨(Go.bits .xor .u32 x0_1 ((bt a1 x5_1) % 4294967296)), (0), q5_, q5_, H', ⟨Nat.le_refl _⟩, by repeat (first | exact Drawn0.refl _ | apply Drawn0.step)⟩
      case round =>
       clear H'; (try clear p2); (try clear c3); (try clear c3b0); (try clear c4); (try clear c4b0); (try clear p5); (try clear q5); (try clear hx5); (try clear p2); (try clear p5); (try clear q5); obtain ⟨x0_2, x6_2, rfl, rfl, HA, HK2, ⟨m2, rfl⟩⟩ := hrel
       cases gk with
       | zero => exact absurd HA.out (by simp [spec_SumMore.l1])
       | succ k2 =>
        have H := HA.out; clear HA; simp only [spec_SumMore.l1] at H; by_cases c6 : x6_2 < 8
        ·rw [if_pos c6] at H; have c6b0 : decide (x6_2 < 8) = true := decide_eq_true c6; clear c6; by_cases c7 : (Int.tmod x0_2 2) = 1
         ·rw [if_pos c7] at H; have c7b0 : ((Int.tmod x0_2 2) == 1) = true := beq_iff_eq.mpr c7; have c7b1 : ((Int.tmod x0_2 2) != 1) = false := bne_eq_false_iff_eq.mpr c7; clear c7; have H' := Aside0.mk H; clear H; go_wp2; go_roundg k2
          case measure => have := HK1.out; have := HK2.out; omega
          case rel => exact ⟨(Go.bits .xor .u32 ((Int.tdiv x0_2 2) % 4294967296) 3558460437), (wrap64 (x6_2 + 1)), q5_, q5_, H', ⟨by have := HK1.out; have := HK2.out; omega⟩, by repeat (first | exact Drawn0.refl _ | apply Drawn0.step)⟩
         ·rw [if_neg c7] at H; have c7b0 : ((Int.tmod x0_2 2) == 1) = false := beq_eq_false_iff_ne.mpr c7; have c7b1 : ((Int.tmod x0_2 2) != 1) = true := bne_iff_ne.mpr c7; have H' := Aside0.mk H; clear H; go_wp2; go_roundg k2
          case measure => have := HK1.out; have := HK2.out; omega
          case rel => exact ⟨((Int.tdiv x0_2 2) % 4294967296), (wrap64 (x6_2 + 1)), q5_, q5_, H', ⟨by have := HK1.out; have := HK2.out; omega⟩, by repeat (first | exact Drawn0.refl _ | apply Drawn0.step)⟩
        ·rw [if_neg c6] at H; have c6b0 : decide (x6_2 < 8) = false := decide_eq_false c6; clear c6; have H' := Aside0.mk H; clear H; go_wp2; go_roundg k2
         case measure => have := HK1.out; have := HK2.out; omega
         case rel => exact ⟨(x0_2), (wrap64 (x5_1 + 1)), q5_, q5_, H', ⟨by have := HK1.out; have := HK2.out; omega⟩, by repeat (first | exact Drawn0.refl _ | apply Drawn0.step)⟩
     ·rw [if_neg c3] at H; have c3b0 : decide (x5_1 < (a1.size : Int)) = false := decide_eq_false c3; clear c3; obtain rfl := Option.some.inj H; go_wp2; go_ret; exact ⟨by first | rfl | (simp; done) | (simp [*]; done), by repeat (first | exact Drawn0.refl _ | apply Drawn0.step)⟩

/-! ### spec_SumOf: function 42 -/
def spec_SumOf.f (k : Nat) (a0 : ByteArray) : Option (Int) := (spec_SumMore.f k 4294967295 a0).bind fun t314 => (some t314)
theorem spec_SumOf.mono : ∀ a0 k, LeO (spec_SumOf.f k a0) (spec_SumOf.f (k + 1) a0) := by
  intro a0 k; unfold spec_SumOf.f
  repeat' with_reducible first | exact LeO.refl _ | exact LeO.none _ | refine LeO.ite ?_ ?_ | refine LeO.bind ?_ (fun _ => ?_) | exact spec_SumMore.mono _ _ _
set_option maxHeartbeats 8000000 in
set_option maxRecDepth 100000 in
theorem spec_SumOf.calls (k : Nat) (a0 : ByteArray) (r : Int) (w : World) (h : spec_SumOf.f k a0 = some r) :
    Calls Try.prog 42 #[.string a0] w fun e w' => e = .returned (.int .u32 r) ∧ Drawn0 w w' := by
  have H : ((spec_SumMore.f k 4294967295 a0).bind fun t314 => (some t314)) = some r := h; clear h; replace H := Option.bind_eq_some_iff.mp H; obtain ⟨t314, A20, H⟩ := H; (try dsimp only at H); have A2 := Aside0.mk A20; clear A20; obtain rfl := Option.some.inj H; go_enter Try.func42, Try.ntmps42; go_wp2_with (first | ((with_reducible refine gate_callee (f := 94) rfl ?_); refine gl_ 4 Try.func94 #[.int .u32 4294967295, .string a0] ?_; (with_reducible refine (spec_SumMore.calls k 4294967295 a0 t314 _ A2.out).mono ?_); rintro e w' ⟨rfl, ⟨nd, rfl⟩⟩; refine ⟨_, rfl, ?_⟩)); go_ret; exact ⟨by first | rfl | (simp; done) | (simp [*]; done), by repeat (first | exact Drawn0.refl _ | apply Drawn0.step)⟩

/-! ### spec_l06Lines: function 113 -/
def spec_l06Lines.l0 : Nat → List Int → List ByteArray → Int → List (List Int) → List (S123) → Option (List ByteArray)
  | 0, _, _, _, _, _ => none
  | k + 1, x1, x5, x6, x316000, x316001 => if x6 < (x1.length : Int) then (if 0 ≤ x6 then (if 0 ≤ (rd x1 x6) then (if (rd x1 x6) < (x316001.length : Int) then (if x5.length < 8796093022208 then (spec_l06Lines.l0 k x1 (x5 ++ [(rd_T123 x316001 (rd x1 x6)).f0]) (wrap64 (x6 + 1)) x316000 x316001) else (none)) else (none)) else (none)) else (none)) else (some x5)
def spec_l06Lines.f (k : Nat) (l0_0 : List (List Int)) (l0_1 : List (S123)) (l1 : List Int) : Option (List ByteArray) := spec_l06Lines.l0 k l1 (([] : List ByteArray)) 0 l0_0 l0_1
theorem spec_l06Lines.mono_l : ∀ k, (∀ y0 y1 y2 y3 y4, LeO (spec_l06Lines.l0 k y0 y1 y2 y3 y4) (spec_l06Lines.l0 (k + 1) y0 y1 y2 y3 y4))
  | 0 => by intros; exact LeO.none _
  | k + 1 => by
    have ih0 := spec_l06Lines.mono_l k; intros ; unfold spec_l06Lines.l0 ; repeat' with_reducible first | exact LeO.refl _ | exact LeO.none _ | refine LeO.ite ?_ ?_ | refine LeO.bind ?_ (fun _ => ?_) | exact ih0 _ _ _ _ _
theorem spec_l06Lines.mono : ∀ a0 a1 a2 k, LeO (spec_l06Lines.f k a0 a1 a2) (spec_l06Lines.f (k + 1) a0 a1 a2) := by
  intro a0 a1 a2 k; have ih0 := spec_l06Lines.mono_l k; unfold spec_l06Lines.f
  repeat' with_reducible first | exact LeO.refl _ | exact LeO.none _ | refine LeO.ite ?_ ?_ | refine LeO.bind ?_ (fun _ => ?_) | exact ih0 _ _ _ _ _
def spec_l06Lines.T5 : Bool × List (List Nat × List Nat) := (true, [([], []), ([], []), ([1], [1]), ([], []), ([], []), ([3, 4], [3, 4]), ([5], [5]), ([2, 6], [2, 6]), ([7], [7]), ([8], [8]), ([9], [9]), ([0, 10], [0, 10]), ([11, 11, 0, 1, 2, 3, 4, 5, 6, 7, 8, 9, 10, 11], [0, 11])])
def spec_l06Lines.B5 : List Nat := [0, 0, 2, 0, 0, 24, 56, 126, 254, 510, 1022, 2047, 4095]
theorem spec_l06Lines.tab5 : rtab .any (opsOf Try.f113 5) = spec_l06Lines.T5 := by kernel_rfl
theorem spec_l06Lines.bits5 : waitsOk spec_l06Lines.T5.2 spec_l06Lines.B5 = true := by kernel_rfl
set_option maxHeartbeats 8000000 in
set_option maxRecDepth 100000 in
theorem spec_l06Lines.calls (k : Nat) (A0_0 : Option Addr) (c0_0 : Nat) (l0_0 : List (List Int)) (A0_1 : Option Addr) (c0_1 : Nat) (l0_1 : List (S123)) (A1 : Option Addr) (c1 : Nat) (l1 : List Int) (r : List ByteArray) (w : World) (hr0_0 : Kd.C (Kd.slice 3 (Kd.int .i64)) w A0_0 l0_0.length l0_0) (hc0_0 : l0_0.length ≤ c0_0) (hr0_1 : Kd.C k123 w A0_1 l0_1.length l0_1) (hc0_1 : l0_1.length ≤ c0_1) (hr1 : Kd.C (Kd.int .i64) w A1 l1.length l1) (hc1 : l1.length ≤ c1) (h : spec_l06Lines.f k l0_0 l0_1 l1 = some r) :
    Calls Try.prog 113 #[.agg #[.slice A0_0 l0_0.length c0_0, .slice A0_1 l0_1.length c0_1], .slice A1 l1.length c1] w fun e w' => ∃ v0_ : Value, e = .returned (v0_) ∧ Kd.R Kd.string 9 w' w.heap.size (fun _ => True) v0_ r ∧ Below w.heap.size w w' := by
  have hu32 := Try.underlying32; have HR0_0 := Aside0.mk hr0_0; have HC0_0 := Aside0.mk hc0_0; clear hr0_0 hc0_0; have HR0_1 := Aside0.mk hr0_1; have HC0_1 := Aside0.mk hc0_1; clear hr0_1 hc0_1; have HR1 := Aside0.mk hr1; have HC1 := Aside0.mk hc1; clear hr1 hc1; have HB := Aside0.mk (Below.refl w.heap.size w); have H : (spec_l06Lines.l0 k l1 (([] : List ByteArray)) 0 l0_0 l0_1) = some r := h; clear h; obtain ⟨y316, hy_⟩ : ∃ y_ : List ByteArray, y_ = (([] : List ByteArray)) := ⟨_, rfl⟩; replace H : (spec_l06Lines.l0 k l1 y316 0 l0_0 l0_1) = some r := yh_; have Ny316 := Aside0.mk hy_; clear hy_; have H' := Aside0.mk H; clear H; go_enter Try.func113, Try.ntmps113; go_wp2_with (first | ((with_reducible refine gate_dst (N := 2) rfl ?_); refine be_ 2 #[.slice A0_0 l0_0.length c0_0, .slice A0_1 l0_1.length c0_1] 32 ?_; intro gb315 hg w3 hbox hb; refine ai4_ (below_step q0_ hb) (hbox) (gw_ hg q0_) (gw_ hg q0_) ?_; clear HB; intro HB BK315 GW315 GE315; clear hb hbox hg) | ((with_reducible refine gate_dst (N := 7) rfl ?_); refine Kd.R_lit Kd.string _ 9 ?hg (N := 7) ?hd (xs := ([] : List ByteArray)) (inner := []) (ok := fun _ => True) (okp := fun _ => True) ?hr ?hp (fun _ hk => hk) trivial (Below.refl _ _) (Nat.le_refl _) (by simp) ?_; (case hd => rfl); (case hg => rfl); (case hr => first | (go_simp; done) | (go_simp; rfl)); (case hp => exact (Reps.none _ _)); intro v317 w4 ho5 hb hg_ hnew_; clear hg_ hnew_; (first | rw [← Ny316.out] at ho5 | (simp only [Int.reduceToNat] at ho5; rw [← Ny316.out] at ho5)); refine ai3_ (Kd.R_lower ho5 (below_size q69_)) (bb_ BK315 hb) (below_step q69_ hb) ?_; clear BK315 HB; intro HO318 BK315 HB; clear hb ho5)); go_loopg [5, 6] k (fun kq v5 v6 w' => ∃ (x5_1 : List ByteArray) (x6_1 : Int), v6 = .int .i64 x6_1 ∧ Aside0 (spec_l06Lines.l0 kq l1 x5_1 x6_1 l0_0 l0_1 = some r) ∧ Aside0 (kq ≤ k) ∧ Aside0 (Kd.R Kd.string 9 w' w.heap.size (fun _ => True) v5 x5_1) ∧ Aside0 (w'.heap[gb315]? = some (.cells #[(.slice A0_0 l0_0.length c0_0), (.slice A0_1 l0_1.length c0_1)] 32 (0, 0))) ∧ Aside0 (Below w.heap.size w w'))
  case atStart => exact ⟨(y316), (0), q5_, H', ⟨Nat.le_refl _⟩, z_ HO318, z_ BK315, ⟨zb_⟩⟩
  case round =>
    clear H'; (try clear c1); (try clear p2); obtain ⟨x5_1, x6_1, rfl, HA, HK1, HO_5, BK315, HB⟩ := hrel
    cases gk with
    | zero => exact absurd HA.out (by simp [spec_l06Lines.l0])
    | succ k1 =>
     have H := HA.out; clear HA; simp only [spec_l06Lines.l0] at H; by_cases c6 : x6_1 < (l1.length : Int)
     ·rw [if_pos c6] at H; have c6b0 : decide (x6_1 < (l1.length : Int)) = true := decide_eq_true c6; clear c6; obtain ⟨c7b0, H⟩ := ifd_ H; obtain ⟨c8b0, H⟩ := ifd_ H; obtain ⟨c9b0, H⟩ := ifd_ H; obtain ⟨c10, H⟩ := ifs_ H; have LMc10 := Aside0.mk c10; clear c10; obtain ⟨y321, hy_⟩ : ∃ y_ : List ByteArray, y_ = (x5_1 ++ [(rd_T123 l0_1 (rd l1 x6_1)).f0]) := ⟨_, rfl⟩; replace H : (spec_l06Lines.l0 k1 l1 y321 (wrap64 (x6_1 + 1)) l0_0 l0_1) = some r := yh_; have Ny321 := Aside0.mk hy_; clear hy_; have H' := Aside0.mk H; clear H; (try go_wp2); refine ai3_ (Kd.R_drew HO_5.out) (blk_drew BK315.out) (below_drew1 HB.out) ?_; clear HO_5 BK315 HB; intro HO_5 BK315 HB; have p319 : 0 ≤ (x6_1 : Int) := of_decide_eq_true q2_; have q319 : x6_1 < (l1.length : Int) := of_decide_eq_true q2_; obtain ⟨ad319, e319, hx319_0⟩ := Kd.at_int HR1.out x6_1 p319 q319; have hw319_0 := hx319_0; cases e319; replace hx319_0 := bx_ HB hx319_0; replace p319 := eq_true p319; replace q319 := eq_true q319; have p320 : 0 ≤ ((rd l1 x6_1) : Int) := of_decide_eq_true q2_; have q320 : (rd l1 x6_1) < (l0_1.length : Int) := of_decide_eq_true q2_; obtain ⟨ad320, A320_3, c320_3, e320, hx320_0, hx320_1, hx320_2, hx320_3, hl320_3, hi320_3⟩ := at_T123 HR0_1.out (rd l1 x6_1) p320 q320; have hw320_3 := hx320_3; have hw320_2 := hx320_2; have hw320_1 := hx320_1; have hw320_0 := hx320_0; cases e320; replace hx320_0 := bx_ HB hx320_0; replace hx320_1 := bx_ HB hx320_1; replace hx320_2 := bx_ HB hx320_2; replace hx320_3 := bx_ HB hx320_3; have HR320_3 := Aside0.mk hi320_3; have HC320_3 := Aside0.mk hl320_3; clear hi320_3 hl320_3; replace p320 := eq_true p320; replace q320 := eq_true q320; refine start_ (n := 13) (S := fun w' => w'.cell? ⟨gb315, 0, none⟩ = some (.slice A0_0 l0_0.length c0_0) ∧ w'.cell? ⟨gb315, 1, none⟩ = some (.slice (some ad320) l0_1.length c0_1) ∧ w'.cell? (ad319.add (x6_1).toNat) = some (.int .i64 (rd l1 x6_1)) ∧ w'.cell? (ad320.add (((rd l1 x6_1)).toNat * 4)) = some (.string ((rd_T123 l0_1 (rd l1 x6_1)).f0)) ∧ w'.cell? ⟨(ad320.add (((rd l1 x6_1)).toNat * 4)).block, (ad320.add (((rd l1 x6_1)).toNat * 4)).off + 1, none⟩ = some (.int .i64 ((rd_T123 l0_1 (rd l1 x6_1)).f1)) ∧ w'.cell? ⟨(ad320.add (((rd l1 x6_1)).toNat * 4)).block, (ad320.add (((rd l1 x6_1)).toNat * 4)).off + 2, none⟩ = some (.int .i64 ((rd_T123 l0_1 (rd l1 x6_1)).f2)) ∧ w'.cell? ⟨(ad320.add (((rd l1 x6_1)).toNat * 4)).block, (ad320.add (((rd l1 x6_1)).toNat * 4)).off + 3, none⟩ = some (.slice A320_3 ((rd_T123 l0_1 (rd l1 x6_1)).f3).length c320_3)) (ds := []) _ (by kernel_rfl) rfl rfl ⟨bc_ BK315 0, bc_ BK315 1, (bx_ HB hw319_0), (bx_ HB hw320_0), (bx_ HB hw320_1), (bx_ HB hw320_2), (bx_ HB hw320_3)⟩ (fun hHeld => ?_); refine with_tabW spec_l06Lines.tab5 spec_l06Lines.bits5 (fun HT_ HW_ => ?_)
      generalize wr.drew = w11 at HO_5 BK315 HB HR320_3 hx319_0 hx320_0 hx320_1 hx320_2 hx320_3 hHeld ⊢; refine pu_ 0 14 (bn_ 13 1) ?_; refine pu_ 1 15 (bn_ 13 3) ?_; refine pu_ 3 17 (bn_ 13 11) ?_; refine pu_ 4 18 (bn_ 13 27) ?_; refine pu_ 5 19 (bn_ 13 59) ?_; refine tk7_ 2 16 (bn_ 13 63) ?_; refine tk7_ 6 20 (bn_ 13 127) ?_; refine pu_ 7 21 (bn_ 13 255) ?_; refine pu_ 8 22 (bn_ 13 511) ?_; refine tk7_ 9 23 (bn_ 13 1023) ?_; refine on_ 10 (some 24) (bn_ 13 2047) (fun K hK => ?_); refine value_ (w1 := ?_) (v := ?_) (by rfl) rfl ?_ ?_; rotate_left 2
      ·go_simp; constructor
       ·rfl
       ·rfl
      refine hK.out _ _ ⟨(blk_cell (blk_alloc BK315.out _) 0).trans rfl, (blk_cell (blk_alloc BK315.out _) 1).trans rfl, (World.cell?_alloc_lt _ _ _ (World.block_lt_of_cell? _ _ ((bx_ HB hw319_0)))).trans ((bx_ HB hw319_0)), (World.cell?_alloc_lt _ _ _ (World.block_lt_of_cell? _ _ ((bx_ HB hw320_0)))).trans ((bx_ HB hw320_0)), (World.cell?_alloc_lt _ _ _ (World.block_lt_of_cell? _ _ ((bx_ HB hw320_1)))).trans ((bx_ HB hw320_1)), (World.cell?_alloc_lt _ _ _ (World.block_lt_of_cell? _ _ ((bx_ HB hw320_2)))).trans ((bx_ HB hw320_2)), (World.cell?_alloc_lt _ _ _ (World.block_lt_of_cell? _ _ ((bx_ HB hw320_3)))).trans ((bx_ HB hw320_3))⟩ (fun hHeld => ?_); clear hK K; refine nm_ ?_; refine on_ 11 (some 25) (bn_ 13 4095) (fun K hK => ?_); refine Kd.R_append_step Kd.string (w0 := w) w.heap.size (by rfl) (.tmp 14) (.tmp 24) 46 9 (.string ⟨#[]⟩) 16 rfl Try.underlying46 info9 rfl (by decide) (by omega) u5 x5_1 ((rd_T123 l0_1 (rd l1 x6_1)).f0) [.string ((rd_T123 l0_1 (rd l1 x6_1)).f0)] (fun _ => True) (fun _ => False) rfl rfl ?aP (fun _ hk => hk.elim) ?aF ?aO ?aB ?aS ?aL ?_; (case aP => exact rfl); (case aB => exact q69_); (case aF => exact (fun _ _ => trivial)); (case aO => exact q12_); (case aS => exact (below_size q69_)); (case aL => have := LMc10.out; omega); intro v322 w12 ho hb hg hat; rw [← Ny321.out] at ho; refine ai3_ (bg_ BK315 hg (Kd.R_ne HO_5.out BK315.out (by decide))) (hb) (ho) ?_; clear BK315 HB HO_5; intro BK315 HB HO323; clear ho hb hg hat; refine hK.out _ _ ⟨bc_ BK315 0, bc_ BK315 1, (bx_ HB hw319_0), (bx_ HB hw320_0), (bx_ HB hw320_1), (bx_ HB hw320_2), (bx_ HB hw320_3)⟩ (fun hHeld => ?_); clear hK K; refine nm_ ?_; refine pu_ 12 5 (bn_ 13 8191) ?_; refine dn_ ?_; (try go_wp2); go_roundg k1
      case measure => have := HK1.out; omega
      case rel => exact ⟨(y321), (wrap64 (x6_1 + 1)), q5_, H', ⟨by have := HK1.out; omega⟩, z_ HO323, z_ BK315, ⟨zb_⟩⟩
     ·rw [if_neg c6] at H; have c6b0 : decide (x6_1 < (l1.length : Int)) = false := decide_eq_false c6; clear c6; obtain rfl := Option.some.inj H; go_wp2; go_ret; exact ⟨_, er_, zp_ HO_5, zb_⟩

/-! ### spec_l06Text: function 79 -/
def spec_l06Text.f (k : Nat) (l0_0 : List (List Int)) (l0_1 : List (S123)) (a1 : Int) : Option (List ByteArray) := (spec_l06Closure.f k l0_0 l0_1 a1).bind fun t325 => ((spec_l06Places.f k l0_0 l0_1 t325).bind fun t328 => ((spec_l06Lines.f k l0_0 l0_1 t328).bind fun t331 => (some t331)))
theorem spec_l06Text.mono : ∀ a0 a1 a2 k, LeO (spec_l06Text.f k a0 a1 a2) (spec_l06Text.f (k + 1) a0 a1 a2) := by
  intro a0 a1 a2 k; unfold spec_l06Text.f
  repeat' with_reducible first | exact LeO.refl _ | exact LeO.none _ | refine LeO.ite ?_ ?_ | refine LeO.bind ?_ (fun _ => ?_) | exact spec_l06Closure.mono _ _ _ _ | exact spec_l06Lines.mono _ _ _ _ | exact spec_l06Places.mono _ _ _ _
def spec_l06Text.T1 : Bool × List (List Nat × List Nat) := (true, [([], []), ([], []), ([], []), ([], []), ([2, 3], [2, 3]), ([1, 4, 4], [1, 4]), ([0, 5, 5], [0, 5]), ([6, 6, 0, 1, 2, 3, 4, 5, 6], [6])])
def spec_l06Text.B1 : List Nat := [0, 0, 0, 0, 12, 30, 63, 127]
theorem spec_l06Text.tab1 : rtab .any (opsOf Try.f79 1) = spec_l06Text.T1 := by kernel_rfl
theorem spec_l06Text.bits1 : waitsOk spec_l06Text.T1.2 spec_l06Text.B1 = true := by kernel_rfl
set_option maxHeartbeats 8000000 in
set_option maxRecDepth 100000 in
theorem spec_l06Text.calls (k : Nat) (A0_0 : Option Addr) (c0_0 : Nat) (l0_0 : List (List Int)) (A0_1 : Option Addr) (c0_1 : Nat) (l0_1 : List (S123)) (a1 : Int) (r : List ByteArray) (w : World) (hr0_0 : Kd.C (Kd.slice 3 (Kd.int .i64)) w A0_0 l0_0.length l0_0) (hc0_0 : l0_0.length ≤ c0_0) (hr0_1 : Kd.C k123 w A0_1 l0_1.length l0_1) (hc0_1 : l0_1.length ≤ c0_1) (h : spec_l06Text.f k l0_0 l0_1 a1 = some r) :
    Calls Try.prog 79 #[.agg #[.slice A0_0 l0_0.length c0_0, .slice A0_1 l0_1.length c0_1], .int .i64 a1] w fun e w' => ∃ v0_ : Value, e = .returned (v0_) ∧ Kd.R Kd.string 9 w' w.heap.size (fun _ => True) v0_ r ∧ Below w.heap.size w w' := by
  have hu32 := Try.underlying32; have HR0_0 := Aside0.mk hr0_0; have HC0_0 := Aside0.mk hc0_0; clear hr0_0 hc0_0; have HR0_1 := Aside0.mk hr0_1; have HC0_1 := Aside0.mk hc0_1; clear hr0_1 hc0_1; have HB := Aside0.mk (Below.refl w.heap.size w); have H : ((spec_l06Closure.f k l0_0 l0_1 a1).bind fun t325 => ((spec_l06Places.f k l0_0 l0_1 t325).bind fun t328 => ((spec_l06Lines.f k l0_0 l0_1 t328).bind fun t331 => (some t331)))) = some r := h; clear h; replace H := Option.bind_eq_some_iff.mp H; obtain ⟨t325, A30, H⟩ := H; (try dsimp only at H); have A3 := Aside0.mk A30; clear A30; replace H := Option.bind_eq_some_iff.mp H; obtain ⟨t328, A40, H⟩ := H; (try dsimp only at H); have A4 := Aside0.mk A40; clear A40; replace H := Option.bind_eq_some_iff.mp H; obtain ⟨t331, A50, H⟩ := H; (try dsimp only at H); have A5 := Aside0.mk A50; clear A50; obtain rfl := Option.some.inj H; go_enter Try.func79, Try.ntmps79; (try go_wp2_with (first | ((with_reducible refine gate_dst (N := 2) rfl ?_); refine be_ 2 #[.slice A0_0 l0_0.length c0_0, .slice A0_1 l0_1.length c0_1] 32 ?_; intro gb324 hg w6 hbox hb; refine ai4_ (below_step q0_ hb) (hbox) (gw_ hg q0_) (gw_ hg q0_) ?_; clear HB; intro HB BK324 GW324 GE324; clear hb hbox hg))); refine ai2_ (blk_drew BK324.out) (below_drew1 HB.out) ?_; clear BK324 HB; intro BK324 HB; refine start_ (n := 8) (S := fun w' => w'.cell? ⟨gb324, 0, none⟩ = some (.slice A0_0 l0_0.length c0_0) ∧ w'.cell? ⟨gb324, 1, none⟩ = some (.slice A0_1 l0_1.length c0_1)) (ds := []) _ (by kernel_rfl) rfl rfl ⟨bc_ BK324 0, bc_ BK324 1⟩ (fun hHeld => ?_); refine with_tabW spec_l06Text.tab1 spec_l06Text.bits1 (fun HT_ HW_ => ?_)
  generalize w6.drew = w7 at BK324 HB hHeld ⊢; refine pure_ (i := 3) (N := some 8) (v := ?_) (a' := ?_) #[false, false, false, true, false, false, false, false] rfl rfl (any_of HT_.out (by kernel_rfl)) (fun _ _ _ h => h) (Or.inl ⟨by rfl, ?_⟩) ?_ ?_; rotate_left
  · intro w'; go_simp; with_reducible rfl
  rotate_left
  · simp only [Act.put, List.setIfInBounds_toArray, List.set_cons_zero, List.set_cons_succ, i64_w, i32_w]; rfl
  refine take_ (i := 0) (N := some 5) (v := ?_) (a' := ?_) #[true, false, false, true, false, false, false, false] rfl rfl (take_ofW HT_.out HW_.out (by kernel_rfl)) (fun _ _ _ h => h) (Or.inl ⟨by rfl, ?_⟩) hHeld ?_ ?_; rotate_left
  · rintro w' ⟨s0, s1⟩; go_simp; with_reducible rfl
  rotate_left
  · simp only [Act.put, List.setIfInBounds_toArray, List.set_cons_zero, List.set_cons_succ, i64_w, i32_w]; rfl
  refine take_ (i := 1) (N := some 6) (v := ?_) (a' := ?_) #[true, true, false, true, false, false, false, false] rfl rfl (take_ofW HT_.out HW_.out (by kernel_rfl)) (fun _ _ _ h => h) (Or.inl ⟨by rfl, ?_⟩) hHeld ?_ ?_; rotate_left
  · rintro w' ⟨s0, s1⟩; go_simp; with_reducible rfl
  rotate_left
  · simp only [Act.put, List.setIfInBounds_toArray, List.set_cons_zero, List.set_cons_succ, i64_w, i32_w]; rfl
  refine take_ (i := 2) (N := some 7) (v := ?_) (a' := ?_) #[true, true, true, true, false, false, false, false] rfl rfl (take_ofW HT_.out HW_.out (by kernel_rfl)) (fun _ _ _ h => h) (Or.inl ⟨by rfl, ?_⟩) hHeld ?_ ?_; rotate_left
  · rintro w' ⟨s0, s1⟩; go_simp; with_reducible rfl
  rotate_left
  · simp only [Act.put, List.setIfInBounds_toArray, List.set_cons_zero, List.set_cons_succ, i64_w, i32_w]; rfl
  refine on_ 4 (some 9) (bn_ 8 31) (fun K hK => ?_); refine gs_ Try.func105 #[.agg #[.slice A0_0 l0_0.length c0_0, .slice A0_1 l0_1.length c0_1], .int .i64 a1] ?_; (with_reducible refine (spec_l06Closure.calls k _ _ l0_0 _ _ l0_1 a1 t325 _ ?side1 ?side2 ?side3 ?side4 A3.out).mono ?_); (case side1 => exact q4_); (case side2 => exact HC0_0.out); (case side3 => exact q9_); (case side4 => exact HC0_1.out); rintro e w8 ⟨v326, rfl, ho0, hb⟩; refine ⟨_, rfl, ?_⟩; refine ai3_ (Kd.R_lower ho0 (below_size q48_)) (bb_ BK324 hb) (below_step q48_ hb) ?_; clear BK324 HB; intro HO327 BK324 HB; (try clear hb); (try clear hb2); (try clear hk); (try clear hi); (try clear ho0); obtain ⟨Ao9, co9, eo9⟩ := Kd.R_slice HO327.out; (first | subst eo9 | (injection eo9 with f1_ f2_ f3_; have f4_ := f1_.symm; have f5_ := f3_.symm; clear f1_ f2_ f3_; subst f4_; subst f5_)); refine hK.out _ _ ⟨bc_ BK324 0, bc_ BK324 1⟩ (fun hHeld => ?_); clear hK K; refine norm_ (a' := ?_) ?_ ?_; rotate_left
  · show Act.put _ (some 9) _ = _
    simp only [Act.put, List.setIfInBounds_toArray, List.set_cons_zero, List.set_cons_succ, i64_w, i32_w]; rfl
  refine on_ 5 (some 10) (bn_ 8 63) (fun K hK => ?_); refine gs_ Try.func104 #[.agg #[.slice A0_0 l0_0.length c0_0, .slice A0_1 l0_1.length c0_1], .slice Ao9 t325.length co9] ?_; (with_reducible refine (spec_l06Places.calls k _ _ l0_0 _ _ l0_1 _ _ t325 t328 _ ?side1 ?side2 ?side3 ?side4 ?side5 ?side6 A4.out).mono ?_); (case side1 => exact q4_); (case side2 => exact HC0_0.out); (case side3 => exact q9_); (case side4 => exact HC0_1.out); (case side5 => exact (by repeat (first | exact (Kd.R_reads' HO327.out).2.2 | (with_reducible refine Kd.C_alloc ?_ _) | (with_reducible refine Kd.C_drewN ?_ _) | (with_reducible refine Kd.C_drew ?_)))); (case side6 => exact (Kd.R_reads' HO327.out).2.1); rintro e w10 ⟨v329, rfl, ho0, hb⟩; refine ⟨_, rfl, ?_⟩; refine ai4_ (Kd.R_below (zp_ HO327) hb) (Kd.R_lower ho0 (below_size q48_)) (bb_ BK324 hb) (below_step q48_ hb) ?_; clear HO327 BK324 HB; intro HO327 HO330 BK324 HB; (try clear hb); (try clear hb2); (try clear hk); (try clear hi); (try clear ho0); obtain ⟨Ao11, co11, eo11⟩ := Kd.R_slice HO330.out; (first | subst eo11 | (injection eo11 with f1_ f2_ f3_; have f4_ := f1_.symm; have f5_ := f3_.symm; clear f1_ f2_ f3_; subst f4_; subst f5_)); refine hK.out _ _ ⟨bc_ BK324 0, bc_ BK324 1⟩ (fun hHeld => ?_); clear hK K; refine norm_ (a' := ?_) ?_ ?_; rotate_left
  · show Act.put _ (some 10) _ = _
    simp only [Act.put, List.setIfInBounds_toArray, List.set_cons_zero, List.set_cons_succ, i64_w, i32_w]; rfl
  refine on_ 6 (some 11) (bn_ 8 127) (fun K hK => ?_); refine gs_ Try.func113 #[.agg #[.slice A0_0 l0_0.length c0_0, .slice A0_1 l0_1.length c0_1], .slice Ao11 t328.length co11] ?_; (with_reducible refine (spec_l06Lines.calls k _ _ l0_0 _ _ l0_1 _ _ t328 t331 _ ?side1 ?side2 ?side3 ?side4 ?side5 ?side6 A5.out).mono ?_); (case side1 => exact q4_); (case side2 => exact HC0_0.out); (case side3 => exact q9_); (case side4 => exact HC0_1.out); (case side5 => exact (by repeat (first | exact (Kd.R_reads' HO330.out).2.2 | (with_reducible refine Kd.C_alloc ?_ _) | (with_reducible refine Kd.C_drewN ?_ _) | (with_reducible refine Kd.C_drew ?_)))); (case side6 => exact (Kd.R_reads' HO330.out).2.1); rintro e w12 ⟨v332, rfl, ho0, hb⟩; refine ⟨_, rfl, ?_⟩; refine ai5_ (Kd.R_below (zp_ HO327) hb) (Kd.R_below (zp_ HO330) hb) (Kd.R_lower ho0 (below_size q48_)) (bb_ BK324 hb) (below_step q48_ hb) ?_; clear HO327 HO330 BK324 HB; intro HO327 HO330 HO333 BK324 HB; (try clear hb); (try clear hb2); (try clear hk); (try clear hi); (try clear ho0); refine hK.out _ _ ⟨bc_ BK324 0, bc_ BK324 1⟩ (fun hHeld => ?_); clear hK K; refine norm_ (a' := ?_) ?_ ?_; rotate_left
  · show Act.put _ (some 11) _ = _
    simp only [Act.put, List.setIfInBounds_toArray, List.set_cons_zero, List.set_cons_succ, i64_w, i32_w]; rfl
  refine pure_ (i := 7) (N := some 4) (v := ?_) (a' := ?_) #[true, true, true, true, true, true, true, true] rfl rfl (any_of HT_.out (by kernel_rfl)) (fun _ _ _ h => h) (Or.inl ⟨by rfl, ?_⟩) ?_ ?_; rotate_left
  · intro w'; go_simp; with_reducible rfl
  rotate_left
  · simp only [Act.put, List.setIfInBounds_toArray, List.set_cons_zero, List.set_cons_succ, i64_w, i32_w]; rfl
  refine dn_ ?_; (try go_wp2); go_ret; exact ⟨_, er_, zp_ HO333, zb_⟩

/-! ### spec_l08Sum: function 58 -/
def spec_l08Sum.f (k : Nat) (l0_0 : List (List Int)) (l0_1 : List (S123)) (a1 : Int) : Option (Int) := (spec_l06Text.f k l0_0 l0_1 a1).bind fun t335 => ((spec_JoinLines.f k t335).bind fun bt338 => ((spec_SumOf.f k bt338.1).bind fun t340 => (some t340)))
theorem spec_l08Sum.mono : ∀ a0 a1 a2 k, LeO (spec_l08Sum.f k a0 a1 a2) (spec_l08Sum.f (k + 1) a0 a1 a2) := by
  intro a0 a1 a2 k; unfold spec_l08Sum.f
  repeat' with_reducible first | exact LeO.refl _ | exact LeO.none _ | refine LeO.ite ?_ ?_ | refine LeO.bind ?_ (fun _ => ?_) | exact spec_JoinLines.mono _ _ | exact spec_SumOf.mono _ _ | exact spec_l06Text.mono _ _ _ _
set_option maxHeartbeats 8000000 in
set_option maxRecDepth 100000 in
theorem spec_l08Sum.calls (k : Nat) (A0_0 : Option Addr) (c0_0 : Nat) (l0_0 : List (List Int)) (A0_1 : Option Addr) (c0_1 : Nat) (l0_1 : List (S123)) (a1 : Int) (r : Int) (w : World) (hr0_0 : Kd.C (Kd.slice 3 (Kd.int .i64)) w A0_0 l0_0.length l0_0) (hc0_0 : l0_0.length ≤ c0_0) (hr0_1 : Kd.C k123 w A0_1 l0_1.length l0_1) (hc0_1 : l0_1.length ≤ c0_1) (h : spec_l08Sum.f k l0_0 l0_1 a1 = some r) :
    Calls Try.prog 58 #[.agg #[.slice A0_0 l0_0.length c0_0, .slice A0_1 l0_1.length c0_1], .int .i64 a1] w fun e w' => e = .returned (.int .u32 r) ∧ Below w.heap.size w w' := by
  have hu32 := Try.underlying32; have HR0_0 := Aside0.mk hr0_0; have HC0_0 := Aside0.mk hc0_0; clear hr0_0 hc0_0; have HR0_1 := Aside0.mk hr0_1; have HC0_1 := Aside0.mk hc0_1; clear hr0_1 hc0_1; have HB := Aside0.mk (Below.refl w.heap.size w); have H : ((spec_l06Text.f k l0_0 l0_1 a1).bind fun t335 => ((spec_JoinLines.f k t335).bind fun bt338 => ((spec_SumOf.f k bt338.1).bind fun t340 => (some t340)))) = some r := h; clear h; replace H := Option.bind_eq_some_iff.mp H; obtain ⟨t335, A30, H⟩ := H; (try dsimp only at H); have A3 := Aside0.mk A30; clear A30; replace H := Option.bind_eq_some_iff.mp H; obtain ⟨⟨t338, t339⟩, A40, H⟩ := H; (try dsimp only at H); have A4 := Aside0.mk A40; clear A40; replace H := Option.bind_eq_some_iff.mp H; obtain ⟨t340, A50, H⟩ := H; (try dsimp only at H); have A5 := Aside0.mk A50; clear A50; obtain rfl := Option.some.inj H; go_enter Try.func58, Try.ntmps58; go_wp2_with (first | ((with_reducible refine gate_dst (N := 2) rfl ?_); refine be_ 2 #[.slice A0_0 l0_0.length c0_0, .slice A0_1 l0_1.length c0_1] 32 ?_; intro gb334 hg w6 hbox hb; refine ai4_ (below_step q0_ hb) (hbox) (gw_ hg q0_) (gw_ hg q0_) ?_; clear HB; intro HB BK334 GW334 GE334; clear hb hbox hg; obtain ⟨hcz7_0, hcz7_1, hfz7_0, hfz7_1⟩ := bk2_ BK334.out) | ((with_reducible refine gate_callee (f := 79) rfl ?_); refine gl_ 10 Try.func79 #[.agg #[.slice A0_0 l0_0.length c0_0, .slice A0_1 l0_1.length c0_1], .int .i64 a1] ?_; (with_reducible refine (spec_l06Text.calls k _ _ l0_0 _ _ l0_1 a1 t335 _ ?side1 ?side2 ?side3 ?side4 A3.out).mono ?_); (case side1 => exact q4_); (case side2 => exact HC0_0.out); (case side3 => exact q9_); (case side4 => exact HC0_1.out); rintro e w8 ⟨v336, rfl, ho0, hb⟩; refine ⟨_, rfl, ?_⟩; refine ai3_ (Kd.R_lower ho0 (below_size zb_)) (bb_ BK334 hb) (below_step zb_ hb) ?_; clear BK334 HB; intro HO337 BK334 HB; (try clear hb); (try clear hb2); (try clear hk); (try clear hi); (try clear ho0); obtain ⟨Ao9, co9, eo9⟩ := Kd.R_slice HO337.out; subst eo9) | ((with_reducible refine gate_callee (f := 41) rfl ?_); refine gl_ 11 Try.func41 #[.slice Ao9 t335.length co9] ?_; (with_reducible refine (spec_JoinLines.calls k _ _ t335 t338 t339 _ ?side1 ?side2 A4.out).mono ?_); (case side1 => exact (by repeat (first | exact (Kd.R_reads' HO337.out).2.2 | (with_reducible refine Kd.C_alloc ?_ _) | (with_reducible refine Kd.C_drewN ?_ _) | (with_reducible refine Kd.C_drew ?_)))); (case side2 => exact (Kd.R_reads' HO337.out).2.1); rintro e w10 ⟨rfl, hb⟩; refine ⟨_, rfl, ?_⟩; refine ai3_ (Kd.R_below (zp_ HO337) hb) (bb_ BK334 hb) (below_step zb_ hb) ?_; clear HO337 BK334 HB; intro HO337 BK334 HB; (try clear hb); (try clear hb2); (try clear hk); (try clear hi)) | ((with_reducible refine gate_callee (f := 42) rfl ?_); refine gl_ 15 Try.func42 #[.string t338] ?_; (with_reducible refine (spec_SumOf.calls k t338 t340 _ A5.out).mono ?_); rintro e w' ⟨rfl, ⟨nd, rfl⟩⟩; refine ⟨_, rfl, ?_⟩)); go_ret; exact ⟨er_, zb_⟩

end Go.Proofs.Ytmodgiingohphaa.PFnExactWeaveText
-- (flat)
-- (thin)
