-- Made by a program (the kit's print with additions of this session: wip/tools/patch_print.py, ext.py).
-- (turned)
import Derived.Test.YtmodgiingohphaaPFnExactAddVersionx2
namespace Go.Proofs.Ytmodgiingohphaa.PFnExactAddVersion
open Go.RowKit Go.Proofs.YtmodgiingohphaaW.PrintWords Go.Proofs.YtmodgiingohphaaW.PrintLast Go.Proofs.YtmodgiingohphaaW.PrintMore
attribute [local go_sem] max2_int min2_int max_two min_two max_three min_three max_four min_four   -- for this text's walks alone
set_option linter.unusedVariables false
set_option linter.unusedSimpArgs false

/-! ### laws_eqWeave: function 12 -/
def laws_eqWeave.f (k : Nat) (l0_0 : List (List Int)) (l0_1 : List (S123)) (l1_0 : List (List Int)) (l1_1 : List (S123)) : Option (Bool) := (laws_eqIntSS.f k l0_0 l1_0).bind fun t162 => (if t162 = true then ((laws_eqBodyS.f k l0_1 l1_1).bind fun t163 => (if t163 = true then (some true) else (some false))) else (some false))
theorem laws_eqWeave.mono : ∀ a0 a1 a2 a3 k, LeO (laws_eqWeave.f k a0 a1 a2 a3) (laws_eqWeave.f (k + 1) a0 a1 a2 a3) := by
  intro a0 a1 a2 a3 k; unfold laws_eqWeave.f
  repeat' with_reducible first | exact LeO.refl _ | exact LeO.none _ | refine LeO.ite ?_ ?_ | refine LeO.bind ?_ (fun _ => ?_) | apply laws_eqBodyS.mono | apply laws_eqIntSS.mono
set_option maxHeartbeats 8000000 in
set_option maxRecDepth 100000 in
theorem laws_eqWeave.calls (k : Nat) (A0_0 : Option Addr) (c0_0 : Nat) (l0_0 : List (List Int)) (A0_1 : Option Addr) (c0_1 : Nat) (l0_1 : List (S123)) (A1_0 : Option Addr) (c1_0 : Nat) (l1_0 : List (List Int)) (A1_1 : Option Addr) (c1_1 : Nat) (l1_1 : List (S123)) (r : Bool) (w : World) (hr0_0 : Kd.C (Kd.slice 3 (Kd.int .i64)) w A0_0 l0_0.length l0_0) (hc0_0 : l0_0.length ≤ c0_0) (hr0_1 : Kd.C k123 w A0_1 l0_1.length l0_1) (hc0_1 : l0_1.length ≤ c0_1) (hr1_0 : Kd.C (Kd.slice 3 (Kd.int .i64)) w A1_0 l1_0.length l1_0) (hc1_0 : l1_0.length ≤ c1_0) (hr1_1 : Kd.C k123 w A1_1 l1_1.length l1_1) (hc1_1 : l1_1.length ≤ c1_1) (h : laws_eqWeave.f k l0_0 l0_1 l1_0 l1_1 = some r) :
    Calls Try.prog 12 #[.agg #[.slice A0_0 l0_0.length c0_0, .slice A0_1 l0_1.length c0_1], .agg #[.slice A1_0 l1_0.length c1_0, .slice A1_1 l1_1.length c1_1]] w fun e w' => e = .returned (.bool r) ∧ Below w.heap.size w w' := by
  have hu32 := Try.underlying32; have HR0_0 := Aside0.mk hr0_0; have HC0_0 := Aside0.mk hc0_0; clear hr0_0 hc0_0; have HR0_1 := Aside0.mk hr0_1; have HC0_1 := Aside0.mk hc0_1; clear hr0_1 hc0_1; have HR1_0 := Aside0.mk hr1_0; have HC1_0 := Aside0.mk hc1_0; clear hr1_0 hc1_0; have HR1_1 := Aside0.mk hr1_1; have HC1_1 := Aside0.mk hc1_1; clear hr1_1 hc1_1; have HB := Aside0.mk (Below.refl w.heap.size w); have H := h; unfold laws_eqWeave.f at H; clear h; replace H := Option.bind_eq_some_iff.mp H; obtain ⟨t162, A30, H⟩ := H; (try dsimp only at H); have A3 := Aside0.mk A30; clear A30; by_cases c4 : t162 = true
  · subst c4; rw [if_pos rfl] at H; replace H := Option.bind_eq_some_iff.mp H; obtain ⟨t163, A50, H⟩ := H; (try dsimp only at H); have A5 := Aside0.mk A50; clear A50; by_cases c6 : t163 = true
    ·subst c6; rw [if_pos rfl] at H; obtain rfl := Option.some.inj H; go_enter Try.func12, Try.ntmps12; go_wp2_with (first | ((with_reducible refine gate_dst (N := 2) rfl ?_); refine be_ 2 #[.slice A0_0 l0_0.length c0_0, .slice A0_1 l0_1.length c0_1] 32 ?_; intro gb160 hg w7 hbox hb; refine ai4_ (below_step q1_ hb) (hbox) (gw_ hg q1_) (gw_ hg q1_) ?_; clear HB; intro HB BK160 GW160 GE160; clear hb hbox hg) | ((with_reducible refine gate_dst (N := 3) rfl ?_); refine be_ 3 #[.slice A1_0 l1_0.length c1_0, .slice A1_1 l1_1.length c1_1] 32 ?_; intro gb161 hg w8 hbox hb; refine ai7_ (bb_ BK160 hb) (below_step q36_ hb) (hbox) (gw_ hg q36_) (gw_ hg q36_) (n1_ hg BK160) (n2_ hg BK160) ?_; clear BK160 HB; intro BK160 HB BK161 GW161 GE161 NB160_161 NB161_160; clear hb hbox hg; have hnb9 := NB160_161.out; have hnc9 := NB161_160.out; obtain ⟨hcz10_0, hcz10_1, hfz10_0, hfz10_1⟩ := bk2_ BK160.out; obtain ⟨hcz11_0, hcz11_1, hfz11_0, hfz11_1⟩ := bk2_ BK161.out) | ((with_reducible refine gate_callee (f := 47) rfl ?_); refine gl_ 9 Try.func47 #[.slice A0_0 l0_0.length c0_0, .slice A1_0 l1_0.length c1_0] ?_; (with_reducible refine (laws_eqIntSS.calls k _ _ l0_0 _ _ l1_0 true _ ?side1 ?side2 ?side3 ?side4 A3.out).mono ?_); (case side1 => exact q7_); (case side2 => exact HC0_0.out); (case side3 => exact cb_ HR1_0); (case side4 => exact HC1_0.out); rintro e w' ⟨rfl, ⟨nd, rfl⟩⟩; refine ⟨_, rfl, ?_⟩) | ((with_reducible refine gate_callee (f := 48) rfl ?_); refine gl_ 15 Try.func48 #[.slice A0_1 l0_1.length c0_1, .slice A1_1 l1_1.length c1_1] ?_; (with_reducible refine (laws_eqBodyS.calls k _ _ l0_1 _ _ l1_1 true _ ?side1 ?side2 ?side3 ?side4 A5.out).mono ?_); (case side1 => exact cqq45_ HR0_1); (case side2 => exact HC0_1.out); (case side3 => exact cqq45_ HR1_1); (case side4 => exact HC1_1.out); rintro e w12 ⟨rfl, hb⟩; refine ⟨_, rfl, ?_⟩; refine ai3_ (bb_ BK160 hb) (bb_ BK161 hb) (below_step q45_ hb) ?_; clear BK160 BK161 HB; intro BK160 BK161 HB)); go_ret; exact ⟨er_, zb_⟩
    ·replace c6 := Bool.eq_false_iff.mpr c6; subst c6; rw [if_neg nf_] at H; obtain rfl := Option.some.inj H; go_enter Try.func12, Try.ntmps12; go_wp2_with (first | ((with_reducible refine gate_dst (N := 2) rfl ?_); refine be_ 2 #[.slice A0_0 l0_0.length c0_0, .slice A0_1 l0_1.length c0_1] 32 ?_; intro gb160 hg w13 hbox hb; refine ai4_ (below_step q1_ hb) (hbox) (gw_ hg q1_) (gw_ hg q1_) ?_; clear HB; intro HB BK160 GW160 GE160; clear hb hbox hg) | ((with_reducible refine gate_dst (N := 3) rfl ?_); refine be_ 3 #[.slice A1_0 l1_0.length c1_0, .slice A1_1 l1_1.length c1_1] 32 ?_; intro gb161 hg w14 hbox hb; refine ai7_ (bb_ BK160 hb) (below_step q36_ hb) (hbox) (gw_ hg q36_) (gw_ hg q36_) (n1_ hg BK160) (n2_ hg BK160) ?_; clear BK160 HB; intro BK160 HB BK161 GW161 GE161 NB160_161 NB161_160; clear hb hbox hg; have hnb15 := NB160_161.out; have hnc15 := NB161_160.out; obtain ⟨hcz16_0, hcz16_1, hfz16_0, hfz16_1⟩ := bk2_ BK160.out; obtain ⟨hcz17_0, hcz17_1, hfz17_0, hfz17_1⟩ := bk2_ BK161.out) | ((with_reducible refine gate_callee (f := 47) rfl ?_); refine gl_ 9 Try.func47 #[.slice A0_0 l0_0.length c0_0, .slice A1_0 l1_0.length c1_0] ?_; (with_reducible refine (laws_eqIntSS.calls k _ _ l0_0 _ _ l1_0 true _ ?side1 ?side2 ?side3 ?side4 A3.out).mono ?_); (case side1 => exact q7_); (case side2 => exact HC0_0.out); (case side3 => exact cb_ HR1_0); (case side4 => exact HC1_0.out); rintro e w' ⟨rfl, ⟨nd, rfl⟩⟩; refine ⟨_, rfl, ?_⟩) | ((with_reducible refine gate_callee (f := 48) rfl ?_); refine gl_ 15 Try.func48 #[.slice A0_1 l0_1.length c0_1, .slice A1_1 l1_1.length c1_1] ?_; (with_reducible refine (laws_eqBodyS.calls k _ _ l0_1 _ _ l1_1 false _ ?side1 ?side2 ?side3 ?side4 A5.out).mono ?_); (case side1 => exact cqq45_ HR0_1); (case side2 => exact HC0_1.out); (case side3 => exact cqq45_ HR1_1); (case side4 => exact HC1_1.out); rintro e w18 ⟨rfl, hb⟩; refine ⟨_, rfl, ?_⟩; refine ai3_ (bb_ BK160 hb) (bb_ BK161 hb) (below_step q45_ hb) ?_; clear BK160 BK161 HB; intro BK160 BK161 HB)); go_ret; exact ⟨er_, zb_⟩
  · replace c4 := Bool.eq_false_iff.mpr c4; subst c4; rw [if_neg nf_] at H; obtain rfl := Option.some.inj H; go_enter Try.func12, Try.ntmps12; go_wp2_with (first | ((with_reducible refine gate_dst (N := 2) rfl ?_); refine be_ 2 #[.slice A0_0 l0_0.length c0_0, .slice A0_1 l0_1.length c0_1] 32 ?_; intro gb160 hg w19 hbox hb; refine ai4_ (below_step q1_ hb) (hbox) (gw_ hg q1_) (gw_ hg q1_) ?_; clear HB; intro HB BK160 GW160 GE160; clear hb hbox hg) | ((with_reducible refine gate_dst (N := 3) rfl ?_); refine be_ 3 #[.slice A1_0 l1_0.length c1_0, .slice A1_1 l1_1.length c1_1] 32 ?_; intro gb161 hg w20 hbox hb; refine ai7_ (bb_ BK160 hb) (below_step q36_ hb) (hbox) (gw_ hg q36_) (gw_ hg q36_) (n1_ hg BK160) (n2_ hg BK160) ?_; clear BK160 HB; intro BK160 HB BK161 GW161 GE161 NB160_161 NB161_160; clear hb hbox hg; have hnb21 := NB160_161.out; have hnc21 := NB161_160.out; obtain ⟨hcz22_0, hcz22_1, hfz22_0, hfz22_1⟩ := bk2_ BK160.out; obtain ⟨hcz23_0, hcz23_1, hfz23_0, hfz23_1⟩ := bk2_ BK161.out) | ((with_reducible refine gate_callee (f := 47) rfl ?_); refine gl_ 9 Try.func47 #[.slice A0_0 l0_0.length c0_0, .slice A1_0 l1_0.length c1_0] ?_; (with_reducible refine (laws_eqIntSS.calls k _ _ l0_0 _ _ l1_0 false _ ?side1 ?side2 ?side3 ?side4 A3.out).mono ?_); (case side1 => exact q7_); (case side2 => exact HC0_0.out); (case side3 => exact cb_ HR1_0); (case side4 => exact HC1_0.out); rintro e w' ⟨rfl, ⟨nd, rfl⟩⟩; refine ⟨_, rfl, ?_⟩)); go_ret; exact ⟨er_, zb_⟩

/-! ### laws_markIntSS: function 53 -/
open Go.Proofs.YtmodgiingohphaaH in
set_option maxHeartbeats 8000000 in
set_option maxRecDepth 100000 in
theorem laws_markIntSS.row (Inv : World → Prop) (P : Nat → Prop) (hset : ∀ (W : World) (g j : Nat) (x : Int) (cs : Array Value), Inv W → P g → W.heap[g]? = some (.cells cs 3 (0, 0)) → Inv (W.setCell ⟨g, j, none⟩ (.int .i64 x))) (s : Value) (q : Nat) (hrow : ∀ W, Inv W → RowN 3 P W s q) (a1 : Int) (h0 : 0 ≤ a1) (hb : a1 + q ≤ 4611686018427387904) (w : World) (hw : Inv w) :
    Calls Try.prog 28 #[s, .int .i64 a1] w fun e w' => e = .returned (.int .i64 (a1 + q)) ∧ Inv w' := by
  obtain ⟨A_, c_, hs, hq, hr⟩ := hrow w hw; subst hs; have HI := Aside0.mk hw; have HROW := Aside0.mk hrow; have HSET := Aside0.mk hset; have HR := Aside0.mk hr; clear hw hrow hset hr; go_enter Try.func28, Try.ntmps28; go_wp2; go_loopg [1, 5] q (fun kq v1 v5 w' => ∃ i : Nat, i + kq = q ∧ v1 = .int .i64 (a1 + i) ∧ v5 = .int .i64 i ∧ Aside0 (Inv w'))
  case atStart => exact ⟨0, by omega, by simp, by simp, HI⟩
  case round =>
    obtain ⟨i, hi, rfl, rfl, HJ⟩ := hrel
    cases gk with
    | zero =>
     have hlt : ¬ (i < q) := (by omega); go_wp2; go_ret; exact ⟨by first | rfl | (simp; done) | (rw [show (i : Int) = q from by omega]; rfl), HJ.out⟩
    | succ k1 =>
     have hlt : i < q := (by omega); obtain ⟨A2, c2, hs2, _, hr2⟩ := HROW.out wr HJ.out; injection hs2 with e1 _ e2
     subst e1; obtain ⟨g, cs, hA, hP, hblk, hsz⟩ := hr2 (by omega); subst hA; obtain ⟨u0, hc⟩ : ∃ u0, wr.cell? ⟨g, i, none⟩ = some u0 := ⟨_, (blk_cell hblk i).trans (Array.getElem?_eq_getElem (by omega))⟩; have hf : wr.frozen? ⟨g, i, none⟩ = false := blk_frozen hblk i; have HN := Aside0.mk (HSET.out wr g i (a1 + i) cs HJ.out hP hblk); clear hr2 hblk hsz hP e2; go_wp2; go_roundg k1
     case measure => omega
     case rel => exact ⟨i + 1, by omega, by go_num, by go_num, HN⟩
open Go.Proofs.YtmodgiingohphaaH in
set_option maxHeartbeats 8000000 in
set_option maxRecDepth 100000 in
theorem laws_markIntSS.rows (Inv : World → Prop) (P : Nat → Prop) (hset : ∀ (W : World) (g j : Nat) (x : Int) (cs : Array Value), Inv W → P g → W.heap[g]? = some (.cells cs 3 (0, 0)) → Inv (W.setCell ⟨g, j, none⟩ (.int .i64 x))) (s : Value) (ns : List Nat) (hrow : ∀ W, Inv W → RowsN 45 1 0 3 P W s ns) (a1 : Int) (h0 : 0 ≤ a1) (hb : a1 + sumN ns ≤ 4611686018427387904) (w : World) (hw : Inv w) :
    Calls Try.prog 53 #[s, .int .i64 a1] w fun e w' => e = .returned (.int .i64 (a1 + sumN ns)) ∧ Inv w' := by
  obtain ⟨A_, c_, hs, hq, hr⟩ := hrow w hw; subst hs; have HI := Aside0.mk hw; have HROW := Aside0.mk hrow; have HSET := Aside0.mk hset; have HR := Aside0.mk hr; clear hw hrow hset hr; go_enter Try.func53, Try.ntmps53; go_wp2; go_loopg [1, 5] ns.length (fun kq v1 v5 w' => ∃ i : Nat, i + kq = ns.length ∧ v1 = .int .i64 (a1 + sumN (ns.take i)) ∧ v5 = .int .i64 i ∧ Aside0 (Inv w'))
  case atStart => exact ⟨0, by omega, by simp [sumN], by simp, HI⟩
  case round =>
    obtain ⟨i, hi, rfl, rfl, HJ⟩ := hrel; have hle := sumN_le ns i
    cases gk with
    | zero =>
     have hlt : ¬ (i < ns.length) := (by omega); have e0 : ns.take i = ns := List.take_of_length_le (by omega); have E0 := Aside0.mk e0; clear e0; go_wp2; go_ret; exact ⟨by first | rfl | (rw [E0.out]; first | rfl | (simp; done)) | (simp only [E0.out]; first | rfl | (simp; done)), HJ.out⟩
    | succ k1 =>
     have hlt : i < ns.length := (by omega); obtain ⟨A2, c2, hs2, _, hr2⟩ := HROW.out wr HJ.out; injection hs2 with e1 _ e2
     subst e1; obtain ⟨g, cs, hA, hP, hblk, hsz, hin⟩ := hr2 (by omega); subst hA; obtain ⟨s1, hs1, hrn⟩ := hin i ns[i] (List.getElem?_eq_getElem hlt); have hc : wr.cell? ⟨g, i, none⟩ = some s1 := (blk_cell hblk i).trans (by simpa using hs1); have hst := sumN_take ns i hlt; have hle2 := sumN_le ns (i + 1); have HQ := Aside0.mk hrn; have HST := Aside0.mk hst; have hb2 : a1 + sumN (ns.take i) + (ns[i] : Nat) ≤ 4611686018427387904 := (by omega); have HC := fun (W : World) (hW : Inv W ∧ RowN 3 P W s1 (ns[i]'hlt)) => laws_markIntSS.row (fun W => Inv W ∧ RowN 3 P W s1 ns[i]) P (fun W g j x cs h hp hbk => ⟨HSET.out W g j x cs h.1 hp hbk, h.2.set g j _⟩) s1 ns[i] (fun W h => h.2) (a1 + sumN (ns.take i)) (by omega) hb2 W hW
     have HCA := Aside0.mk HC; clear HC hr2 hblk hsz hP e2 hin hs1 hrn hst; go_wp2_with (go_at_call 28; (try simp only [i64_w]); (with_reducible refine (HCA.out _ ⟨HJ.out, HQ.out⟩).mono ?_); rintro e w' ⟨rfl, hj⟩; have HN := Aside0.mk hj.1; clear hj); go_roundg k1
     case measure => omega
     case rel => exact ⟨i + 1, by omega, by rw [HST.out]; go_num, by go_num, HN⟩
def laws_markIntSS.f (l0 : List (List Int)) (a1 : Int) : Option (Int) := if 0 ≤ a1 ∧ a1 + Go.Proofs.YtmodgiingohphaaH.sumN (l0.map List.length) ≤ 4611686018427387904 then some (a1 + Go.Proofs.YtmodgiingohphaaH.sumN (l0.map List.length)) else none
open Go.Proofs.YtmodgiingohphaaH in
theorem laws_markIntSS.calls (P0_ : Nat → Prop) (u9000_ : Value) (l0 : List (List Int)) (a1 : Int) (r : Int) (w0 w : World) (hB : Below w0.heap.size w0 w) (ho0 : Kd.S (Kd.slice 3 (Kd.int .i64)) 45 w w0.heap.size P0_ u9000_ l0) (h : laws_markIntSS.f l0 a1 = some r) :
    Calls Try.prog 53 #[u9000_, .int .i64 a1] w fun e w' => e = .returned (.int .i64 r) ∧ Below w0.heap.size w0 w' ∧ Kept w w' (fun k_ => P0_ k_) := by
  unfold laws_markIntSS.f at h; by_cases hc : 0 ≤ a1 ∧ a1 + sumN (l0.map List.length) ≤ 4611686018427387904
  case neg => rw [if_neg hc] at h; exact absurd h (by simp)
  rw [if_pos hc] at h; obtain rfl := Option.some.inj h
  have hrows : RowsN 45 1 0 3 (fun k => P0_ k ∧ w0.heap.size ≤ k) w u9000_ (l0.map List.length) :=
    rowsN_of_R (d := Kd.slice 3 (Kd.int .i64)) (f := fun x => x) (by decide) (by rintro ok' p c ⟨v, rfl, hv⟩; exact ⟨v, rfl, hv⟩) (Kd.R_bound (Kd.S_R ho0)) (fun k hk => ⟨hk.1, hk.2.1⟩)
  refine (laws_markIntSS.rows (fun W => RowsN 45 1 0 3 (fun k => P0_ k ∧ w0.heap.size ≤ k) W u9000_ (l0.map List.length) ∧ Below w0.heap.size w0 W ∧ Kept w W (fun k_ => P0_ k_)) (fun k => P0_ k ∧ w0.heap.size ≤ k)
    (fun W g j x cs h hp hbk => ⟨h.1.set hbk (fun e_ => absurd e_ (by decide)) (by decide) _, below_set h.2.1 hp.2, h.2.2.setCell (.inl hp.1) _⟩) u9000_ _ (fun W h => h.1) a1 hc.1 hc.2 w ⟨hrows, hB, Kept.refl w _⟩).mono ?_
  rintro e w' ⟨rfl, h1, h2, h3⟩; exact ⟨rfl, h2, h3⟩
/-! ### laws_markText: function 55 -/
def laws_markText.l0 : Nat → Int → ByteArray → Option (ByteArray)
  | 0, _, _ => none
  | k + 1, x0, x3 => if x0 > 0 then ((some (([(wrap64 (48 + (Int.tmod x0 10))) % 256] : List Int) : List Int)).bind fun y164 => (if (strOfNums y164).size + x3.size ≤ 9223372036854775807 then (laws_markText.l0 k (wrap64 (Int.tdiv x0 10)) ((strOfNums y164) ++ x3)) else (none))) else (if 1 + x3.size ≤ 9223372036854775807 then (some ((⟨#[109]⟩ : ByteArray) ++ x3)) else (none))
def laws_markText.f (k : Nat) (a0 : Int) : Option (ByteArray) := if a0 ≤ 0 then (some (⟨#[109, 48]⟩ : ByteArray)) else (laws_markText.l0 k a0 (⟨#[]⟩ : ByteArray))
theorem laws_markText.mono_l : ∀ k, (∀ y0 y1, LeO (laws_markText.l0 k y0 y1) (laws_markText.l0 (k + 1) y0 y1))
  | 0 => by intros; exact LeO.none _
  | k + 1 => by
    have ih0 := laws_markText.mono_l k; intros ; unfold laws_markText.l0 ; repeat' with_reducible first | exact LeO.refl _ | exact LeO.none _ | refine LeO.ite ?_ ?_ | refine LeO.bind ?_ (fun _ => ?_) | apply ih0
theorem laws_markText.mono : ∀ a0 k, LeO (laws_markText.f k a0) (laws_markText.f (k + 1) a0) := by
  intro a0 k; have ih0 := laws_markText.mono_l k; unfold laws_markText.f
  repeat' with_reducible first | exact LeO.refl _ | exact LeO.none _ | refine LeO.ite ?_ ?_ | refine LeO.bind ?_ (fun _ => ?_) | apply ih0
set_option maxHeartbeats 8000000 in
set_option maxRecDepth 100000 in
theorem laws_markText.calls (k : Nat) (a0 : Int) (r : ByteArray) (w : World) (h : laws_markText.f k a0 = some r) :
    Calls Try.prog 55 #[.int .i64 a0] w fun e w' => e = .returned (.string r) ∧ Below w.heap.size w w' := by
  have HB := Aside0.mk (Below.refl w.heap.size w); have H := h; unfold laws_markText.f at H; clear h; by_cases c2 : a0 ≤ 0
  · rw [if_pos c2] at H; have c2b0 := decide_eq_true c2; clear c2; obtain rfl := Option.some.inj H; go_enter Try.func55, Try.ntmps55; go_wp2; go_ret; exact ⟨er_, zb_⟩
  · rw [if_neg c2] at H; have c2b0 := decide_eq_false c2; clear c2; have H' := Aside0.mk H; clear H; go_enter Try.func55, Try.ntmps55; go_wp2; go_loopg [0, 3] k (fun kq v0 v3 w' => ∃ (x0_1 : Int) (x3_1 : ByteArray), v0 = .int .i64 x0_1 ∧ v3 = .string x3_1 ∧ Aside0 (laws_markText.l0 kq x0_1 x3_1 = some r) ∧ Aside0 (kq ≤ k) ∧ Aside0 (Below w.heap.size w w'))
    case atStart => exact ⟨(a0), ((⟨#[]⟩ : ByteArray)), q3_, q3_, H', ⟨Nat.le_refl _⟩, ⟨zb_⟩⟩
    case round =>
     clear H'; obtain ⟨x0_1, x3_1, rfl, rfl, HA, HK1, HB⟩ := hrel
     cases gk with
     | zero => exact absurd HA.out (by simp [laws_markText.l0])
     | succ k1 =>
      have H := HA.out; clear HA; simp only [laws_markText.l0] at H; by_cases c3 : x0_1 > 0
      ·rw [if_pos c3] at H; have c3b0 := decide_eq_true c3; clear c3; obtain ⟨y164, hy_, H⟩ := bs_ H; have Ny164 := Aside0.mk hy_; clear hy_; obtain ⟨c4, H⟩ := ifs_ H; have c4b0 := eq_true c4; have c4b1 := decide_eq_true c4; (try have c4b2 : (9223372036854775807 < (strOfNums y164).size + x3_1.size) = False := eq_false (Nat.not_lt.2 c4)); have H' := Aside0.mk H; clear H; go_wp2_with (first | ((with_reducible refine gate_dst (N := 12) rfl ?_); refine Kd.R_lit (Kd.int .u8) _ 5 ?hg (N := 12) ?hd (xs := ([(wrap64 (48 + (Int.tmod x0_1 10))) % 256] : List Int)) (inner := [.int .u8 ((wrap64 (48 + (Int.tmod x0_1 10))) % 256)]) (ok := fun _ => True) (okp := fun _ => True) ?hr ?hp (fun _ hk => hk) trivial (Below.refl _ _) (Nat.le_refl _) (by simp) ?_; (case hd => rfl); (case hg => rfl); (case hr => first | (go_simp; done) | (go_simp; rfl)); (case hp => exact (Reps.one (show Kd.M (Kd.int .u8) _ _ _ ((wrap64 (48 + (Int.tmod x0_1 10))) % 256) [.int .u8 ((wrap64 (48 + (Int.tmod x0_1 10))) % 256)] from rfl) (Reps.none _ _))); intro v165 w5 ho6 hb hg_ hnew_; clear hg_ hnew_; (first | rw [← Ny164.out] at ho6 | (simp only [Int.reduceToNat] at ho6; rw [← Ny164.out] at ho6)); refine ai2_ (Kd.R_lower ho6 (below_size q1_)) (below_step q1_ hb) ?_; clear HB; intro HO166 HB; clear hb ho6; have hcv7 := own_string (P := Try.prog) Try.underlying56 Try.underlying5 Try.underlying9 (Kd.own_of_R HO166.out))); go_roundg k1
       case measure => have := HK1.out; omega
       case rel => exact ⟨(wrap64 (Int.tdiv x0_1 10)), ((strOfNums y164) ++ x3_1), q3_, q3_, H', ⟨by have := HK1.out; omega⟩, ⟨zb_⟩⟩
      ·rw [if_neg c3] at H; have c3b0 := decide_eq_false c3; clear c3; obtain ⟨c8, H⟩ := ifs_ H; have c8b0 := eq_true c8; have c8b1 := decide_eq_true c8; (try have c8b2 : (9223372036854775807 < 1 + x3_1.size) = False := eq_false (Nat.not_lt.2 c8)); obtain rfl := Option.some.inj H; go_wp2; go_ret; exact ⟨er_, zb_⟩
/-! ### laws_markWeave: function 16 -/
theorem laws_markWeave.text : ∀ (f : Nat) (x : Int) (t : ByteArray), 0 ≤ x → x ≤ 4611686018427387904 → x < 2 ^ f → t.size + f ≤ 1000 → ∃ r, laws_markText.l0 (f + 1) x t = some r
  | 0, x, t, h0, h3, h1, h2 => by
    have h1' : x < 1 := h1; exact ⟨_, by rw [laws_markText.l0, if_neg (by omega), if_pos (by omega)]⟩
  | f + 1, x, t, h0, h3, h1, h2 => by
    by_cases c : x > 0
    case neg => exact ⟨_, by rw [laws_markText.l0, if_neg c, if_pos (by omega)]⟩
    have hz : (strOfNums [(wrap64 (48 + (Int.tmod x 10))) % 256]).size = 1 := by rw [strOfNums_size]; rfl
    have e : wrap64 (Int.tdiv x 10) = x / 10 := by
     rw [Int.tdiv_eq_ediv_of_nonneg h0]; unfold wrap64; omega
    have hp : x / 10 < 2 ^ f := by
     rw [Int.pow_succ] at h1; generalize (2 : Int) ^ f = q at h1 ⊢; omega
    obtain ⟨r, hr⟩ := laws_markWeave.text f (x / 10) (strOfNums [(wrap64 (48 + (Int.tmod x 10))) % 256] ++ t) (by omega) (by omega) hp (by rw [ByteArray.size_append, hz]; omega); refine ⟨r, ?_⟩; rw [laws_markText.l0, if_pos c, Option.bind_some, if_pos (by rw [hz]; omega), e]; exact hr
theorem laws_markWeave.txt (x : Int) (h0 : 0 ≤ x) (h3 : x ≤ 4611686018427387904) : ∃ r, laws_markText.f 64 x = some r := by
  unfold laws_markText.f; by_cases c : x ≤ 0
  · exact ⟨_, by rw [if_pos c]⟩
  · rw [if_neg c]; exact laws_markWeave.text 63 x _ h0 h3 (by have : (2 : Int) ^ 63 = 9223372036854775808 := (by decide); omega) (by decide)
open Go.Proofs.YtmodgiingohphaaH in
set_option maxHeartbeats 8000000 in
set_option maxRecDepth 100000 in
theorem laws_markWeave.bodies (Inv : World → Prop) (P : Nat → Prop) (hset : ∀ (W : World) (g j : Nat) (x : Int) (cs : Array Value), Inv W → P g → W.heap[g]? = some (.cells cs 3 (0, 0)) → Inv (W.setCell ⟨g, j, none⟩ (.int .i64 x))) (hsetB : ∀ (W : World) (g j : Nat) (u : Value) (cs : Array Value), Inv W → P g → W.heap[g]? = some (.cells cs 123 (0, 0)) → j % 4 ≠ 3 → Inv (W.setCell ⟨g, j, none⟩ u)) (hbel : ∀ W W' : World, Inv W → Below W.heap.size W W' → Inv W') (s : Value) (ns : List Nat) (hrow : ∀ W, Inv W → RowsN 123 4 3 3 P W s ns) (a1 : Int) (h0 : 0 ≤ a1) (hb : a1 + sumN (ns.map (· + 3)) ≤ 4611686018427387904) (w : World) (hw : Inv w) :
    Calls Try.prog 54 #[s, .int .i64 a1] w fun e w' => e = .returned (.int .i64 (a1 + sumN (ns.map (· + 3)))) ∧ Inv w' := by
  obtain ⟨A_, c_, hs, hq, hr⟩ := hrow w hw; subst hs; have HI := Aside0.mk hw; have HROW := Aside0.mk hrow; have HSET := Aside0.mk hset; have HSETB := Aside0.mk hsetB; have HBEL := Aside0.mk hbel; clear hw hrow hset hsetB hbel hr; have hu123 := Try.underlying123; go_enter Try.func54, Try.ntmps54; go_wp2; go_loopg [1, 5] ns.length (fun kq v1 v5 w' => ∃ i : Nat, i + kq = ns.length ∧ v1 = .int .i64 (a1 + sumN ((ns.map (· + 3)).take i)) ∧ v5 = .int .i64 i ∧ Aside0 (Inv w'))
  case atStart => exact ⟨0, by omega, by simp [sumN], by simp, HI⟩
  case round =>
    obtain ⟨i, hi, rfl, rfl, HJ⟩ := hrel; have hle := sumN_le (ns.map (· + 3)) i
    cases gk with
    | zero =>
     have hlt : ¬ (i < ns.length) := (by omega); have e0 : (ns.map (· + 3)).take i = ns.map (· + 3) := List.take_of_length_le (by rw [List.length_map]; omega); have E0 := Aside0.mk e0; clear e0; go_wp2; go_ret; exact ⟨by first | rfl | (rw [E0.out]; first | rfl | (simp; done)) | (simp only [E0.out]; first | rfl | (simp; done)), HJ.out⟩
    | succ k1 =>
     have hlt : i < ns.length := (by omega); have hst := sumN_take (ns.map (· + 3)) i (by rw [List.length_map]; exact hlt); rw [List.getElem_map] at hst; have hle2 := sumN_le (ns.map (· + 3)) (i + 1); obtain ⟨x, hx⟩ : ∃ x : Int, x = a1 + sumN ((ns.map (· + 3)).take i) := ⟨_, rfl⟩; have hx0 : 0 ≤ x := (by omega); have hx1 : x + 3 + ((ns[i]'hlt : Nat) : Int) ≤ 4611686018427387904 := (by omega); have hx2 : x ≤ 4611686018427387901 := (by omega); have hnx : x + 1 + 1 + 1 + ((ns[i]'hlt : Nat) : Int) = a1 + sumN ((ns.map (· + 3)).take (i + 1)) := (by rw [hst]; omega); rw [← hx]; have HNX := Aside0.mk hnx; clear hnx hst hle hle2 hx; obtain ⟨t, ht⟩ := laws_markWeave.txt x hx0 (by omega); have HT := Aside0.mk ht; clear ht; obtain ⟨A2, c2, hs2, _, hr2⟩ := HROW.out wr HJ.out; injection hs2 with e1 _ e2
     subst e1; obtain ⟨g, cs, hA, _⟩ := hr2 (by omega); subst hA; clear hr2 e2; obtain ⟨u0, u1, u2, s8, hc0, hc1, hc2, hc3, hrn, hfr, hpg, cs8, hbk⟩ := RowsN.four (HROW.out _ HJ.out) hlt; have hf0 := hfr (i * 4); have hf1 := hfr (i * 4 + 1); have hf2 := hfr (i * 4 + 2); have HPG := Aside0.mk hpg; have HBK := Aside0.mk hbk; have HQ := Aside0.mk hrn; clear hfr hpg hbk hrn; have HC := fun (W : World) (s1 : Value) (hW : Inv W ∧ RowN 3 P W s1 (ns[i]'hlt)) => laws_markIntSS.row (fun W => Inv W ∧ RowN 3 P W s1 (ns[i]'hlt)) P (fun W g j x cs h hp hbk => ⟨HSET.out W g j x cs h.1 hp hbk, h.2.set g j _⟩) s1 (ns[i]'hlt) (fun W h => h.2) (x + 1 + 1 + 1) (by omega) (by omega) W hW
     have HCA := Aside0.mk HC; clear HC; go_wp2_with (first | (go_at_call 55; (try simp only [i64_w]); (with_reducible refine (laws_markText.calls 64 x t _ HT.out).mono ?_); rintro e w8 ⟨rfl, hb8⟩; have HJ8 := Aside0.mk (HBEL.out _ _ HJ.out hb8); clear hb8; clear hc0 hc1 hc2 hc3 hf0 hf1 hf2; clear HBK HPG HQ; obtain ⟨u0, u1, u2, s8, hc0, hc1, hc2, hc3, hrn, hfr, hpg, cs8, hbk⟩ := RowsN.four (HROW.out _ HJ8.out) hlt; have hf0 := hfr (i * 4); have hf1 := hfr (i * 4 + 1); have hf2 := hfr (i * 4 + 2); have HPG := Aside0.mk hpg; have HBK := Aside0.mk hbk; have HQ := Aside0.mk hrn; clear hfr hpg hbk hrn) | ((with_reducible refine gate_store (t := 9) (p := 17) rfl ?_); refine store_event (t := 9) (p := 17) (v := ?vo17) (w1 := (w8.setCell ⟨g, i * 4, none⟩ (.string t))) ?hg ?ho ?hn ?hr ?_; (case ho => rfl); (case hg => rfl); (case hn => rfl); (case hr => first | (go_simp; done) | (go_simp; rfl)); intro w9 hw_; have hj_ := HSETB.out w8 g (i * 4) (.string t) _ HJ8.out HPG.out HBK.out (by omega); rw [← hw_] at hj_; have HJ9 := Aside0.mk hj_; clear hj_ hw_; clear hc0 hc1 hc2 hc3 hf0 hf1 hf2; clear HBK HPG HQ; obtain ⟨u0, u1, u2, s8, hc0, hc1, hc2, hc3, hrn, hfr, hpg, cs8, hbk⟩ := RowsN.four (HROW.out _ HJ9.out) hlt; have hf0 := hfr (i * 4); have hf1 := hfr (i * 4 + 1); have hf2 := hfr (i * 4 + 2); have HPG := Aside0.mk hpg; have HBK := Aside0.mk hbk; have HQ := Aside0.mk hrn; clear hfr hpg hbk hrn) | ((with_reducible refine gate_store (t := 3) (p := 24) rfl ?_); refine store_event (t := 3) (p := 24) (v := ?vo24) (w1 := (w9.setCell ⟨g, i * 4 + 1, none⟩ (.int .i64 (x + 1)))) ?hg ?ho ?hn ?hr ?_; (case ho => rfl); (case hg => rfl); (case hn => rfl); (case hr => first | (go_simp; done) | (go_simp; rfl)); intro w10 hw_; have hj_ := HSETB.out w9 g (i * 4 + 1) (.int .i64 (x + 1)) _ HJ9.out HPG.out HBK.out (by omega); rw [← hw_] at hj_; have HJ10 := Aside0.mk hj_; clear hj_ hw_; clear hc0 hc1 hc2 hc3 hf0 hf1 hf2; clear HBK HPG HQ; obtain ⟨u0, u1, u2, s8, hc0, hc1, hc2, hc3, hrn, hfr, hpg, cs8, hbk⟩ := RowsN.four (HROW.out _ HJ10.out) hlt; have hf0 := hfr (i * 4); have hf1 := hfr (i * 4 + 1); have hf2 := hfr (i * 4 + 2); have HPG := Aside0.mk hpg; have HBK := Aside0.mk hbk; have HQ := Aside0.mk hrn; clear hfr hpg hbk hrn) | ((with_reducible refine gate_store (t := 3) (p := 31) rfl ?_); refine store_event (t := 3) (p := 31) (v := ?vo31) (w1 := (w10.setCell ⟨g, i * 4 + 2, none⟩ (.int .i64 (x + 1 + 1)))) ?hg ?ho ?hn ?hr ?_; (case ho => rfl); (case hg => rfl); (case hn => rfl); (case hr => first | (go_simp; done) | (go_simp; rfl)); intro w11 hw_; have hj_ := HSETB.out w10 g (i * 4 + 2) (.int .i64 (x + 1 + 1)) _ HJ10.out HPG.out HBK.out (by omega); rw [← hw_] at hj_; have HJ11 := Aside0.mk hj_; clear hj_ hw_; clear hc0 hc1 hc2 hc3 hf0 hf1 hf2; clear HBK HPG HQ; obtain ⟨u0, u1, u2, s8, hc0, hc1, hc2, hc3, hrn, hfr, hpg, cs8, hbk⟩ := RowsN.four (HROW.out _ HJ11.out) hlt; have hf0 := hfr (i * 4); have hf1 := hfr (i * 4 + 1); have hf2 := hfr (i * 4 + 2); have HPG := Aside0.mk hpg; have HBK := Aside0.mk hbk; have HQ := Aside0.mk hrn; clear hfr hpg hbk hrn) | (go_at_call 28; (try simp only [i64_w]); (with_reducible refine (HCA.out _ _ ⟨HJ11.out, HQ.out⟩).mono ?_); rintro e w12 ⟨rfl, hj⟩; have HN := Aside0.mk hj.1; clear hj)); go_roundg k1
     case measure => omega
     case rel => exact ⟨i + 1, by omega, by rw [HNX.out], by go_num, HN⟩
def laws_markWeave.f (l0_0 : List (List Int)) (l0_1 : List (S123)) (a1 : Int) : Option (Int) := if 0 ≤ a1 ∧ a1 + Go.Proofs.YtmodgiingohphaaH.sumN (l0_0.map List.length) + Go.Proofs.YtmodgiingohphaaH.sumN ((l0_1.map fun x => x.f3.length).map (· + 3)) ≤ 4611686018427387904 then some (a1 + Go.Proofs.YtmodgiingohphaaH.sumN (l0_0.map List.length) + Go.Proofs.YtmodgiingohphaaH.sumN ((l0_1.map fun x => x.f3.length).map (· + 3))) else none
open Go.Proofs.YtmodgiingohphaaH in
set_option maxHeartbeats 8000000 in
set_option maxRecDepth 100000 in
theorem laws_markWeave.calls (P0_ : Nat → Prop) (u9000_ : Value) (l0_0 : List (List Int)) (P1_ : Nat → Prop) (u9001_ : Value) (l0_1 : List (S123)) (a1 : Int) (r : Int) (w0 w : World) (hB : Below w0.heap.size w0 w) (ho0 : Kd.S (Kd.slice 3 (Kd.int .i64)) 45 w w0.heap.size P0_ u9000_ l0_0) (ho1 : Kd.S k123 123 w w0.heap.size P1_ u9001_ l0_1) (h : laws_markWeave.f l0_0 l0_1 a1 = some r) :
    Calls Try.prog 16 #[.agg #[u9000_, u9001_], .int .i64 a1] w fun e w' => e = .returned (.int .i64 r) ∧ Below w0.heap.size w0 w' ∧ Kept w w' (fun k_ => P0_ k_ ∨ P1_ k_) := by
  unfold laws_markWeave.f at h; by_cases hc : 0 ≤ a1 ∧ a1 + sumN (l0_0.map List.length) + sumN ((l0_1.map fun x => x.f3.length).map (· + 3)) ≤ 4611686018427387904
  case neg => rw [if_neg hc] at h; exact absurd h (by simp)
  rw [if_pos hc] at h; obtain rfl := Option.some.inj h; obtain ⟨P, hPe⟩ : ∃ P : Nat → Prop, P = fun k => (P0_ k ∨ P1_ k) ∧ w0.heap.size ≤ k ∧ k < w.heap.size := ⟨_, rfl⟩
  have hr0 : RowsN 45 1 0 3 P w u9000_ (l0_0.map List.length) :=
    rowsN_of_R (d := Kd.slice 3 (Kd.int .i64)) (f := fun x => x) (by decide) (by rintro ok' p c ⟨v, rfl, hv⟩; exact ⟨v, rfl, hv⟩) (Kd.R_bound (Kd.S_R ho0)) (fun k hk => by rw [hPe]; exact ⟨.inl hk.1, hk.2.1, hk.2.2.1⟩)
  have hr1 : RowsN 123 4 3 3 P w u9001_ (l0_1.map fun x => x.f3.length) :=
    rowsN_of_R (d := k123) (f := fun x => x.f3) (by decide) (by
     intro ok' p c hM
     obtain ⟨v, rfl, hv⟩ := k123_openM hM
     exact ⟨v, rfl, hv⟩) (Kd.R_bound (Kd.S_R ho1)) (fun k hk => by rw [hPe]; exact ⟨.inr hk.1, hk.2.1, hk.2.2.1⟩)
  have hP1 : ∀ k, P k → (P0_ k ∨ P1_ k) ∧ w0.heap.size ≤ k ∧ k < w.heap.size := fun k hk => by rw [hPe] at hk; exact hk
  clear hPe ho0 ho1 h; obtain ⟨L0, hL0⟩ : ∃ L, L = l0_0.map List.length := ⟨_, rfl⟩; obtain ⟨L1, hL1⟩ : ∃ L, L = l0_1.map fun x => x.f3.length := ⟨_, rfl⟩
  rw [← hL0] at hr0 hc ⊢; rw [← hL1] at hr1 hc ⊢; obtain ⟨n0, hn0⟩ : ∃ n0, n0 = sumN L0 := ⟨_, rfl⟩; obtain ⟨n1, hn1⟩ : ∃ n1, n1 = sumN (L1.map (· + 3)) := ⟨_, rfl⟩; rw [← hn0, ← hn1] at hc ⊢; have hb0 : 0 ≤ a1 := hc.1; have hb1 : a1 + n0 + n1 ≤ 4611686018427387904 := hc.2; have hb2 : a1 + n0 ≤ 4611686018427387904 := by omega
  have C0 := fun (gb : Nat) (hgb : w.heap.size ≤ gb) (W : World) hW => laws_markIntSS.rows (fun W => (RowsN 45 1 0 3 P W u9000_ L0 ∧ RowsN 123 4 3 3 P W u9001_ L1 ∧ Below w0.heap.size w0 W ∧ Kept w W (fun k_ => P0_ k_ ∨ P1_ k_)) ∧ W.heap[gb]? = some (.cells #[u9000_, u9001_] 32 (0, 0))) P
    (fun W g j x cs h hp hbk => ⟨⟨h.1.1.set hbk (fun e_ => absurd e_ (by decide)) (by decide) _, h.1.2.1.set hbk (fun e_ => absurd e_ (by decide)) (by decide) _, below_set h.1.2.2.1 (hP1 _ hp).2.1, h.1.2.2.2.setCell (.inl (hP1 _ hp).1) _⟩, blk_far h.2 (fun e_ => by have h2_ := (hP1 _ hp).2.2; have e2_ : gb = g := e_; omega) _⟩) u9000_ _ (fun W h => h.1.1) a1 hb0 (by rw [← hn0]; exact hb2) W hW
  have C1 := fun (W : World) hW => laws_markWeave.bodies (fun W => RowsN 45 1 0 3 P W u9000_ L0 ∧ RowsN 123 4 3 3 P W u9001_ L1 ∧ Below w0.heap.size w0 W ∧ Kept w W (fun k_ => P0_ k_ ∨ P1_ k_)) P
    (fun W g j x cs h hp hbk => ⟨h.1.set hbk (fun e_ => absurd e_ (by decide)) (by decide) _, h.2.1.set hbk (fun e_ => absurd e_ (by decide)) (by decide) _, below_set h.2.2.1 (hP1 _ hp).2.1, h.2.2.2.setCell (.inl (hP1 _ hp).1) _⟩)
    (fun W g j u cs h hp hbk hj => ⟨h.1.set hbk (fun e_ => absurd e_ (by decide)) (by decide) _, h.2.1.set hbk (fun _ => hj) (by decide) _, below_set h.2.2.1 (hP1 _ hp).2.1, h.2.2.2.setCell (.inl (hP1 _ hp).1) _⟩)
    (fun W W' h hb => ⟨h.1.below hb, h.2.1.below hb, below_step h.2.2.1 hb, h.2.2.2.below hb⟩) u9001_ _ (fun W h => h.2.1) (a1 + n0) (by omega) (by rw [← hn1]; exact hb1) W hW
  rw [← hn0] at C0; rw [← hn1] at C1; have D0 := Aside0.mk C0; have D1 := Aside0.mk C1; have HI := Aside0.mk (⟨hr0, hr1, hB, Kept.refl w _⟩ : RowsN 45 1 0 3 P w u9000_ L0 ∧ RowsN 123 4 3 3 P w u9001_ L1 ∧ Below w0.heap.size w0 w ∧ Kept w w (fun k_ => P0_ k_ ∨ P1_ k_)); clear C0 C1 hr0 hr1 hB hP1 hc hn0 hn1; have hu32 := Try.underlying32; go_enter Try.func16, Try.ntmps16; go_wp2_with (first | ((with_reducible refine gate_dst (N := 2) rfl ?_); refine be_ 2 #[u9000_, u9001_] 32 ?_; intro gb hg w2 hbox hb; have HX := Aside0.mk hbox; have HJ := Aside0.mk (⟨⟨HI.out.1.below hb, HI.out.2.1.below hb, below_step HI.out.2.2.1 hb, HI.out.2.2.2.below hb⟩, hbox⟩ : (RowsN 45 1 0 3 P w2 u9000_ L0 ∧ RowsN 123 4 3 3 P w2 u9001_ L1 ∧ Below w0.heap.size w0 w2 ∧ Kept w w2 (fun k_ => P0_ k_ ∨ P1_ k_)) ∧ w2.heap[gb]? = some (.cells #[u9000_, u9001_] 32 (0, 0))); have HG := Aside0.mk (Nat.le_of_eq hg.symm); have hc0 : w2.cell? ⟨gb, 0, none⟩ = some u9000_ := (blk_cell hbox 0).trans rfl; clear hbox hb hg) | (go_at_call 53; (try simp only [i64_w]); (with_reducible refine (D0.out gb HG.out _ HJ.out).mono ?_); rintro e w3 ⟨rfl, hj⟩; have HJ2 := Aside0.mk hj; clear hc0; have hc1 : w3.cell? ⟨gb, 1, none⟩ = some u9001_ := (blk_cell hj.2 1).trans rfl; clear hj) | (go_at_call 54; (try simp only [i64_w]); (with_reducible refine (D1.out _ HJ2.out.1).mono ?_); rintro e w4 ⟨rfl, hj⟩; have HN := Aside0.mk hj; clear hj)); go_ret; exact ⟨by first | rfl | (simp; done), HN.out.2.2.1, HN.out.2.2.2⟩
/-! ### laws_szStringS: function 21 -/
def laws_szStringS.l0 : Nat → List ByteArray → Int → Int → Option (Int)
  | 0, _, _, _ => none
  | k + 1, x0, x1, x5 => if x5 < (x0.length : Int) then (if 0 ≤ x5 then (if (wrap64 (x1 - ((rdOf ByteArray.empty x0 x5).size : Int))) < 0 then (some (-1)) else (laws_szStringS.l0 k x0 (wrap64 (x1 - ((rdOf ByteArray.empty x0 x5).size : Int))) (wrap64 (x5 + 1)))) else (none)) else (some x1)
def laws_szStringS.f (k : Nat) (l0 : List ByteArray) (a1 : Int) : Option (Int) := if (wrap64 (a1 - (l0.length : Int))) < 0 then (some (-1)) else (laws_szStringS.l0 k l0 (wrap64 (a1 - (l0.length : Int))) 0)
theorem laws_szStringS.mono_l : ∀ k, (∀ y0 y1 y2, LeO (laws_szStringS.l0 k y0 y1 y2) (laws_szStringS.l0 (k + 1) y0 y1 y2))
  | 0 => by intros; exact LeO.none _
  | k + 1 => by
    have ih0 := laws_szStringS.mono_l k; intros ; unfold laws_szStringS.l0 ; repeat' with_reducible first | exact LeO.refl _ | exact LeO.none _ | refine LeO.ite ?_ ?_ | refine LeO.bind ?_ (fun _ => ?_) | apply ih0
theorem laws_szStringS.mono : ∀ a0 a1 k, LeO (laws_szStringS.f k a0 a1) (laws_szStringS.f (k + 1) a0 a1) := by
  intro a0 a1 k; have ih0 := laws_szStringS.mono_l k; unfold laws_szStringS.f
  repeat' with_reducible first | exact LeO.refl _ | exact LeO.none _ | refine LeO.ite ?_ ?_ | refine LeO.bind ?_ (fun _ => ?_) | apply ih0
set_option maxHeartbeats 8000000 in
set_option maxRecDepth 100000 in
theorem laws_szStringS.calls (k : Nat) (A0 : Option Addr) (c0 : Nat) (l0 : List ByteArray) (a1 : Int) (r : Int) (w : World) (hr0 : Kd.C Kd.string w A0 l0.length l0) (hc0 : l0.length ≤ c0) (h : laws_szStringS.f k l0 a1 = some r) :
    Calls Try.prog 21 #[.slice A0 l0.length c0, .int .i64 a1] w fun e w' => e = .returned (.int .i64 r) ∧ Drawn0 w w' := by
  have HR0 := Aside0.mk hr0; have HC0 := Aside0.mk hc0; clear hr0 hc0; have H := h; unfold laws_szStringS.f at H; clear h; by_cases c3 : (wrap64 (a1 - (l0.length : Int))) < 0
  · rw [if_pos c3] at H; have c3b0 : decide ((wrap64 (a1 - (l0.length : Int))) < 0) = true := decide_eq_true c3; clear c3; obtain rfl := Option.some.inj H; go_enter Try.func21, Try.ntmps21; go_wp2; go_ret; exact ⟨by first | rfl | (simp; done) | (simp [*]; done), by repeat (first | exact Drawn0.refl _ | apply Drawn0.step)⟩
  · rw [if_neg c3] at H; have c3b0 : decide ((wrap64 (a1 - (l0.length : Int))) < 0) = false := decide_eq_false c3; clear c3; have H' := Aside0.mk H; clear H; go_enter Try.func21, Try.ntmps21; go_wp2; go_loopg [1, 5] k (fun kq v1 v5 w' => ∃ (x1_1 : Int) (x5_1 : Int), v1 = .int .i64 x1_1 ∧ v5 = .int .i64 x5_1 ∧ Aside0 (laws_szStringS.l0 kq l0 x1_1 x5_1 = some r) ∧ Aside0 (kq ≤ k) ∧ Drawn0 w w')
    case atStart => exact ⟨(wrap64 (a1 - (l0.length : Int))), (0), q3_, q3_, H', ⟨Nat.le_refl _⟩, by repeat (first | exact Drawn0.refl _ | apply Drawn0.step)⟩
    case round =>
     clear H'; obtain ⟨x1_1, x5_1, rfl, rfl, HA, HK1, ⟨m1, rfl⟩⟩ := hrel
     cases gk with
     | zero => exact absurd HA.out (by simp [laws_szStringS.l0])
     | succ k1 =>
      have H := HA.out; clear HA; simp only [laws_szStringS.l0] at H; by_cases c4 : x5_1 < (l0.length : Int)
      ·rw [if_pos c4] at H; have c4b0 := decide_eq_true c4; clear c4; obtain ⟨c5b0, H⟩ := ifd_ H; by_cases c6 : (wrap64 (x1_1 - ((rdOf ByteArray.empty l0 x5_1).size : Int))) < 0
       ·rw [if_pos c6] at H; have c6b0 : decide ((wrap64 (x1_1 - ((rdOf ByteArray.empty l0 x5_1).size : Int))) < 0) = true := decide_eq_true c6; clear c6; obtain rfl := Option.some.inj H; obtain ⟨p167, q167, ad167, e167, hx167_0⟩ := pq_ (Kd.at_string HR0.out x5_1); cases e167; go_wp2; go_ret; exact ⟨by first | rfl | (simp; done) | (simp [*]; done), by repeat (first | exact Drawn0.refl _ | apply Drawn0.step)⟩
       ·rw [if_neg c6] at H; have c6b0 : decide ((wrap64 (x1_1 - ((rdOf ByteArray.empty l0 x5_1).size : Int))) < 0) = false := decide_eq_false c6; clear c6; have H' := Aside0.mk H; clear H; obtain ⟨p167, q167, ad167, e167, hx167_0⟩ := pq_ (Kd.at_string HR0.out x5_1); cases e167; go_wp2; go_roundg k1
        case measure => have := HK1.out; omega
        case rel => exact ⟨(wrap64 (x1_1 - ((rdOf ByteArray.empty l0 x5_1).size : Int))), (wrap64 (x5_1 + 1)), q3_, q3_, H', ⟨by have := HK1.out; omega⟩, by repeat (first | exact Drawn0.refl _ | apply Drawn0.step)⟩
      ·rw [if_neg c4] at H; have c4b0 := decide_eq_false c4; clear c4; obtain rfl := Option.some.inj H; go_wp2; go_ret; exact ⟨by first | rfl | (simp; done) | (simp [*]; done), by repeat (first | exact Drawn0.refl _ | apply Drawn0.step)⟩

/-! ### spec_l01In: function 101 -/
def spec_l01In.f (a0 : Int) (a1 : Int) (a2 : Int) : Option (Bool) := if a0 ≥ a1 then (some (decide (a0 ≤ a2))) else (some false)
set_option maxHeartbeats 8000000 in
set_option maxRecDepth 100000 in
theorem spec_l01In.calls (a0 : Int) (a1 : Int) (a2 : Int) (r : Bool) (w : World) (h : spec_l01In.f a0 a1 a2 = some r) :
    Calls Try.prog 101 #[.int .i64 a0, .int .i64 a1, .int .i64 a2] w fun e w' => e = .returned (.bool r) ∧ Drawn0 w w' := by
  have H := h; unfold spec_l01In.f at H; clear h; by_cases c4 : a0 ≥ a1
  · rw [if_pos c4] at H; have c4b0 := decide_eq_true c4; clear c4; obtain rfl := Option.some.inj H; go_enter Try.func101, Try.ntmps101; go_wp2; go_ret; exact ⟨by first | rfl | (simp; done) | (simp [*]; done), by repeat (first | exact Drawn0.refl _ | apply Drawn0.step)⟩
  · rw [if_neg c4] at H; have c4b0 := decide_eq_false c4; clear c4; obtain rfl := Option.some.inj H; go_enter Try.func101, Try.ntmps101; go_wp2; go_ret; exact ⟨by first | rfl | (simp; done) | (simp [*]; done), by repeat (first | exact Drawn0.refl _ | apply Drawn0.step)⟩

/-! ### spec_l05Rise: function 102 -/
def spec_l05Rise.l0 : Nat → List Int → Int → Int → Option (Bool)
  | 0, _, _, _ => none
  | k + 1, x0, x1, x5 => if x5 < (x0.length : Int) then (if 0 ≤ x5 then ((spec_l01In.f (rd x0 x5) 0 (wrap64 (x1 - 1))).bind fun t169 => (if t169 = true then (if x5 > 0 then (if 0 ≤ (wrap64 (x5 - 1)) then (if (wrap64 (x5 - 1)) < (x0.length : Int) then (if (rd x0 (wrap64 (x5 - 1))) ≥ (rd x0 x5) then (some false) else (spec_l05Rise.l0 k x0 x1 (wrap64 (x5 + 1)))) else (none)) else (none)) else (spec_l05Rise.l0 k x0 x1 (wrap64 (x5 + 1)))) else (some false))) else (none)) else (some true)
def spec_l05Rise.f (k : Nat) (l0 : List Int) (a1 : Int) : Option (Bool) := spec_l05Rise.l0 k l0 a1 0
theorem spec_l05Rise.mono_l : ∀ k, (∀ y0 y1 y2, LeO (spec_l05Rise.l0 k y0 y1 y2) (spec_l05Rise.l0 (k + 1) y0 y1 y2))
  | 0 => by intros; exact LeO.none _
  | k + 1 => by
    have ih0 := spec_l05Rise.mono_l k; intros ; unfold spec_l05Rise.l0 ; repeat' with_reducible first | exact LeO.refl _ | exact LeO.none _ | refine LeO.ite ?_ ?_ | refine LeO.bind ?_ (fun _ => ?_) | apply ih0
theorem spec_l05Rise.mono : ∀ a0 a1 k, LeO (spec_l05Rise.f k a0 a1) (spec_l05Rise.f (k + 1) a0 a1) := by
  intro a0 a1 k; have ih0 := spec_l05Rise.mono_l k; unfold spec_l05Rise.f
  repeat' with_reducible first | exact LeO.refl _ | exact LeO.none _ | refine LeO.ite ?_ ?_ | refine LeO.bind ?_ (fun _ => ?_) | apply ih0
set_option maxHeartbeats 8000000 in
set_option maxRecDepth 100000 in
theorem spec_l05Rise.calls (k : Nat) (A0 : Option Addr) (c0 : Nat) (l0 : List Int) (a1 : Int) (r : Bool) (w : World) (hr0 : Kd.C (Kd.int .i64) w A0 l0.length l0) (hc0 : l0.length ≤ c0) (h : spec_l05Rise.f k l0 a1 = some r) :
    Calls Try.prog 102 #[.slice A0 l0.length c0, .int .i64 a1] w fun e w' => e = .returned (.bool r) ∧ Drawn0 w w' := by
  have HR0 := Aside0.mk hr0; have HC0 := Aside0.mk hc0; clear hr0 hc0; have H := h; unfold spec_l05Rise.f at H; clear h; have H' := Aside0.mk H; clear H; go_enter Try.func102, Try.ntmps102; go_wp2
  repeat (go_quiet (fail); try go_wp2)
  go_loopg [5] k (fun kq v5 w' => ∃ (x5_1 : Int), v5 = .int .i64 x5_1 ∧ Aside0 (spec_l05Rise.l0 kq l0 a1 x5_1 = some r) ∧ Aside0 (kq ≤ k) ∧ Drawn0 w w')
  case atStart => exact ⟨(0), q3_, H', ⟨Nat.le_refl _⟩, by repeat (first | exact Drawn0.refl _ | apply Drawn0.step)⟩
  case round =>
    clear H'; obtain ⟨x5_1, rfl, HA, HK1, ⟨m1, rfl⟩⟩ := hrel
    cases gk with
    | zero => exact absurd HA.out (by simp [spec_l05Rise.l0])
    | succ k1 =>
     have H := HA.out; clear HA; simp only [spec_l05Rise.l0] at H; by_cases c3 : x5_1 < (l0.length : Int)
     ·rw [if_pos c3] at H; have c3b0 := decide_eq_true c3; clear c3; obtain ⟨c4b0, H⟩ := ifd_ H; replace H := Option.bind_eq_some_iff.mp H; obtain ⟨t169, A50, H⟩ := H; (try dsimp only at H); have A5 := Aside0.mk A50; clear A50; by_cases c6 : t169 = true
      ·subst c6; rw [if_pos rfl] at H; by_cases c7 : x5_1 > 0
       ·rw [if_pos c7] at H; have c7b0 := decide_eq_true c7; clear c7; obtain ⟨ji8, hji8⟩ : ∃ j_ : Int, (wrap64 (x5_1 - 1)) = j_ := ⟨_, rfl⟩; (first | rw [hji8] at H | simp only [hji8] at H); (try rw [hji8] at A5); have hji8w : (IntKind.i64.wrap (x5_1 - 1)) = ji8 := (i64_w _).trans hji8; obtain ⟨c9b0, H⟩ := ifd_ H; obtain ⟨c10b0, H⟩ := ifd_ H; by_cases c11 : (rd l0 (ji8)) ≥ (rd l0 x5_1)
        ·rw [if_pos c11] at H; have c11b0 := decide_eq_true c11; clear c11; obtain rfl := Option.some.inj H; obtain ⟨p168, q168, ad168, e168, hx168_0⟩ := pq_ (Kd.at_int HR0.out x5_1); cases e168; go_wp2_with (first | (go_at_call 101; (try simp only [i64_w]); (with_reducible refine (spec_l01In.calls (rd l0 x5_1) 0 (wrap64 (a1 - 1)) true _ A5.out).mono ?_); rintro e w' ⟨rfl, ⟨nd, rfl⟩⟩; (try first | exact ⟨rfl, _, World.drewN_drewN _ _ _⟩ | exact ⟨rfl, _, Eq.trans (World.drewN_drewN _ _ _) (congrArg (World.drewN _) (Nat.add_assoc _ _ _))⟩); obtain ⟨p170, q170, ad170, e170, hx170_0⟩ := pq_ (Kd.at_int HR0.out (ji8)); obtain rfl : ad168 = ad170 := (by injection e170); have p171 : 0 ≤ (x5_1 : Int) := of_decide_eq_true q0_; have q171 : x5_1 < (l0.length : Int) := of_decide_eq_true q0_; obtain ⟨ad171, e171, hx171_0⟩ := Kd.at_int HR0.out x5_1 p171 q171; obtain rfl : ad168 = ad171 := (by injection e171); replace p171 := eq_true p171; replace q171 := eq_true q171))
         repeat (go_quiet (first | (go_at_call 101; (try simp only [i64_w]); (with_reducible refine (spec_l01In.calls (rd l0 x5_1) 0 (wrap64 (a1 - 1)) true _ A5.out).mono ?_); rintro e w' ⟨rfl, ⟨nd, rfl⟩⟩; (try first | exact ⟨rfl, _, World.drewN_drewN _ _ _⟩ | exact ⟨rfl, _, Eq.trans (World.drewN_drewN _ _ _) (congrArg (World.drewN _) (Nat.add_assoc _ _ _))⟩); obtain ⟨p170, q170, ad170, e170, hx170_0⟩ := pq_ (Kd.at_int HR0.out (ji8)); obtain rfl : ad168 = ad170 := (by injection e170); have p171 : 0 ≤ (x5_1 : Int) := of_decide_eq_true q0_; have q171 : x5_1 < (l0.length : Int) := of_decide_eq_true q0_; obtain ⟨ad171, e171, hx171_0⟩ := Kd.at_int HR0.out x5_1 p171 q171; obtain rfl : ad168 = ad171 := (by injection e171); replace p171 := eq_true p171; replace q171 := eq_true q171)); try go_wp2_with (first | (go_at_call 101; (try simp only [i64_w]); (with_reducible refine (spec_l01In.calls (rd l0 x5_1) 0 (wrap64 (a1 - 1)) true _ A5.out).mono ?_); rintro e w' ⟨rfl, ⟨nd, rfl⟩⟩; (try first | exact ⟨rfl, _, World.drewN_drewN _ _ _⟩ | exact ⟨rfl, _, Eq.trans (World.drewN_drewN _ _ _) (congrArg (World.drewN _) (Nat.add_assoc _ _ _))⟩); obtain ⟨p170, q170, ad170, e170, hx170_0⟩ := pq_ (Kd.at_int HR0.out (ji8)); obtain rfl : ad168 = ad170 := (by injection e170); have p171 : 0 ≤ (x5_1 : Int) := of_decide_eq_true q0_; have q171 : x5_1 < (l0.length : Int) := of_decide_eq_true q0_; obtain ⟨ad171, e171, hx171_0⟩ := Kd.at_int HR0.out x5_1 p171 q171; obtain rfl : ad168 = ad171 := (by injection e171); replace p171 := eq_true p171; replace q171 := eq_true q171)))
         go_ret; exact ⟨by first | rfl | (simp; done) | (simp only [← hji8] <;> (first | rfl | simp)) | (simp [*]; done), by repeat (first | exact Drawn0.refl _ | apply Drawn0.step)⟩
        ·rw [if_neg c11] at H; have c11b0 := decide_eq_false c11; clear c11; have H' := Aside0.mk H; clear H; obtain ⟨p168, q168, ad168, e168, hx168_0⟩ := pq_ (Kd.at_int HR0.out x5_1); cases e168; go_wp2_with (first | (go_at_call 101; (try simp only [i64_w]); (with_reducible refine (spec_l01In.calls (rd l0 x5_1) 0 (wrap64 (a1 - 1)) true _ A5.out).mono ?_); rintro e w' ⟨rfl, ⟨nd, rfl⟩⟩; (try first | exact ⟨rfl, _, World.drewN_drewN _ _ _⟩ | exact ⟨rfl, _, Eq.trans (World.drewN_drewN _ _ _) (congrArg (World.drewN _) (Nat.add_assoc _ _ _))⟩); obtain ⟨p170, q170, ad170, e170, hx170_0⟩ := pq_ (Kd.at_int HR0.out (ji8)); obtain rfl : ad168 = ad170 := (by injection e170); have p171 : 0 ≤ (x5_1 : Int) := of_decide_eq_true q0_; have q171 : x5_1 < (l0.length : Int) := of_decide_eq_true q0_; obtain ⟨ad171, e171, hx171_0⟩ := Kd.at_int HR0.out x5_1 p171 q171; obtain rfl : ad168 = ad171 := (by injection e171); replace p171 := eq_true p171; replace q171 := eq_true q171))
         repeat (go_quiet (first | (go_at_call 101; (try simp only [i64_w]); (with_reducible refine (spec_l01In.calls (rd l0 x5_1) 0 (wrap64 (a1 - 1)) true _ A5.out).mono ?_); rintro e w' ⟨rfl, ⟨nd, rfl⟩⟩; (try first | exact ⟨rfl, _, World.drewN_drewN _ _ _⟩ | exact ⟨rfl, _, Eq.trans (World.drewN_drewN _ _ _) (congrArg (World.drewN _) (Nat.add_assoc _ _ _))⟩); obtain ⟨p170, q170, ad170, e170, hx170_0⟩ := pq_ (Kd.at_int HR0.out (ji8)); obtain rfl : ad168 = ad170 := (by injection e170); have p171 : 0 ≤ (x5_1 : Int) := of_decide_eq_true q0_; have q171 : x5_1 < (l0.length : Int) := of_decide_eq_true q0_; obtain ⟨ad171, e171, hx171_0⟩ := Kd.at_int HR0.out x5_1 p171 q171; obtain rfl : ad168 = ad171 := (by injection e171); replace p171 := eq_true p171; replace q171 := eq_true q171)); try go_wp2_with (first | (go_at_call 101; (try simp only [i64_w]); (with_reducible refine (spec_l01In.calls (rd l0 x5_1) 0 (wrap64 (a1 - 1)) true _ A5.out).mono ?_); rintro e w' ⟨rfl, ⟨nd, rfl⟩⟩; (try first | exact ⟨rfl, _, World.drewN_drewN _ _ _⟩ | exact ⟨rfl, _, Eq.trans (World.drewN_drewN _ _ _) (congrArg (World.drewN _) (Nat.add_assoc _ _ _))⟩); obtain ⟨p170, q170, ad170, e170, hx170_0⟩ := pq_ (Kd.at_int HR0.out (ji8)); obtain rfl : ad168 = ad170 := (by injection e170); have p171 : 0 ≤ (x5_1 : Int) := of_decide_eq_true q0_; have q171 : x5_1 < (l0.length : Int) := of_decide_eq_true q0_; obtain ⟨ad171, e171, hx171_0⟩ := Kd.at_int HR0.out x5_1 p171 q171; obtain rfl : ad168 = ad171 := (by injection e171); replace p171 := eq_true p171; replace q171 := eq_true q171)))
         go_roundg k1
         case measure => have := HK1.out; omega
         case rel => exact ⟨(wrap64 (x5_1 + 1)), q3_, H', ⟨by have := HK1.out; omega⟩, by repeat (first | exact Drawn0.refl _ | apply Drawn0.step)⟩
       ·rw [if_neg c7] at H; have c7b0 := decide_eq_false c7; clear c7; have H' := Aside0.mk H; clear H; obtain ⟨p168, q168, ad168, e168, hx168_0⟩ := pq_ (Kd.at_int HR0.out x5_1); cases e168; go_wp2_with (first | (go_at_call 101; (try simp only [i64_w]); (with_reducible refine (spec_l01In.calls (rd l0 x5_1) 0 (wrap64 (a1 - 1)) true _ A5.out).mono ?_); rintro e w' ⟨rfl, ⟨nd, rfl⟩⟩; (try first | exact ⟨rfl, _, World.drewN_drewN _ _ _⟩ | exact ⟨rfl, _, Eq.trans (World.drewN_drewN _ _ _) (congrArg (World.drewN _) (Nat.add_assoc _ _ _))⟩)))
        repeat (go_quiet (first | (go_at_call 101; (try simp only [i64_w]); (with_reducible refine (spec_l01In.calls (rd l0 x5_1) 0 (wrap64 (a1 - 1)) true _ A5.out).mono ?_); rintro e w' ⟨rfl, ⟨nd, rfl⟩⟩; (try first | exact ⟨rfl, _, World.drewN_drewN _ _ _⟩ | exact ⟨rfl, _, Eq.trans (World.drewN_drewN _ _ _) (congrArg (World.drewN _) (Nat.add_assoc _ _ _))⟩))); try go_wp2_with (first | (go_at_call 101; (try simp only [i64_w]); (with_reducible refine (spec_l01In.calls (rd l0 x5_1) 0 (wrap64 (a1 - 1)) true _ A5.out).mono ?_); rintro e w' ⟨rfl, ⟨nd, rfl⟩⟩; (try first | exact ⟨rfl, _, World.drewN_drewN _ _ _⟩ | exact ⟨rfl, _, Eq.trans (World.drewN_drewN _ _ _) (congrArg (World.drewN _) (Nat.add_assoc _ _ _))⟩))))
        go_roundg k1
        case measure => have := HK1.out; omega
        case rel => exact ⟨(wrap64 (x5_1 + 1)), q3_, H', ⟨by have := HK1.out; omega⟩, by repeat (first | exact Drawn0.refl _ | apply Drawn0.step)⟩
      ·replace c6 := Bool.eq_false_iff.mpr c6; subst c6; rw [if_neg nf_] at H; obtain rfl := Option.some.inj H; obtain ⟨p168, q168, ad168, e168, hx168_0⟩ := pq_ (Kd.at_int HR0.out x5_1); cases e168; go_wp2_with (first | (go_at_call 101; (try simp only [i64_w]); (with_reducible refine (spec_l01In.calls (rd l0 x5_1) 0 (wrap64 (a1 - 1)) false _ A5.out).mono ?_); rintro e w' ⟨rfl, ⟨nd, rfl⟩⟩; (try first | exact ⟨rfl, _, World.drewN_drewN _ _ _⟩ | exact ⟨rfl, _, Eq.trans (World.drewN_drewN _ _ _) (congrArg (World.drewN _) (Nat.add_assoc _ _ _))⟩)))
       repeat (go_quiet (first | (go_at_call 101; (try simp only [i64_w]); (with_reducible refine (spec_l01In.calls (rd l0 x5_1) 0 (wrap64 (a1 - 1)) false _ A5.out).mono ?_); rintro e w' ⟨rfl, ⟨nd, rfl⟩⟩; (try first | exact ⟨rfl, _, World.drewN_drewN _ _ _⟩ | exact ⟨rfl, _, Eq.trans (World.drewN_drewN _ _ _) (congrArg (World.drewN _) (Nat.add_assoc _ _ _))⟩))); try go_wp2_with (first | (go_at_call 101; (try simp only [i64_w]); (with_reducible refine (spec_l01In.calls (rd l0 x5_1) 0 (wrap64 (a1 - 1)) false _ A5.out).mono ?_); rintro e w' ⟨rfl, ⟨nd, rfl⟩⟩; (try first | exact ⟨rfl, _, World.drewN_drewN _ _ _⟩ | exact ⟨rfl, _, Eq.trans (World.drewN_drewN _ _ _) (congrArg (World.drewN _) (Nat.add_assoc _ _ _))⟩))))
       go_ret; exact ⟨by first | rfl | (simp; done) | (simp [*]; done), by repeat (first | exact Drawn0.refl _ | apply Drawn0.step)⟩
     ·rw [if_neg c3] at H; have c3b0 := decide_eq_false c3; clear c3; obtain rfl := Option.some.inj H; go_wp2
      repeat (go_quiet (fail); try go_wp2)
      go_ret; exact ⟨by first | rfl | (simp; done) | (simp [*]; done), by repeat (first | exact Drawn0.refl _ | apply Drawn0.step)⟩

end Go.Proofs.Ytmodgiingohphaa.PFnExactAddVersion
