-- Made by a program (the kit's print with additions of this session: wip/tools/patch_print.py, ext.py).
-- (turned)
import Derived.Test.YtmodgiingohphaaGreatPFnExactFromRecordsx0
import Derived.Test.YtmodgiingohphaaGreatPFnExactFromRecordsx2
import Derived.Test.YtmodgiingohphaaGreatPFnExactFromRecordsx5
import Derived.Test.YtmodgiingohphaaGreatPFnExactFromRecordsx6
import Derived.Test.YtmodgiingohphaaGreatPFnExactFromRecordsx7
namespace Go.Proofs.YtmodgiingohphaaGreat.PFnExactFromRecords
open Go.RowKit Go.Proofs.YtmodgiingohphaaGreatW.PrintWords Go.Proofs.YtmodgiingohphaaGreatW.PrintLast Go.Proofs.YtmodgiingohphaaGreatW.PrintMore
attribute [local go_sem] max2_int min2_int max_two min_two max_three min_three max_four min_four   -- for this text's walks alone
set_option linter.unusedVariables false
set_option linter.unusedSimpArgs false

/-! ### impl_records: function 39 -/
def impl_records.l0 : Nat → List (S48) → Int → List Int → List (S55) → Int → Int → Option ((List (S48)))
  | 0, _, _, _, _, _, _ => none
  | k + 1, x3, x4, x5, x9, x10, x11 => if x11 < x10 then (if 0 ≤ x11 then (if x11 < (x9.length : Int) then ((impl_marks.f k x4 x5 ((rd_T55 x9 x11).f1) ((rd_T55 x9 x11).f3)).bind fun t191 => (if x3.length + t191.length < 4398046511104 then ((some (x3 ++ t191 : List (S48))).bind fun y194 => (if y194.length < 4398046511104 then (impl_records.l0 k (y194 ++ [(⟨1, 0, (rd_T55 x9 x11).f0⟩ : S48)]) ((rd_T55 x9 x11).f1) ((rd_T55 x9 x11).f3) x9 x10 (wrap64 (x11 + 1))) else (none))) else (none))) else (none)) else (none)) else ((impl_marks.f k x4 x5 (-1) ([] : List Int)).bind fun t200 => (if x3.length + t200.length < 4398046511104 then (some (x3 ++ t200)) else (none)))
def impl_records.f (k : Nat) (l0_0 : List (List Int)) (l0_1 : List (S55)) : Option ((List (S48))) := impl_records.l0 k ([] : List (S48)) (-1) ([] : List Int) l0_1 (l0_1.length : Int) 0
theorem impl_records.mono_l : ∀ k, (∀ y0 y1 y2 y3 y4 y5, LeO (impl_records.l0 k y0 y1 y2 y3 y4 y5) (impl_records.l0 (k + 1) y0 y1 y2 y3 y4 y5))
  | 0 => by intros; exact LeO.none _
  | k + 1 => by
    have ih0 := impl_records.mono_l k; intros ; unfold impl_records.l0 ; repeat' with_reducible first | exact LeO.refl _ | exact LeO.none _ | refine LeO.ite ?_ ?_ | refine LeO.bind ?_ (fun _ => ?_) | exact ih0 _ _ _ _ _ _ | exact impl_marks.mono _ _ _ _ _
theorem impl_records.mono : ∀ a0 a1 k, LeO (impl_records.f k a0 a1) (impl_records.f (k + 1) a0 a1) := by
  intro a0 a1 k; have ih0 := impl_records.mono_l k; unfold impl_records.f
  repeat' with_reducible first | exact LeO.refl _ | exact LeO.none _ | refine LeO.ite ?_ ?_ | refine LeO.bind ?_ (fun _ => ?_) | exact ih0 _ _ _ _ _ _ | exact impl_marks.mono _ _ _ _ _
set_option maxHeartbeats 8000000 in
set_option maxRecDepth 100000 in
theorem impl_records.calls (k : Nat) (A0_0 : Option Addr) (c0_0 : Nat) (l0_0 : List (List Int)) (P0_1_ : Nat → Prop) (A0_1 : Option Addr) (c0_1 : Nat) (l0_1 : List (S55)) (r : List (S48)) (w : World) (hr0_0 : Kd.C (Kd.slice 3 (Kd.int .i64)) w A0_0 l0_0.length l0_0) (hc0_0 : l0_0.length ≤ c0_0) (hs0_1 : Kd.V k55 55 w w.heap.size (fun k_ => P0_1_ k_) (.slice A0_1 l0_1.length c0_1) l0_1) (h : impl_records.f k l0_0 l0_1 = some r) :
    Calls Tryz.prog 39 #[.agg #[.slice A0_0 l0_0.length c0_0, .slice A0_1 l0_1.length c0_1]] w fun e w' => ∃ v0_ : Value, e = .returned (v0_) ∧ Kd.R k48 48 w' w.heap.size (fun k_ => (w.heap.size ≤ k_)) v0_ r ∧ Below w.heap.size w w' := by
  have hu28 := Tryz.underlying28; have hu55 := Tryz.underlying55; have hu48 := Tryz.underlying48; have HR0_0 := Aside0.mk hr0_0; have HC0_0 := Aside0.mk hc0_0; clear hr0_0 hc0_0; have HO0_1 := Aside0.mk (show Kd.V k55 55 w w.heap.size (fun k_ => (P0_1_ k_ ∨ w.heap.size ≤ k_)) (.slice A0_1 l0_1.length c0_1) l0_1 from Kd.V_mono hs0_1 (fun k_ hk => .inl hk)); have HB := Aside0.mk (Below.refl w.heap.size w); have H : (impl_records.l0 k ([] : List (S48)) (-1) ([] : List Int) l0_1 (l0_1.length : Int) 0) = some r := h; clear h; have H' := Aside0.mk H; clear H; go_enter Tryz.func39, Tryz.ntmps39; go_wp2_with (first | ((with_reducible refine gate_dst (N := 1) rfl ?_); refine be_ 1 #[.slice A0_0 l0_0.length c0_0, .slice A0_1 l0_1.length c0_1] 28 ?_; intro gb188 hg w2 hbox hb; refine ai5_ (Kd.V_below (Kd.V_elderB q63_ gb188 (Nat.le_of_eq hg.symm)) hb) (below_step q0_ hb) (hbox) (gw_ hg q0_) (gw_ hg q0_) ?_; clear HO0_1 HB; intro HO0_1 HB BK188 GW188 GE188; clear hb hbox hg; obtain ⟨hcz3_0, hcz3_1, hfz3_0, hfz3_1⟩ := bk2_ BK188.out))
  repeat (go_quiet (first | ((with_reducible refine gate_dst (N := 1) rfl ?_); refine be_ 1 #[.slice A0_0 l0_0.length c0_0, .slice A0_1 l0_1.length c0_1] 28 ?_; intro gb188 hg w2 hbox hb; refine ai5_ (Kd.V_below (Kd.V_elderB q63_ gb188 (Nat.le_of_eq hg.symm)) hb) (below_step q0_ hb) (hbox) (gw_ hg q0_) (gw_ hg q0_) ?_; clear HO0_1 HB; intro HO0_1 HB BK188 GW188 GE188; clear hb hbox hg; obtain ⟨hcz3_0, hcz3_1, hfz3_0, hfz3_1⟩ := bk2_ BK188.out)); try go_wp2_with (first | ((with_reducible refine gate_dst (N := 1) rfl ?_); refine be_ 1 #[.slice A0_0 l0_0.length c0_0, .slice A0_1 l0_1.length c0_1] 28 ?_; intro gb188 hg w2 hbox hb; refine ai5_ (Kd.V_below (Kd.V_elderB q63_ gb188 (Nat.le_of_eq hg.symm)) hb) (below_step q0_ hb) (hbox) (gw_ hg q0_) (gw_ hg q0_) ?_; clear HO0_1 HB; intro HO0_1 HB BK188 GW188 GE188; clear hb hbox hg; obtain ⟨hcz3_0, hcz3_1, hfz3_0, hfz3_1⟩ := bk2_ BK188.out)))
  go_loopg [3, 4, 5, 11] k (fun kq v3 v4 v5 v11 w' => ∃ (x3_1 : List (S48)) (x4_1 : Int) (x5_1 : List Int) (x11_1 : Int), v4 = .int .i64 x4_1 ∧ v11 = .int .i64 x11_1 ∧ Aside0 (impl_records.l0 kq x3_1 x4_1 x5_1 l0_1 (l0_1.length : Int) x11_1 = some r) ∧ Aside0 (kq ≤ k) ∧ Aside0 (Kd.R k48 48 w' w.heap.size (fun k_ => (w.heap.size ≤ k_)) v3 x3_1) ∧ Aside0 (Kd.V (Kd.int .i64) 3 w' w.heap.size (fun k_ => (P0_1_ k_ ∨ w.heap.size ≤ k_) ∧ some k_ ≠ (v3 : Value).ownBlock ∧ k_ ≠ gb188) v5 x5_1) ∧ Aside0 (Kd.V k55 55 w' w.heap.size (fun k_ => (P0_1_ k_ ∨ w.heap.size ≤ k_) ∧ some k_ ≠ (v3 : Value).ownBlock ∧ k_ ≠ gb188) (.slice A0_1 l0_1.length c0_1) l0_1) ∧ Aside0 (Kd.V k55 55 w' w.heap.size (fun k_ => (P0_1_ k_ ∨ w.heap.size ≤ k_) ∧ some k_ ≠ (v3 : Value).ownBlock ∧ k_ ≠ gb188) (.slice A0_1 l0_1.length c0_1) l0_1) ∧ Aside0 (w'.heap[gb188]? = some (.cells #[(.slice A0_0 l0_0.length c0_0), (.slice A0_1 l0_1.length c0_1)] 28 (0, 0))) ∧ Aside0 (Below w.heap.size w w'))
  case atStart => exact ⟨(([] : List (S48))), ((-1)), (([] : List Int)), (0), q4_, q4_, H', ⟨Nat.le_refl _⟩, ⟨by first | exact Kd.R_nil _ _ _ _ _ | exact Kd.N_nil _ _ _ _ _ | exact Kd.V_nil _ _ _ _ _ | exact Kd.Q_nil _ _ _ _ _ | exact Kd.S_nil _ _ _ _ _⟩, ⟨Kd.V_mono (Kd.R_V (Kd.R_nil _ _ _ 0 (fun _ => False))) (fun _ hk => hk.elim)⟩, ⟨by (with_reducible repeat (first | apply Kd.V_alloc | apply Kd.V_drewN | apply Kd.V_drew)); exact Kd.V_mono HO0_1.out (fun _ hk => ⟨hk.1, ⟨(by simp [Value.ownBlock]), hk.2⟩⟩)⟩, ⟨by (with_reducible repeat (first | apply Kd.V_alloc | apply Kd.V_drewN | apply Kd.V_drew)); exact Kd.V_mono HO0_1.out (fun _ hk => ⟨hk.1, ⟨(by simp [Value.ownBlock]), hk.2⟩⟩)⟩, z_ BK188, ⟨zb_⟩⟩
  case round =>
    clear H'; (try clear p2); (try clear c3); (try clear hcz3_0); (try clear hcz3_1); (try clear hfz3_0); (try clear hfz3_1); obtain ⟨x3_1, x4_1, x5_1, x11_1, rfl, rfl, HA, HK1, HO_3, HO_5, HO_9, HO_189001, BK188, HB⟩ := hrel
    cases gk with
    | zero => exact absurd HA.out (by simp [impl_records.l0])
    | succ k1 =>
      have H := HA.out; clear HA; simp only [impl_records.l0] at H; by_cases c4 : x11_1 < (l0_1.length : Int)
      · rw [if_pos c4] at H; have c4b0 : decide (x11_1 < (l0_1.length : Int)) = true := decide_eq_true c4; clear c4; obtain ⟨c5b0, H⟩ := ifd_ H; obtain ⟨c6b0, H⟩ := ifd_ H; replace H := Option.bind_eq_some_iff.mp H; obtain ⟨t191, A70, H⟩ := H; (try dsimp only at H); have A7 := Aside0.mk A70; clear A70; obtain ⟨c8, H⟩ := ifs_ H; have LMc8 := Aside0.mk c8; clear c8; obtain ⟨y194, hy_⟩ : ∃ y_ : List (S48), y_ = (x3_1 ++ t191) := ⟨_, rfl⟩; replace H : (if y194.length < 4398046511104 then (impl_records.l0 k1 (y194 ++ [(⟨1, 0, (rd_T55 l0_1 x11_1).f0⟩ : S48)]) ((rd_T55 l0_1 x11_1).f1) ((rd_T55 l0_1 x11_1).f3) l0_1 (l0_1.length : Int) (wrap64 (x11_1 + 1))) else (none)) = some r := yh_; have Ny194 := Aside0.mk hy_; clear hy_; obtain ⟨c9, H⟩ := ifs_ H; have LMc9 := Aside0.mk c9; clear c9; obtain ⟨y197, hy_⟩ : ∃ y_ : List (S48), y_ = (y194 ++ [(⟨1, 0, (rd_T55 l0_1 x11_1).f0⟩ : S48)]) := ⟨_, rfl⟩; replace H : (impl_records.l0 k1 y197 ((rd_T55 l0_1 x11_1).f1) ((rd_T55 l0_1 x11_1).f3) l0_1 (l0_1.length : Int) (wrap64 (x11_1 + 1))) = some r := yh_; have Ny197 := Aside0.mk hy_; clear hy_; have H' := Aside0.mk H; clear H; have p189 : 0 ≤ (x11_1 : Int) := of_decide_eq_true q1_; have q189 : x11_1 < (l0_1.length : Int) := of_decide_eq_true q1_; obtain ⟨ad189, A189_3, c189_3, e189, hx189_0, hx189_1, hx189_2, hx189_3, hl189_3, hi189_3⟩ := at_T55 (Kd.V_reads' HO_9.out).2.2 x11_1 p189 q189; cases e189; obtain ⟨ce189, hce189, hMe189, hcc189⟩ := Kd.V_get HO_9.out z55 x11_1 p189 (by first | exact q189 | exact of_decide_eq_true q1_ | (have e_ := (Kd.V_reads' HO_9.out).1; omega)); obtain ⟨ua189_3, uc189_3, rfl, ul189_3, ge189_3⟩ := k55_openF hMe189; have hv189_3 := hcc189 3 _ rfl; rw [add_field _ _ 3 (by omega)] at hv189_3; replace hv189_3 := Option.some.inj (hv189_3.symm.trans hx189_3); injection hv189_3 with hva_ hvn_ hvc_
        rw [hva_] at ge189_3; rw [hvc_] at ul189_3; have HL189_3 := Aside0.mk (show Kd.V (Kd.int .i64) 3 _ w.heap.size _ _ ((rd_T55 l0_1 x11_1).f3) from Kd.V_mk ul189_3 ge189_3); clear hva_ hvn_ hvc_ ge189_3 ul189_3; clear hcc189 hce189; have HR189_3 := Aside0.mk hi189_3; have HC189_3 := Aside0.mk hl189_3; clear hi189_3 hl189_3; replace p189 := eq_true p189; replace q189 := eq_true q189; go_wp2_with (first | ((with_reducible refine gate_dst (N := 7) rfl ?_); refine be_ 7 #[.string (⟨#[]⟩ : ByteArray), .int .i64 0, .int .i64 0, .slice none 0 0] 55 ?_; intro gb190 hg w10 hbox hb; refine ai13_ (Kd.R_below q15_ hb) (Kd.V_below (Kd.V_elderB q52_ gb190 (Nat.le_of_eq hg.symm)) hb) (Kd.V_below (Kd.V_elderB q53_ gb190 (Nat.le_of_eq hg.symm)) hb) (Kd.V_below (Kd.V_elderB q43_ gb190 (Nat.le_of_eq hg.symm)) hb) (Kd.V_below (Kd.V_elderB q62_ gb190 (Nat.le_of_eq hg.symm)) hb) (bb_ BK188 hb) (Kd.C_below (by repeat (first | (with_reducible exact HR189_3.out) | (with_reducible refine Kd.C_alloc ?_ _) | (with_reducible refine Kd.C_drewN ?_ _) | (with_reducible refine Kd.C_drew ?_) | exact HR189_3.out)) hb) (below_step q7_ hb) (hbox) (gw_ hg q7_) (gw_ hg q7_) (n1_ hg BK188) (n2_ hg BK188) ?_; clear HO_3 HO_5 HO_9 HO_189001 HL189_3 BK188 HR189_3 HB; intro HO_3 HO_5 HO_9 HO_189001 HL189_3 BK188 HR189_3 HB BK190 GW190 GE190 NB188_190 NB190_188; clear hb hbox hg; have hnb11 := NB190_188.out; have hnc11 := NB188_190.out; obtain ⟨hcz12_0, hcz12_1, hcz12_2, hcz12_3, hfz12_0, hfz12_1, hfz12_2, hfz12_3⟩ := bk4_ BK190.out; obtain ⟨Ao13, co13, eo13⟩ := Kd.V_slice HO_5.out; subst eo13) | (go_at_call 66; (try simp only [i64_w]); (with_reducible refine (impl_marks.calls k1 x4_1 _ _ x5_1 ((rd_T55 l0_1 x11_1).f1) _ _ ((rd_T55 l0_1 x11_1).f3) t191 _ ?side1 ?side2 ?side3 ?side4 A7.out).mono ?_); (case side1 => exact (Kd.V_reads' (e := 3) (base := w.heap.size) (n := x5_1.length) (c := co13) q11_).2.2); (case side2 => exact (Kd.V_reads' HO_5.out).2.1); (case side3 => repeat (first | exact ((Kd.V_reads' q6_).2.2) | (with_reducible refine Kd.C_alloc ?_ _) | (with_reducible refine Kd.C_drewN ?_ _) | (with_reducible refine Kd.C_drew ?_))); (case side4 => exact HC189_3.out); rintro e w14 ⟨v192, rfl, ho0, hb⟩; refine ai10_ (Kd.R_elder' q12_ (Kd.R_base ho0) hb) (Kd.V_elder' q11_ (Kd.R_base ho0) hb) (Kd.V_elder' q25_ (Kd.R_base ho0) hb) (Kd.V_elder' q24_ (Kd.R_base ho0) hb) (Kd.V_elder' q6_ (Kd.R_base ho0) hb) (Kd.R_lower (Kd.R_new' (Kd.R_newM (M := fun k_ => (w.heap.size ≤ k_)) ho0 (below_size q5_) (fun k_ h_ => h_)) (Kd.R_lt q12_)) (below_size q5_)) (blk_below (g := gb188) (o := .cells #[.slice A0_0 l0_0.length c0_0, .slice (some ad189) l0_1.length c0_1] 28 (0, 0)) q21_ hb) (Kd.C_below ((Kd.V_reads' q6_).2.2) hb) (blk_below (g := gb190) (o := .cells #[.string ((rd_T55 l0_1 x11_1).f0), .int .i64 ((rd_T55 l0_1 x11_1).f1), .int .i64 ((rd_T55 l0_1 x11_1).f2), .slice A189_3 ((rd_T55 l0_1 x11_1).f3).length c189_3] 55 (0, 0)) (by (with_reducible repeat (first | refine blk_drewN ?_ _ | refine blk_drew ?_ | refine blk_alloc ?_ _)); refine blk_put (cs := #[.string ((rd_T55 l0_1 x11_1).f0), .int .i64 ((rd_T55 l0_1 x11_1).f1), .int .i64 ((rd_T55 l0_1 x11_1).f2), .slice none 0 0]) ?_ 3 _ rfl; (with_reducible repeat (first | refine blk_drewN ?_ _ | refine blk_drew ?_ | refine blk_alloc ?_ _)); refine blk_put (cs := #[.string ((rd_T55 l0_1 x11_1).f0), .int .i64 ((rd_T55 l0_1 x11_1).f1), .int .i64 0, .slice none 0 0]) ?_ 2 _ rfl; (with_reducible repeat (first | refine blk_drewN ?_ _ | refine blk_drew ?_ | refine blk_alloc ?_ _)); refine blk_put (cs := #[.string ((rd_T55 l0_1 x11_1).f0), .int .i64 0, .int .i64 0, .slice none 0 0]) ?_ 1 _ rfl; (with_reducible repeat (first | refine blk_drewN ?_ _ | refine blk_drew ?_ | refine blk_alloc ?_ _)); refine blk_put (cs := #[.string (⟨#[]⟩ : ByteArray), .int .i64 0, .int .i64 0, .slice none 0 0]) ?_ 0 _ rfl; (with_reducible repeat (first | refine blk_drewN ?_ _ | refine blk_drew ?_ | refine blk_alloc ?_ _)); exact BK190.out) hb) (below_step q5_ hb) ?_; clear HO_3 HO_5 HO_9 HO_189001 HL189_3 BK188 HR189_3 BK190 HB; intro HO_3 HO_5 HO_9 HO_189001 HL189_3 HO193 BK188 HR189_3 BK190 HB; (try clear hb); (try clear hb2); (try clear hk); (try clear hi); (try clear ho0); obtain ⟨Ao16, co16, eo16⟩ := Kd.R_slice HO193.out; subst eo16) | ((with_reducible refine gate_builtin (b := .append) (xs := #[.tmp 15, .tmp 22]) rfl ?_); at_builtin; refine Kd.R_append_rows k48 (w0 := w) w.heap.size rfl (.tmp 15) (.tmp 22) 32 48 (.agg #[(.int .i64 0), (.int .i64 0), (.string ⟨#[]⟩)]) 32 rfl Tryz.underlying32 info48 rfl (by decide) (by omega) u3 x3_1 t191 _ _ _ (fun k_ => (w.heap.size ≤ k_) ∧ some k_ ≠ (.slice Ao16 t191.length co16 : Value).ownBlock) (fun _ => False) rfl rfl ?aO ?aR (fun _ _ h => h) (fun _ h => h.elim) ?aF ?aB ?aS ?aL ?_; (case aR => repeat (first | exact (Kd.R_reads' HO193.out).2.2 | (with_reducible refine Kd.C_alloc ?_ _) | (with_reducible refine Kd.C_drewN ?_ _) | (with_reducible refine Kd.C_drew ?_))); (case aB => exact q5_); (case aF => exact (fun k_ hk => ⟨(Nat.le_trans (below_size q5_) hk), Kd.fresh' (Kd.R_lt q48_) k_ hk⟩)); (case aO => exact q15_); (case aS => exact (below_size q5_)); (case aL => have := LMc8.out; omega); intro v195 w15 ho hb hg hat; rw [← Ny194.out] at ho; refine ai9_ (Kd.V_afterv (ok := (fun k_ => (P0_1_ k_ ∨ w.heap.size ≤ k_) ∧ some k_ ≠ (.slice Ao16 t191.length co16 : Value).ownBlock ∧ k_ ≠ gb188 ∧ k_ ≠ gb190)) (by (with_reducible repeat (first | apply Kd.V_alloc | apply Kd.V_drewN | apply Kd.V_drew)); exact Kd.V_mono HO_5.out (fun _ hk => ⟨⟨hk.1.1.1, ⟨hk.2, ⟨hk.1.1.2.2, hk.1.2⟩⟩⟩, hk.1.1.2.1⟩)) hg hat) (Kd.V_afterv (ok := (fun k_ => (P0_1_ k_ ∨ w.heap.size ≤ k_) ∧ some k_ ≠ (.slice Ao16 t191.length co16 : Value).ownBlock ∧ k_ ≠ gb188 ∧ k_ ≠ gb190)) (by (with_reducible repeat (first | apply Kd.V_alloc | apply Kd.V_drewN | apply Kd.V_drew)); exact Kd.V_mono HO_9.out (fun _ hk => ⟨⟨hk.1.1.1, ⟨hk.2, ⟨hk.1.1.2.2, hk.1.2⟩⟩⟩, hk.1.1.2.1⟩)) hg hat) (Kd.V_afterv (ok := (fun k_ => (P0_1_ k_ ∨ w.heap.size ≤ k_) ∧ some k_ ≠ (.slice Ao16 t191.length co16 : Value).ownBlock ∧ k_ ≠ gb188 ∧ k_ ≠ gb190)) (by (with_reducible repeat (first | apply Kd.V_alloc | apply Kd.V_drewN | apply Kd.V_drew)); exact Kd.V_mono HO_189001.out (fun _ hk => ⟨⟨hk.1.1.1, ⟨hk.2, ⟨hk.1.1.2.2, hk.1.2⟩⟩⟩, hk.1.1.2.1⟩)) hg hat) (bg_ BK188 hg (Kd.R_ne HO_3.out BK188.out (by decide))) (Kd.V_afterv (ok := (fun k_ => (P0_1_ k_ ∨ w.heap.size ≤ k_) ∧ some k_ ≠ (.slice Ao16 t191.length co16 : Value).ownBlock ∧ k_ ≠ gb188 ∧ k_ ≠ gb190)) (by (with_reducible repeat (first | apply Kd.V_alloc | apply Kd.V_drewN | apply Kd.V_drew)); exact Kd.V_mono HL189_3.out (fun _ hk => ⟨⟨hk.1.1.1, ⟨hk.2, ⟨hk.1.1.2.2, hk.1.2⟩⟩⟩, hk.1.1.2.1⟩)) hg hat) (bg_ BK190 hg (Kd.R_ne HO_3.out BK190.out (by decide))) (Kd.R_after (ok := (fun k_ => (w.heap.size ≤ k_))) (by (with_reducible repeat (first | apply Kd.R_alloc | apply Kd.R_drewN | apply Kd.R_drew)); exact Kd.R_mono HO193.out (fun _ hk => ⟨hk.1.1, hk.2⟩)) hg hat) (hb) (ho) ?_; clear HO_5 HO_9 HO_189001 BK188 HL189_3 BK190 HO193 HB HO_3; intro HO_5 HO_9 HO_189001 BK188 HL189_3 BK190 HO193 HB HO196; clear ho hb hg hat; obtain ⟨hcz17_0, hcz17_1, hcz17_2, hcz17_3, hfz17_0, hfz17_1, hfz17_2, hfz17_3⟩ := bk4_ BK190.out) | ((with_reducible refine gate_builtin (b := .append) (xs := #[.tmp 24, .tmp 28]) rfl ?_); at_builtin; refine Kd.R_append k48 (w0 := w) w.heap.size rfl (.tmp 24) (.tmp 28) 32 48 (.agg #[(.int .i64 0), (.int .i64 0), (.string ⟨#[]⟩)]) 32 rfl Tryz.underlying32 info48 rfl (by decide) (by omega) v195 y194 (⟨1, 0, (rd_T55 l0_1 x11_1).f0⟩ : S48) [.int .i64 1, .int .i64 0, .string ((rd_T55 l0_1 x11_1).f0)] (fun k_ => (w.heap.size ≤ k_) ∧ some k_ ≠ (.slice Ao16 t191.length co16 : Value).ownBlock) (fun _ => False) rfl rfl ?aP (fun _ hk => hk.elim) ?aF ?aO ?aB ?aS ?aL ?_; (case aP => exact k48_mkM _ _ _ (⟨1, 0, (rd_T55 l0_1 x11_1).f0⟩ : S48)); (case aB => exact q5_); (case aF => exact (fun k_ hk => ⟨(Nat.le_trans (below_size q5_) hk), Kd.fresh' (Kd.R_lt q48_) k_ hk⟩)); (case aO => exact (zp_ HO196)); (case aS => exact (below_size q5_)); (case aL => have := LMc9.out; omega); intro v198 w18 ho hb hg hat; rw [← Ny197.out] at ho; refine ai9_ (Kd.V_afterv (ok := (fun k_ => (P0_1_ k_ ∨ w.heap.size ≤ k_) ∧ some k_ ≠ (.slice Ao16 t191.length co16 : Value).ownBlock ∧ k_ ≠ gb188 ∧ k_ ≠ gb190)) q52_ hg hat) (Kd.V_afterv (ok := (fun k_ => (P0_1_ k_ ∨ w.heap.size ≤ k_) ∧ some k_ ≠ (.slice Ao16 t191.length co16 : Value).ownBlock ∧ k_ ≠ gb188 ∧ k_ ≠ gb190)) q53_ hg hat) (Kd.V_afterv (ok := (fun k_ => (P0_1_ k_ ∨ w.heap.size ≤ k_) ∧ some k_ ≠ (.slice Ao16 t191.length co16 : Value).ownBlock ∧ k_ ≠ gb188 ∧ k_ ≠ gb190)) q43_ hg hat) (bg_ BK188 hg (Kd.R_ne HO196.out BK188.out (by decide))) (Kd.V_afterv (ok := (fun k_ => (P0_1_ k_ ∨ w.heap.size ≤ k_) ∧ some k_ ≠ (.slice Ao16 t191.length co16 : Value).ownBlock ∧ k_ ≠ gb188 ∧ k_ ≠ gb190)) q62_ hg hat) (bg_ BK190 hg (Kd.R_ne HO196.out BK190.out (by decide))) (Kd.R_after (ok := (fun k_ => (w.heap.size ≤ k_))) q48_ hg hat) (hb) (ho) ?_; clear HO_5 HO_9 HO_189001 BK188 HL189_3 BK190 HO193 HB HO196; intro HO_5 HO_9 HO_189001 BK188 HL189_3 BK190 HO193 HB HO199; clear ho hb hg hat; obtain ⟨hcz19_0, hcz19_1, hcz19_2, hcz19_3, hfz19_0, hfz19_1, hfz19_2, hfz19_3⟩ := bk4_ BK190.out))
        repeat (go_quiet (first | ((with_reducible refine gate_dst (N := 7) rfl ?_); refine be_ 7 #[.string (⟨#[]⟩ : ByteArray), .int .i64 0, .int .i64 0, .slice none 0 0] 55 ?_; intro gb190 hg w10 hbox hb; refine ai13_ (Kd.R_below q15_ hb) (Kd.V_below (Kd.V_elderB q52_ gb190 (Nat.le_of_eq hg.symm)) hb) (Kd.V_below (Kd.V_elderB q53_ gb190 (Nat.le_of_eq hg.symm)) hb) (Kd.V_below (Kd.V_elderB q43_ gb190 (Nat.le_of_eq hg.symm)) hb) (Kd.V_below (Kd.V_elderB q62_ gb190 (Nat.le_of_eq hg.symm)) hb) (bb_ BK188 hb) (Kd.C_below (by repeat (first | (with_reducible exact HR189_3.out) | (with_reducible refine Kd.C_alloc ?_ _) | (with_reducible refine Kd.C_drewN ?_ _) | (with_reducible refine Kd.C_drew ?_) | exact HR189_3.out)) hb) (below_step q7_ hb) (hbox) (gw_ hg q7_) (gw_ hg q7_) (n1_ hg BK188) (n2_ hg BK188) ?_; clear HO_3 HO_5 HO_9 HO_189001 HL189_3 BK188 HR189_3 HB; intro HO_3 HO_5 HO_9 HO_189001 HL189_3 BK188 HR189_3 HB BK190 GW190 GE190 NB188_190 NB190_188; clear hb hbox hg; have hnb11 := NB190_188.out; have hnc11 := NB188_190.out; obtain ⟨hcz12_0, hcz12_1, hcz12_2, hcz12_3, hfz12_0, hfz12_1, hfz12_2, hfz12_3⟩ := bk4_ BK190.out; obtain ⟨Ao13, co13, eo13⟩ := Kd.V_slice HO_5.out; subst eo13) | (go_at_call 66; (try simp only [i64_w]); (with_reducible refine (impl_marks.calls k1 x4_1 _ _ x5_1 ((rd_T55 l0_1 x11_1).f1) _ _ ((rd_T55 l0_1 x11_1).f3) t191 _ ?side1 ?side2 ?side3 ?side4 A7.out).mono ?_); (case side1 => exact (Kd.V_reads' (e := 3) (base := w.heap.size) (n := x5_1.length) (c := co13) q11_).2.2); (case side2 => exact (Kd.V_reads' HO_5.out).2.1); (case side3 => repeat (first | exact ((Kd.V_reads' q6_).2.2) | (with_reducible refine Kd.C_alloc ?_ _) | (with_reducible refine Kd.C_drewN ?_ _) | (with_reducible refine Kd.C_drew ?_))); (case side4 => exact HC189_3.out); rintro e w14 ⟨v192, rfl, ho0, hb⟩; refine ai10_ (Kd.R_elder' q12_ (Kd.R_base ho0) hb) (Kd.V_elder' q11_ (Kd.R_base ho0) hb) (Kd.V_elder' q25_ (Kd.R_base ho0) hb) (Kd.V_elder' q24_ (Kd.R_base ho0) hb) (Kd.V_elder' q6_ (Kd.R_base ho0) hb) (Kd.R_lower (Kd.R_new' (Kd.R_newM (M := fun k_ => (w.heap.size ≤ k_)) ho0 (below_size q5_) (fun k_ h_ => h_)) (Kd.R_lt q12_)) (below_size q5_)) (blk_below (g := gb188) (o := .cells #[.slice A0_0 l0_0.length c0_0, .slice (some ad189) l0_1.length c0_1] 28 (0, 0)) q21_ hb) (Kd.C_below ((Kd.V_reads' q6_).2.2) hb) (blk_below (g := gb190) (o := .cells #[.string ((rd_T55 l0_1 x11_1).f0), .int .i64 ((rd_T55 l0_1 x11_1).f1), .int .i64 ((rd_T55 l0_1 x11_1).f2), .slice A189_3 ((rd_T55 l0_1 x11_1).f3).length c189_3] 55 (0, 0)) (by (with_reducible repeat (first | refine blk_drewN ?_ _ | refine blk_drew ?_ | refine blk_alloc ?_ _)); refine blk_put (cs := #[.string ((rd_T55 l0_1 x11_1).f0), .int .i64 ((rd_T55 l0_1 x11_1).f1), .int .i64 ((rd_T55 l0_1 x11_1).f2), .slice none 0 0]) ?_ 3 _ rfl; (with_reducible repeat (first | refine blk_drewN ?_ _ | refine blk_drew ?_ | refine blk_alloc ?_ _)); refine blk_put (cs := #[.string ((rd_T55 l0_1 x11_1).f0), .int .i64 ((rd_T55 l0_1 x11_1).f1), .int .i64 0, .slice none 0 0]) ?_ 2 _ rfl; (with_reducible repeat (first | refine blk_drewN ?_ _ | refine blk_drew ?_ | refine blk_alloc ?_ _)); refine blk_put (cs := #[.string ((rd_T55 l0_1 x11_1).f0), .int .i64 0, .int .i64 0, .slice none 0 0]) ?_ 1 _ rfl; (with_reducible repeat (first | refine blk_drewN ?_ _ | refine blk_drew ?_ | refine blk_alloc ?_ _)); refine blk_put (cs := #[.string (⟨#[]⟩ : ByteArray), .int .i64 0, .int .i64 0, .slice none 0 0]) ?_ 0 _ rfl; (with_reducible repeat (first | refine blk_drewN ?_ _ | refine blk_drew ?_ | refine blk_alloc ?_ _)); exact BK190.out) hb) (below_step q5_ hb) ?_; clear HO_3 HO_5 HO_9 HO_189001 HL189_3 BK188 HR189_3 BK190 HB; intro HO_3 HO_5 HO_9 HO_189001 HL189_3 HO193 BK188 HR189_3 BK190 HB; (try clear hb); (try clear hb2); (try clear hk); (try clear hi); (try clear ho0); obtain ⟨Ao16, co16, eo16⟩ := Kd.R_slice HO193.out; subst eo16) | ((with_reducible refine gate_builtin (b := .append) (xs := #[.tmp 15, .tmp 22]) rfl ?_); at_builtin; refine Kd.R_append_rows k48 (w0 := w) w.heap.size rfl (.tmp 15) (.tmp 22) 32 48 (.agg #[(.int .i64 0), (.int .i64 0), (.string ⟨#[]⟩)]) 32 rfl Tryz.underlying32 info48 rfl (by decide) (by omega) u3 x3_1 t191 _ _ _ (fun k_ => (w.heap.size ≤ k_) ∧ some k_ ≠ (.slice Ao16 t191.length co16 : Value).ownBlock) (fun _ => False) rfl rfl ?aO ?aR (fun _ _ h => h) (fun _ h => h.elim) ?aF ?aB ?aS ?aL ?_; (case aR => repeat (first | exact (Kd.R_reads' HO193.out).2.2 | (with_reducible refine Kd.C_alloc ?_ _) | (with_reducible refine Kd.C_drewN ?_ _) | (with_reducible refine Kd.C_drew ?_))); (case aB => exact q5_); (case aF => exact (fun k_ hk => ⟨(Nat.le_trans (below_size q5_) hk), Kd.fresh' (Kd.R_lt q48_) k_ hk⟩)); (case aO => exact q15_); (case aS => exact (below_size q5_)); (case aL => have := LMc8.out; omega); intro v195 w15 ho hb hg hat; rw [← Ny194.out] at ho; refine ai9_ (Kd.V_afterv (ok := (fun k_ => (P0_1_ k_ ∨ w.heap.size ≤ k_) ∧ some k_ ≠ (.slice Ao16 t191.length co16 : Value).ownBlock ∧ k_ ≠ gb188 ∧ k_ ≠ gb190)) (by (with_reducible repeat (first | apply Kd.V_alloc | apply Kd.V_drewN | apply Kd.V_drew)); exact Kd.V_mono HO_5.out (fun _ hk => ⟨⟨hk.1.1.1, ⟨hk.2, ⟨hk.1.1.2.2, hk.1.2⟩⟩⟩, hk.1.1.2.1⟩)) hg hat) (Kd.V_afterv (ok := (fun k_ => (P0_1_ k_ ∨ w.heap.size ≤ k_) ∧ some k_ ≠ (.slice Ao16 t191.length co16 : Value).ownBlock ∧ k_ ≠ gb188 ∧ k_ ≠ gb190)) (by (with_reducible repeat (first | apply Kd.V_alloc | apply Kd.V_drewN | apply Kd.V_drew)); exact Kd.V_mono HO_9.out (fun _ hk => ⟨⟨hk.1.1.1, ⟨hk.2, ⟨hk.1.1.2.2, hk.1.2⟩⟩⟩, hk.1.1.2.1⟩)) hg hat) (Kd.V_afterv (ok := (fun k_ => (P0_1_ k_ ∨ w.heap.size ≤ k_) ∧ some k_ ≠ (.slice Ao16 t191.length co16 : Value).ownBlock ∧ k_ ≠ gb188 ∧ k_ ≠ gb190)) (by (with_reducible repeat (first | apply Kd.V_alloc | apply Kd.V_drewN | apply Kd.V_drew)); exact Kd.V_mono HO_189001.out (fun _ hk => ⟨⟨hk.1.1.1, ⟨hk.2, ⟨hk.1.1.2.2, hk.1.2⟩⟩⟩, hk.1.1.2.1⟩)) hg hat) (bg_ BK188 hg (Kd.R_ne HO_3.out BK188.out (by decide))) (Kd.V_afterv (ok := (fun k_ => (P0_1_ k_ ∨ w.heap.size ≤ k_) ∧ some k_ ≠ (.slice Ao16 t191.length co16 : Value).ownBlock ∧ k_ ≠ gb188 ∧ k_ ≠ gb190)) (by (with_reducible repeat (first | apply Kd.V_alloc | apply Kd.V_drewN | apply Kd.V_drew)); exact Kd.V_mono HL189_3.out (fun _ hk => ⟨⟨hk.1.1.1, ⟨hk.2, ⟨hk.1.1.2.2, hk.1.2⟩⟩⟩, hk.1.1.2.1⟩)) hg hat) (bg_ BK190 hg (Kd.R_ne HO_3.out BK190.out (by decide))) (Kd.R_after (ok := (fun k_ => (w.heap.size ≤ k_))) (by (with_reducible repeat (first | apply Kd.R_alloc | apply Kd.R_drewN | apply Kd.R_drew)); exact Kd.R_mono HO193.out (fun _ hk => ⟨hk.1.1, hk.2⟩)) hg hat) (hb) (ho) ?_; clear HO_5 HO_9 HO_189001 BK188 HL189_3 BK190 HO193 HB HO_3; intro HO_5 HO_9 HO_189001 BK188 HL189_3 BK190 HO193 HB HO196; clear ho hb hg hat; obtain ⟨hcz17_0, hcz17_1, hcz17_2, hcz17_3, hfz17_0, hfz17_1, hfz17_2, hfz17_3⟩ := bk4_ BK190.out) | ((with_reducible refine gate_builtin (b := .append) (xs := #[.tmp 24, .tmp 28]) rfl ?_); at_builtin; refine Kd.R_append k48 (w0 := w) w.heap.size rfl (.tmp 24) (.tmp 28) 32 48 (.agg #[(.int .i64 0), (.int .i64 0), (.string ⟨#[]⟩)]) 32 rfl Tryz.underlying32 info48 rfl (by decide) (by omega) v195 y194 (⟨1, 0, (rd_T55 l0_1 x11_1).f0⟩ : S48) [.int .i64 1, .int .i64 0, .string ((rd_T55 l0_1 x11_1).f0)] (fun k_ => (w.heap.size ≤ k_) ∧ some k_ ≠ (.slice Ao16 t191.length co16 : Value).ownBlock) (fun _ => False) rfl rfl ?aP (fun _ hk => hk.elim) ?aF ?aO ?aB ?aS ?aL ?_; (case aP => exact k48_mkM _ _ _ (⟨1, 0, (rd_T55 l0_1 x11_1).f0⟩ : S48)); (case aB => exact q5_); (case aF => exact (fun k_ hk => ⟨(Nat.le_trans (below_size q5_) hk), Kd.fresh' (Kd.R_lt q48_) k_ hk⟩)); (case aO => exact (zp_ HO196)); (case aS => exact (below_size q5_)); (case aL => have := LMc9.out; omega); intro v198 w18 ho hb hg hat; rw [← Ny197.out] at ho; refine ai9_ (Kd.V_afterv (ok := (fun k_ => (P0_1_ k_ ∨ w.heap.size ≤ k_) ∧ some k_ ≠ (.slice Ao16 t191.length co16 : Value).ownBlock ∧ k_ ≠ gb188 ∧ k_ ≠ gb190)) q52_ hg hat) (Kd.V_afterv (ok := (fun k_ => (P0_1_ k_ ∨ w.heap.size ≤ k_) ∧ some k_ ≠ (.slice Ao16 t191.length co16 : Value).ownBlock ∧ k_ ≠ gb188 ∧ k_ ≠ gb190)) q53_ hg hat) (Kd.V_afterv (ok := (fun k_ => (P0_1_ k_ ∨ w.heap.size ≤ k_) ∧ some k_ ≠ (.slice Ao16 t191.length co16 : Value).ownBlock ∧ k_ ≠ gb188 ∧ k_ ≠ gb190)) q43_ hg hat) (bg_ BK188 hg (Kd.R_ne HO196.out BK188.out (by decide))) (Kd.V_afterv (ok := (fun k_ => (P0_1_ k_ ∨ w.heap.size ≤ k_) ∧ some k_ ≠ (.slice Ao16 t191.length co16 : Value).ownBlock ∧ k_ ≠ gb188 ∧ k_ ≠ gb190)) q62_ hg hat) (bg_ BK190 hg (Kd.R_ne HO196.out BK190.out (by decide))) (Kd.R_after (ok := (fun k_ => (w.heap.size ≤ k_))) q48_ hg hat) (hb) (ho) ?_; clear HO_5 HO_9 HO_189001 BK188 HL189_3 BK190 HO193 HB HO196; intro HO_5 HO_9 HO_189001 BK188 HL189_3 BK190 HO193 HB HO199; clear ho hb hg hat; obtain ⟨hcz19_0, hcz19_1, hcz19_2, hcz19_3, hfz19_0, hfz19_1, hfz19_2, hfz19_3⟩ := bk4_ BK190.out)); try go_wp2_with (first | ((with_reducible refine gate_dst (N := 7) rfl ?_); refine be_ 7 #[.string (⟨#[]⟩ : ByteArray), .int .i64 0, .int .i64 0, .slice none 0 0] 55 ?_; intro gb190 hg w10 hbox hb; refine ai13_ (Kd.R_below q15_ hb) (Kd.V_below (Kd.V_elderB q52_ gb190 (Nat.le_of_eq hg.symm)) hb) (Kd.V_below (Kd.V_elderB q53_ gb190 (Nat.le_of_eq hg.symm)) hb) (Kd.V_below (Kd.V_elderB q43_ gb190 (Nat.le_of_eq hg.symm)) hb) (Kd.V_below (Kd.V_elderB q62_ gb190 (Nat.le_of_eq hg.symm)) hb) (bb_ BK188 hb) (Kd.C_below (by repeat (first | (with_reducible exact HR189_3.out) | (with_reducible refine Kd.C_alloc ?_ _) | (with_reducible refine Kd.C_drewN ?_ _) | (with_reducible refine Kd.C_drew ?_) | exact HR189_3.out)) hb) (below_step q7_ hb) (hbox) (gw_ hg q7_) (gw_ hg q7_) (n1_ hg BK188) (n2_ hg BK188) ?_; clear HO_3 HO_5 HO_9 HO_189001 HL189_3 BK188 HR189_3 HB; intro HO_3 HO_5 HO_9 HO_189001 HL189_3 BK188 HR189_3 HB BK190 GW190 GE190 NB188_190 NB190_188; clear hb hbox hg; have hnb11 := NB190_188.out; have hnc11 := NB188_190.out; obtain ⟨hcz12_0, hcz12_1, hcz12_2, hcz12_3, hfz12_0, hfz12_1, hfz12_2, hfz12_3⟩ := bk4_ BK190.out; obtain ⟨Ao13, co13, eo13⟩ := Kd.V_slice HO_5.out; subst eo13) | (go_at_call 66; (try simp only [i64_w]); (with_reducible refine (impl_marks.calls k1 x4_1 _ _ x5_1 ((rd_T55 l0_1 x11_1).f1) _ _ ((rd_T55 l0_1 x11_1).f3) t191 _ ?side1 ?side2 ?side3 ?side4 A7.out).mono ?_); (case side1 => exact (Kd.V_reads' (e := 3) (base := w.heap.size) (n := x5_1.length) (c := co13) q11_).2.2); (case side2 => exact (Kd.V_reads' HO_5.out).2.1); (case side3 => repeat (first | exact ((Kd.V_reads' q6_).2.2) | (with_reducible refine Kd.C_alloc ?_ _) | (with_reducible refine Kd.C_drewN ?_ _) | (with_reducible refine Kd.C_drew ?_))); (case side4 => exact HC189_3.out); rintro e w14 ⟨v192, rfl, ho0, hb⟩; refine ai10_ (Kd.R_elder' q12_ (Kd.R_base ho0) hb) (Kd.V_elder' q11_ (Kd.R_base ho0) hb) (Kd.V_elder' q25_ (Kd.R_base ho0) hb) (Kd.V_elder' q24_ (Kd.R_base ho0) hb) (Kd.V_elder' q6_ (Kd.R_base ho0) hb) (Kd.R_lower (Kd.R_new' (Kd.R_newM (M := fun k_ => (w.heap.size ≤ k_)) ho0 (below_size q5_) (fun k_ h_ => h_)) (Kd.R_lt q12_)) (below_size q5_)) (blk_below (g := gb188) (o := .cells #[.slice A0_0 l0_0.length c0_0, .slice (some ad189) l0_1.length c0_1] 28 (0, 0)) q21_ hb) (Kd.C_below ((Kd.V_reads' q6_).2.2) hb) (blk_below (g := gb190) (o := .cells #[.string ((rd_T55 l0_1 x11_1).f0), .int .i64 ((rd_T55 l0_1 x11_1).f1), .int .i64 ((rd_T55 l0_1 x11_1).f2), .slice A189_3 ((rd_T55 l0_1 x11_1).f3).length c189_3] 55 (0, 0)) (by (with_reducible repeat (first | refine blk_drewN ?_ _ | refine blk_drew ?_ | refine blk_alloc ?_ _)); refine blk_put (cs := #[.string ((rd_T55 l0_1 x11_1).f0), .int .i64 ((rd_T55 l0_1 x11_1).f1), .int .i64 ((rd_T55 l0_1 x11_1).f2), .slice none 0 0]) ?_ 3 _ rfl; (with_reducible repeat (first | refine blk_drewN ?_ _ | refine blk_drew ?_ | refine blk_alloc ?_ _)); refine blk_put (cs := #[.string ((rd_T55 l0_1 x11_1).f0), .int .i64 ((rd_T55 l0_1 x11_1).f1), .int .i64 0, .slice none 0 0]) ?_ 2 _ rfl; (with_reducible repeat (first | refine blk_drewN ?_ _ | refine blk_drew ?_ | refine blk_alloc ?_ _)); refine blk_put (cs := #[.string ((rd_T55 l0_1 x11_1).f0), .int .i64 0, .int .i64 0, .slice none 0 0]) ?_ 1 _ rfl; (with_reducible repeat (first | refine blk_drewN ?_ _ | refine blk_drew ?_ | refine blk_alloc ?_ _)); refine blk_put (cs := #[.string (⟨#[]⟩ : ByteArray), .int .i64 0, .int .i64 0, .slice none 0 0]) ?_ 0 _ rfl; (with_reducible repeat (first | refine blk_drewN ?_ _ | refine blk_drew ?_ | refine blk_alloc ?_ _)); exact BK190.out) hb) (below_step q5_ hb) ?_; clear HO_3 HO_5 HO_9 HO_189001 HL189_3 BK188 HR189_3 BK190 HB; intro HO_3 HO_5 HO_9 HO_189001 HL189_3 HO193 BK188 HR189_3 BK190 HB; (try clear hb); (try clear hb2); (try clear hk); (try clear hi); (try clear ho0); obtain ⟨Ao16, co16, eo16⟩ := Kd.R_slice HO193.out; subst eo16) | ((with_reducible refine gate_builtin (b := .append) (xs := #[.tmp 15, .tmp 22]) rfl ?_); at_builtin; refine Kd.R_append_rows k48 (w0 := w) w.heap.size rfl (.tmp 15) (.tmp 22) 32 48 (.agg #[(.int .i64 0), (.int .i64 0), (.string ⟨#[]⟩)]) 32 rfl Tryz.underlying32 info48 rfl (by decide) (by omega) u3 x3_1 t191 _ _ _ (fun k_ => (w.heap.size ≤ k_) ∧ some k_ ≠ (.slice Ao16 t191.length co16 : Value).ownBlock) (fun _ => False) rfl rfl ?aO ?aR (fun _ _ h => h) (fun _ h => h.elim) ?aF ?aB ?aS ?aL ?_; (case aR => repeat (first | exact (Kd.R_reads' HO193.out).2.2 | (with_reducible refine Kd.C_alloc ?_ _) | (with_reducible refine Kd.C_drewN ?_ _) | (with_reducible refine Kd.C_drew ?_))); (case aB => exact q5_); (case aF => exact (fun k_ hk => ⟨(Nat.le_trans (below_size q5_) hk), Kd.fresh' (Kd.R_lt q48_) k_ hk⟩)); (case aO => exact q15_); (case aS => exact (below_size q5_)); (case aL => have := LMc8.out; omega); intro v195 w15 ho hb hg hat; rw [← Ny194.out] at ho; refine ai9_ (Kd.V_afterv (ok := (fun k_ => (P0_1_ k_ ∨ w.heap.size ≤ k_) ∧ some k_ ≠ (.slice Ao16 t191.length co16 : Value).ownBlock ∧ k_ ≠ gb188 ∧ k_ ≠ gb190)) (by (with_reducible repeat (first | apply Kd.V_alloc | apply Kd.V_drewN | apply Kd.V_drew)); exact Kd.V_mono HO_5.out (fun _ hk => ⟨⟨hk.1.1.1, ⟨hk.2, ⟨hk.1.1.2.2, hk.1.2⟩⟩⟩, hk.1.1.2.1⟩)) hg hat) (Kd.V_afterv (ok := (fun k_ => (P0_1_ k_ ∨ w.heap.size ≤ k_) ∧ some k_ ≠ (.slice Ao16 t191.length co16 : Value).ownBlock ∧ k_ ≠ gb188 ∧ k_ ≠ gb190)) (by (with_reducible repeat (first | apply Kd.V_alloc | apply Kd.V_drewN | apply Kd.V_drew)); exact Kd.V_mono HO_9.out (fun _ hk => ⟨⟨hk.1.1.1, ⟨hk.2, ⟨hk.1.1.2.2, hk.1.2⟩⟩⟩, hk.1.1.2.1⟩)) hg hat) (Kd.V_afterv (ok := (fun k_ => (P0_1_ k_ ∨ w.heap.size ≤ k_) ∧ some k_ ≠ (.slice Ao16 t191.length co16 : Value).ownBlock ∧ k_ ≠ gb188 ∧ k_ ≠ gb190)) (by (with_reducible repeat (first | apply Kd.V_alloc | apply Kd.V_drewN | apply Kd.V_drew)); exact Kd.V_mono HO_189001.out (fun _ hk => ⟨⟨hk.1.1.1, ⟨hk.2, ⟨hk.1.1.2.2, hk.1.2⟩⟩⟩, hk.1.1.2.1⟩)) hg hat) (bg_ BK188 hg (Kd.R_ne HO_3.out BK188.out (by decide))) (Kd.V_afterv (ok := (fun k_ => (P0_1_ k_ ∨ w.heap.size ≤ k_) ∧ some k_ ≠ (.slice Ao16 t191.length co16 : Value).ownBlock ∧ k_ ≠ gb188 ∧ k_ ≠ gb190)) (by (with_reducible repeat (first | apply Kd.V_alloc | apply Kd.V_drewN | apply Kd.V_drew)); exact Kd.V_mono HL189_3.out (fun _ hk => ⟨⟨hk.1.1.1, ⟨hk.2, ⟨hk.1.1.2.2, hk.1.2⟩⟩⟩, hk.1.1.2.1⟩)) hg hat) (bg_ BK190 hg (Kd.R_ne HO_3.out BK190.out (by decide))) (Kd.R_after (ok := (fun k_ => (w.heap.size ≤ k_))) (by (with_reducible repeat (first | apply Kd.R_alloc | apply Kd.R_drewN | apply Kd.R_drew)); exact Kd.R_mono HO193.out (fun _ hk => ⟨hk.1.1, hk.2⟩)) hg hat) (hb) (ho) ?_; clear HO_5 HO_9 HO_189001 BK188 HL189_3 BK190 HO193 HB HO_3; intro HO_5 HO_9 HO_189001 BK188 HL189_3 BK190 HO193 HB HO196; clear ho hb hg hat; obtain ⟨hcz17_0, hcz17_1, hcz17_2, hcz17_3, hfz17_0, hfz17_1, hfz17_2, hfz17_3⟩ := bk4_ BK190.out) | ((with_reducible refine gate_builtin (b := .append) (xs := #[.tmp 24, .tmp 28]) rfl ?_); at_builtin; refine Kd.R_append k48 (w0 := w) w.heap.size rfl (.tmp 24) (.tmp 28) 32 48 (.agg #[(.int .i64 0), (.int .i64 0), (.string ⟨#[]⟩)]) 32 rfl Tryz.underlying32 info48 rfl (by decide) (by omega) v195 y194 (⟨1, 0, (rd_T55 l0_1 x11_1).f0⟩ : S48) [.int .i64 1, .int .i64 0, .string ((rd_T55 l0_1 x11_1).f0)] (fun k_ => (w.heap.size ≤ k_) ∧ some k_ ≠ (.slice Ao16 t191.length co16 : Value).ownBlock) (fun _ => False) rfl rfl ?aP (fun _ hk => hk.elim) ?aF ?aO ?aB ?aS ?aL ?_; (case aP => exact k48_mkM _ _ _ (⟨1, 0, (rd_T55 l0_1 x11_1).f0⟩ : S48)); (case aB => exact q5_); (case aF => exact (fun k_ hk => ⟨(Nat.le_trans (below_size q5_) hk), Kd.fresh' (Kd.R_lt q48_) k_ hk⟩)); (case aO => exact (zp_ HO196)); (case aS => exact (below_size q5_)); (case aL => have := LMc9.out; omega); intro v198 w18 ho hb hg hat; rw [← Ny197.out] at ho; refine ai9_ (Kd.V_afterv (ok := (fun k_ => (P0_1_ k_ ∨ w.heap.size ≤ k_) ∧ some k_ ≠ (.slice Ao16 t191.length co16 : Value).ownBlock ∧ k_ ≠ gb188 ∧ k_ ≠ gb190)) q52_ hg hat) (Kd.V_afterv (ok := (fun k_ => (P0_1_ k_ ∨ w.heap.size ≤ k_) ∧ some k_ ≠ (.slice Ao16 t191.length co16 : Value).ownBlock ∧ k_ ≠ gb188 ∧ k_ ≠ gb190)) q53_ hg hat) (Kd.V_afterv (ok := (fun k_ => (P0_1_ k_ ∨ w.heap.size ≤ k_) ∧ some k_ ≠ (.slice Ao16 t191.length co16 : Value).ownBlock ∧ k_ ≠ gb188 ∧ k_ ≠ gb190)) q43_ hg hat) (bg_ BK188 hg (Kd.R_ne HO196.out BK188.out (by decide))) (Kd.V_afterv (ok := (fun k_ => (P0_1_ k_ ∨ w.heap.size ≤ k_) ∧ some k_ ≠ (.slice Ao16 t191.length co16 : Value).ownBlock ∧ k_ ≠ gb188 ∧ k_ ≠ gb190)) q62_ hg hat) (bg_ BK190 hg (Kd.R_ne HO196.out BK190.out (by decide))) (Kd.R_after (ok := (fun k_ => (w.heap.size ≤ k_))) q48_ hg hat) (hb) (ho) ?_; clear HO_5 HO_9 HO_189001 BK188 HL189_3 BK190 HO193 HB HO196; intro HO_5 HO_9 HO_189001 BK188 HL189_3 BK190 HO193 HB HO199; clear ho hb hg hat; obtain ⟨hcz19_0, hcz19_1, hcz19_2, hcz19_3, hfz19_0, hfz19_1, hfz19_2, hfz19_3⟩ := bk4_ BK190.out)))
        go_roundg k1
        case measure => have := HK1.out; omega
        case rel => exact ⟨(y197), ((rd_T55 l0_1 x11_1).f1), ((rd_T55 l0_1 x11_1).f3), (wrap64 (x11_1 + 1)), q4_, q4_, H', ⟨by have := HK1.out; omega⟩, ⟨by (with_reducible repeat (first | apply Kd.R_alloc | apply Kd.R_drewN | apply Kd.R_drew)); exact Kd.R_mono HO199.out (fun _ hk => hk.1)⟩, ⟨by (with_reducible repeat (first | apply Kd.V_alloc | apply Kd.V_drewN | apply Kd.V_drew)); exact Kd.V_mono HL189_3.out (fun _ hk => ⟨hk.1.1, ⟨hk.2, hk.1.2.2.1⟩⟩)⟩, ⟨by (with_reducible repeat (first | apply Kd.V_alloc | apply Kd.V_drewN | apply Kd.V_drew)); exact Kd.V_mono HO_9.out (fun _ hk => ⟨hk.1.1, ⟨hk.2, hk.1.2.2.1⟩⟩)⟩, ⟨by (with_reducible repeat (first | apply Kd.V_alloc | apply Kd.V_drewN | apply Kd.V_drew)); exact Kd.V_mono HO_189001.out (fun _ hk => ⟨hk.1.1, ⟨hk.2, hk.1.2.2.1⟩⟩)⟩, z_ BK188, ⟨zb_⟩⟩
      · rw [if_neg c4] at H; have c4b0 : decide (x11_1 < (l0_1.length : Int)) = false := decide_eq_false c4; clear c4; replace H := Option.bind_eq_some_iff.mp H; obtain ⟨t200, A200, H⟩ := H; (try dsimp only at H); have A20 := Aside0.mk A200; clear A200; obtain ⟨c21, H⟩ := ifs_ H; have LMc21 := Aside0.mk c21; clear c21; obtain ⟨y203, hy_⟩ : ∃ y_ : List (S48), y_ = (x3_1 ++ t200) := ⟨_, rfl⟩; replace H : (some y203) = some r := yh_; have Ny203 := Aside0.mk hy_; clear hy_; obtain rfl := Option.some.inj H; obtain ⟨Ao22, co22, eo22⟩ := Kd.V_slice HO_5.out; subst eo22; go_wp2_with (first | (go_at_call 66; (refine (impl_marks.calls k1 x4_1 _ _ x5_1 (-1) _ _ ([] : List Int) t200 _ ?side1 ?side2 ?side3 ?side4 A20.out).mono ?_); (case side1 => exact (by repeat (first | exact (Kd.V_reads' HO_5.out).2.2 | (with_reducible refine Kd.C_alloc ?_ _) | (with_reducible refine Kd.C_drewN ?_ _) | (with_reducible refine Kd.C_drew ?_)))); (case side2 => exact (Kd.V_reads' HO_5.out).2.1); (case side3 => exact Kd.C_nil _ _); (case side4 => exact Nat.le_refl _); rintro e w23 ⟨v201, rfl, ho0, hb⟩; refine ai7_ (Kd.R_elder' q15_ (Kd.R_base ho0) hb) (Kd.V_elder' q52_ (Kd.R_base ho0) hb) (Kd.V_elder' q53_ (Kd.R_base ho0) hb) (Kd.V_elder' q43_ (Kd.R_base ho0) hb) (Kd.R_lower (Kd.R_new' (Kd.R_newM (M := fun k_ => (w.heap.size ≤ k_)) ho0 (below_size q7_) (fun k_ h_ => h_)) (Kd.R_lt q15_)) (below_size q7_)) (bb_ BK188 hb) (below_step q7_ hb) ?_; clear HO_3 HO_5 HO_9 HO_189001 BK188 HB; intro HO_3 HO_5 HO_9 HO_189001 HO202 BK188 HB; (try clear hb); (try clear hb2); (try clear hk); (try clear hi); (try clear ho0); obtain ⟨Ao25, co25, eo25⟩ := Kd.R_slice HO202.out; subst eo25) | ((with_reducible refine gate_builtin (b := .append) (xs := #[.tmp 35, .tmp 38]) rfl ?_); at_builtin; refine Kd.R_append_rows k48 (w0 := w) w.heap.size rfl (.tmp 35) (.tmp 38) 32 48 (.agg #[(.int .i64 0), (.int .i64 0), (.string ⟨#[]⟩)]) 32 rfl Tryz.underlying32 info48 rfl (by decide) (by omega) u3 x3_1 t200 _ _ _ (fun k_ => (w.heap.size ≤ k_) ∧ some k_ ≠ (.slice Ao25 t200.length co25 : Value).ownBlock) (fun _ => False) rfl rfl ?aO ?aR (fun _ _ h => h) (fun _ h => h.elim) ?aF ?aB ?aS ?aL ?_; (case aR => repeat (first | exact (Kd.R_reads' HO202.out).2.2 | (with_reducible refine Kd.C_alloc ?_ _) | (with_reducible refine Kd.C_drewN ?_ _) | (with_reducible refine Kd.C_drew ?_))); (case aB => exact q7_); (case aF => exact (fun k_ hk => ⟨(Nat.le_trans (below_size q7_) hk), Kd.fresh' (Kd.R_lt (zp_ HO202)) k_ hk⟩)); (case aO => exact q15_); (case aS => exact (below_size q7_)); (case aL => have := LMc21.out; omega); intro v204 w24 ho hb hg hat; rw [← Ny203.out] at ho; refine ai7_ (Kd.V_afterv (ok := (fun k_ => (P0_1_ k_ ∨ w.heap.size ≤ k_) ∧ some k_ ≠ (.slice Ao25 t200.length co25 : Value).ownBlock ∧ k_ ≠ gb188)) (by (with_reducible repeat (first | apply Kd.V_alloc | apply Kd.V_drewN | apply Kd.V_drew)); exact Kd.V_mono HO_5.out (fun _ hk => ⟨⟨hk.1.1, ⟨hk.2, hk.1.2.2⟩⟩, hk.1.2.1⟩)) hg hat) (Kd.V_afterv (ok := (fun k_ => (P0_1_ k_ ∨ w.heap.size ≤ k_) ∧ some k_ ≠ (.slice Ao25 t200.length co25 : Value).ownBlock ∧ k_ ≠ gb188)) (by (with_reducible repeat (first | apply Kd.V_alloc | apply Kd.V_drewN | apply Kd.V_drew)); exact Kd.V_mono HO_9.out (fun _ hk => ⟨⟨hk.1.1, ⟨hk.2, hk.1.2.2⟩⟩, hk.1.2.1⟩)) hg hat) (Kd.V_afterv (ok := (fun k_ => (P0_1_ k_ ∨ w.heap.size ≤ k_) ∧ some k_ ≠ (.slice Ao25 t200.length co25 : Value).ownBlock ∧ k_ ≠ gb188)) (by (with_reducible repeat (first | apply Kd.V_alloc | apply Kd.V_drewN | apply Kd.V_drew)); exact Kd.V_mono HO_189001.out (fun _ hk => ⟨⟨hk.1.1, ⟨hk.2, hk.1.2.2⟩⟩, hk.1.2.1⟩)) hg hat) (bg_ BK188 hg (Kd.R_ne HO_3.out BK188.out (by decide))) (Kd.R_after (ok := (fun k_ => (w.heap.size ≤ k_))) (by (with_reducible repeat (first | apply Kd.R_alloc | apply Kd.R_drewN | apply Kd.R_drew)); exact Kd.R_mono HO202.out (fun _ hk => ⟨hk.1.1, hk.2⟩)) hg hat) (hb) (ho) ?_; clear HO_5 HO_9 HO_189001 BK188 HO202 HB HO_3; intro HO_5 HO_9 HO_189001 BK188 HO202 HB HO205; clear ho hb hg hat))
        repeat (go_quiet (first | (go_at_call 66; (refine (impl_marks.calls k1 x4_1 _ _ x5_1 (-1) _ _ ([] : List Int) t200 _ ?side1 ?side2 ?side3 ?side4 A20.out).mono ?_); (case side1 => exact (by repeat (first | exact (Kd.V_reads' HO_5.out).2.2 | (with_reducible refine Kd.C_alloc ?_ _) | (with_reducible refine Kd.C_drewN ?_ _) | (with_reducible refine Kd.C_drew ?_)))); (case side2 => exact (Kd.V_reads' HO_5.out).2.1); (case side3 => exact Kd.C_nil _ _); (case side4 => exact Nat.le_refl _); rintro e w23 ⟨v201, rfl, ho0, hb⟩; refine ai7_ (Kd.R_elder' q15_ (Kd.R_base ho0) hb) (Kd.V_elder' q52_ (Kd.R_base ho0) hb) (Kd.V_elder' q53_ (Kd.R_base ho0) hb) (Kd.V_elder' q43_ (Kd.R_base ho0) hb) (Kd.R_lower (Kd.R_new' (Kd.R_newM (M := fun k_ => (w.heap.size ≤ k_)) ho0 (below_size q7_) (fun k_ h_ => h_)) (Kd.R_lt q15_)) (below_size q7_)) (bb_ BK188 hb) (below_step q7_ hb) ?_; clear HO_3 HO_5 HO_9 HO_189001 BK188 HB; intro HO_3 HO_5 HO_9 HO_189001 HO202 BK188 HB; (try clear hb); (try clear hb2); (try clear hk); (try clear hi); (try clear ho0); obtain ⟨Ao25, co25, eo25⟩ := Kd.R_slice HO202.out; subst eo25) | ((with_reducible refine gate_builtin (b := .append) (xs := #[.tmp 35, .tmp 38]) rfl ?_); at_builtin; refine Kd.R_append_rows k48 (w0 := w) w.heap.size rfl (.tmp 35) (.tmp 38) 32 48 (.agg #[(.int .i64 0), (.int .i64 0), (.string ⟨#[]⟩)]) 32 rfl Tryz.underlying32 info48 rfl (by decide) (by omega) u3 x3_1 t200 _ _ _ (fun k_ => (w.heap.size ≤ k_) ∧ some k_ ≠ (.slice Ao25 t200.length co25 : Value).ownBlock) (fun _ => False) rfl rfl ?aO ?aR (fun _ _ h => h) (fun _ h => h.elim) ?aF ?aB ?aS ?aL ?_; (case aR => repeat (first | exact (Kd.R_reads' HO202.out).2.2 | (with_reducible refine Kd.C_alloc ?_ _) | (with_reducible refine Kd.C_drewN ?_ _) | (with_reducible refine Kd.C_drew ?_))); (case aB => exact q7_); (case aF => exact (fun k_ hk => ⟨(Nat.le_trans (below_size q7_) hk), Kd.fresh' (Kd.R_lt (zp_ HO202)) k_ hk⟩)); (case aO => exact q15_); (case aS => exact (below_size q7_)); (case aL => have := LMc21.out; omega); intro v204 w24 ho hb hg hat; rw [← Ny203.out] at ho; refine ai7_ (Kd.V_afterv (ok := (fun k_ => (P0_1_ k_ ∨ w.heap.size ≤ k_) ∧ some k_ ≠ (.slice Ao25 t200.length co25 : Value).ownBlock ∧ k_ ≠ gb188)) (by (with_reducible repeat (first | apply Kd.V_alloc | apply Kd.V_drewN | apply Kd.V_drew)); exact Kd.V_mono HO_5.out (fun _ hk => ⟨⟨hk.1.1, ⟨hk.2, hk.1.2.2⟩⟩, hk.1.2.1⟩)) hg hat) (Kd.V_afterv (ok := (fun k_ => (P0_1_ k_ ∨ w.heap.size ≤ k_) ∧ some k_ ≠ (.slice Ao25 t200.length co25 : Value).ownBlock ∧ k_ ≠ gb188)) (by (with_reducible repeat (first | apply Kd.V_alloc | apply Kd.V_drewN | apply Kd.V_drew)); exact Kd.V_mono HO_9.out (fun _ hk => ⟨⟨hk.1.1, ⟨hk.2, hk.1.2.2⟩⟩, hk.1.2.1⟩)) hg hat) (Kd.V_afterv (ok := (fun k_ => (P0_1_ k_ ∨ w.heap.size ≤ k_) ∧ some k_ ≠ (.slice Ao25 t200.length co25 : Value).ownBlock ∧ k_ ≠ gb188)) (by (with_reducible repeat (first | apply Kd.V_alloc | apply Kd.V_drewN | apply Kd.V_drew)); exact Kd.V_mono HO_189001.out (fun _ hk => ⟨⟨hk.1.1, ⟨hk.2, hk.1.2.2⟩⟩, hk.1.2.1⟩)) hg hat) (bg_ BK188 hg (Kd.R_ne HO_3.out BK188.out (by decide))) (Kd.R_after (ok := (fun k_ => (w.heap.size ≤ k_))) (by (with_reducible repeat (first | apply Kd.R_alloc | apply Kd.R_drewN | apply Kd.R_drew)); exact Kd.R_mono HO202.out (fun _ hk => ⟨hk.1.1, hk.2⟩)) hg hat) (hb) (ho) ?_; clear HO_5 HO_9 HO_189001 BK188 HO202 HB HO_3; intro HO_5 HO_9 HO_189001 BK188 HO202 HB HO205; clear ho hb hg hat)); try go_wp2_with (first | (go_at_call 66; (refine (impl_marks.calls k1 x4_1 _ _ x5_1 (-1) _ _ ([] : List Int) t200 _ ?side1 ?side2 ?side3 ?side4 A20.out).mono ?_); (case side1 => exact (by repeat (first | exact (Kd.V_reads' HO_5.out).2.2 | (with_reducible refine Kd.C_alloc ?_ _) | (with_reducible refine Kd.C_drewN ?_ _) | (with_reducible refine Kd.C_drew ?_)))); (case side2 => exact (Kd.V_reads' HO_5.out).2.1); (case side3 => exact Kd.C_nil _ _); (case side4 => exact Nat.le_refl _); rintro e w23 ⟨v201, rfl, ho0, hb⟩; refine ai7_ (Kd.R_elder' q15_ (Kd.R_base ho0) hb) (Kd.V_elder' q52_ (Kd.R_base ho0) hb) (Kd.V_elder' q53_ (Kd.R_base ho0) hb) (Kd.V_elder' q43_ (Kd.R_base ho0) hb) (Kd.R_lower (Kd.R_new' (Kd.R_newM (M := fun k_ => (w.heap.size ≤ k_)) ho0 (below_size q7_) (fun k_ h_ => h_)) (Kd.R_lt q15_)) (below_size q7_)) (bb_ BK188 hb) (below_step q7_ hb) ?_; clear HO_3 HO_5 HO_9 HO_189001 BK188 HB; intro HO_3 HO_5 HO_9 HO_189001 HO202 BK188 HB; (try clear hb); (try clear hb2); (try clear hk); (try clear hi); (try clear ho0); obtain ⟨Ao25, co25, eo25⟩ := Kd.R_slice HO202.out; subst eo25) | ((with_reducible refine gate_builtin (b := .append) (xs := #[.tmp 35, .tmp 38]) rfl ?_); at_builtin; refine Kd.R_append_rows k48 (w0 := w) w.heap.size rfl (.tmp 35) (.tmp 38) 32 48 (.agg #[(.int .i64 0), (.int .i64 0), (.string ⟨#[]⟩)]) 32 rfl Tryz.underlying32 info48 rfl (by decide) (by omega) u3 x3_1 t200 _ _ _ (fun k_ => (w.heap.size ≤ k_) ∧ some k_ ≠ (.slice Ao25 t200.length co25 : Value).ownBlock) (fun _ => False) rfl rfl ?aO ?aR (fun _ _ h => h) (fun _ h => h.elim) ?aF ?aB ?aS ?aL ?_; (case aR => repeat (first | exact (Kd.R_reads' HO202.out).2.2 | (with_reducible refine Kd.C_alloc ?_ _) | (with_reducible refine Kd.C_drewN ?_ _) | (with_reducible refine Kd.C_drew ?_))); (case aB => exact q7_); (case aF => exact (fun k_ hk => ⟨(Nat.le_trans (below_size q7_) hk), Kd.fresh' (Kd.R_lt (zp_ HO202)) k_ hk⟩)); (case aO => exact q15_); (case aS => exact (below_size q7_)); (case aL => have := LMc21.out; omega); intro v204 w24 ho hb hg hat; rw [← Ny203.out] at ho; refine ai7_ (Kd.V_afterv (ok := (fun k_ => (P0_1_ k_ ∨ w.heap.size ≤ k_) ∧ some k_ ≠ (.slice Ao25 t200.length co25 : Value).ownBlock ∧ k_ ≠ gb188)) (by (with_reducible repeat (first | apply Kd.V_alloc | apply Kd.V_drewN | apply Kd.V_drew)); exact Kd.V_mono HO_5.out (fun _ hk => ⟨⟨hk.1.1, ⟨hk.2, hk.1.2.2⟩⟩, hk.1.2.1⟩)) hg hat) (Kd.V_afterv (ok := (fun k_ => (P0_1_ k_ ∨ w.heap.size ≤ k_) ∧ some k_ ≠ (.slice Ao25 t200.length co25 : Value).ownBlock ∧ k_ ≠ gb188)) (by (with_reducible repeat (first | apply Kd.V_alloc | apply Kd.V_drewN | apply Kd.V_drew)); exact Kd.V_mono HO_9.out (fun _ hk => ⟨⟨hk.1.1, ⟨hk.2, hk.1.2.2⟩⟩, hk.1.2.1⟩)) hg hat) (Kd.V_afterv (ok := (fun k_ => (P0_1_ k_ ∨ w.heap.size ≤ k_) ∧ some k_ ≠ (.slice Ao25 t200.length co25 : Value).ownBlock ∧ k_ ≠ gb188)) (by (with_reducible repeat (first | apply Kd.V_alloc | apply Kd.V_drewN | apply Kd.V_drew)); exact Kd.V_mono HO_189001.out (fun _ hk => ⟨⟨hk.1.1, ⟨hk.2, hk.1.2.2⟩⟩, hk.1.2.1⟩)) hg hat) (bg_ BK188 hg (Kd.R_ne HO_3.out BK188.out (by decide))) (Kd.R_after (ok := (fun k_ => (w.heap.size ≤ k_))) (by (with_reducible repeat (first | apply Kd.R_alloc | apply Kd.R_drewN | apply Kd.R_drew)); exact Kd.R_mono HO202.out (fun _ hk => ⟨hk.1.1, hk.2⟩)) hg hat) (hb) (ho) ?_; clear HO_5 HO_9 HO_189001 BK188 HO202 HB HO_3; intro HO_5 HO_9 HO_189001 BK188 HO202 HB HO205; clear ho hb hg hat)))
        go_ret; exact ⟨_, er_, by (with_reducible repeat (first | apply Kd.R_alloc | apply Kd.R_drewN | apply Kd.R_drew)); exact Kd.R_mono HO205.out (fun _ hk => hk.1), zb_⟩
/-! ### impl_FromRecords: function 10 -/
theorem infoBody : (Tryz.prog.info? 55).map (fun i => (i.zero, i.size, i.bytes)) = some (some (.agg #[.string ⟨#[]⟩, .int .i64 0, .int .i64 0, .slice none 0 0]), 4, 56) := by kernel_rfl
/-- Where FromRecords' own memory lies: the answer's block, the weave's, the walker's (or the body's that is told), the counts, what is deleted, the weave's rows. -/
structure Lies (m : Nat) (w0 W : World) (g4 g6 g9 tn : Nat) (cs : Array Value) (v8 vp vb vd : Value) (ps : List (List Int)) (born : List Int) (bs : List S55) (d : List Int) : Prop where
  b : Below w0.heap.size w0 W
  n4 : w0.heap.size ≤ g4
  n6 : w0.heap.size ≤ g6
  n9 : w0.heap.size ≤ g9
  e46 : g4 ≠ g6
  e49 : g4 ≠ g9
  e69 : g6 ≠ g9
  h4 : W.heap[g4]? = some (.cells #[.slice none 0 0, .slice none 0 0] 28 (0, 0))
  h6 : W.heap[g6]? = some (.cells #[vp, vb] 28 (0, 0))
  h9 : W.heap[g9]? = some (.cells cs tn (0, 0))
  rb : Kd.R (Kd.int .i64) 3 W w0.heap.size (fun k => k ≠ g4 ∧ k ≠ g6 ∧ k ≠ g9 ∧ some k ≠ vd.ownBlock) v8 born
  rd : Kd.R (Kd.int .i64) 3 W w0.heap.size (fun k => k ≠ g4 ∧ k ≠ g6 ∧ k ≠ g9 ∧ some k ≠ v8.ownBlock) vd d
  sp : Kd.S (Kd.slice 3 (Kd.int .i64)) 50 W w0.heap.size (fun k => k ≠ g4 ∧ k ≠ g6 ∧ k ≠ g9 ∧ some k ≠ v8.ownBlock ∧ some k ≠ vd.ownBlock ∧ k < m) vp ps
  sb : Kd.S k55 55 W w0.heap.size (fun k => k ≠ g4 ∧ k ≠ g6 ∧ k ≠ g9 ∧ some k ≠ v8.ownBlock ∧ some k ≠ vd.ownBlock ∧ m ≤ k) vb bs
  hm : m ≤ W.heap.size
section
variable {m : Nat} {w0 W W1 : World} {g4 g6 g9 tn : Nat} {cs : Array Value} {v8 vp vb vd : Value} {ps : List (List Int)} {born : List Int} {bs : List S55} {d : List Int}
theorem Lies.below (h : Lies m w0 W g4 g6 g9 tn cs v8 vp vb vd ps born bs d) (hb : Below W.heap.size W W1) : Lies m w0 W1 g4 g6 g9 tn cs v8 vp vb vd ps born bs d :=
  { h with b := below_step h.b hb, h4 := (hb.block g4 (blk_lt h.h4)).trans h.h4, h6 := (hb.block g6 (blk_lt h.h6)).trans h.h6, h9 := (hb.block g9 (blk_lt h.h9)).trans h.h9, rb := Kd.R_below h.rb hb, rd := Kd.R_below h.rd hb, sp := Kd.S_below h.sp hb, sb := Kd.S_below h.sb hb, hm := Nat.le_trans h.hm hb.size }
theorem Lies.drewN (h : Lies m w0 W g4 g6 g9 tn cs v8 vp vb vd ps born bs d) (n : Nat) : Lies m w0 (W.drewN n) g4 g6 g9 tn cs v8 vp vb vd ps born bs d := h.below (pw_below_drewN (Below.refl _ _) n)
theorem Lies.drew (h : Lies m w0 W g4 g6 g9 tn cs v8 vp vb vd ps born bs d) : Lies m w0 W.drew g4 g6 g9 tn cs v8 vp vb vd ps born bs d := h.below (below_drew1 (Below.refl _ _))
theorem Lies.alloc (h : Lies m w0 W g4 g6 g9 tn cs v8 vp vb vd ps born bs d) (x : Obj) : Lies m w0 (W.alloc x) g4 g6 g9 tn cs v8 vp vb vd ps born bs d := h.below (below_alloc (Below.refl _ _) x)
/-- The walker's block (and what it deletes) has changed, nothing else. -/
theorem Lies.turned {cs' : Array Value} {vd' : Value} {d' : List Int} (h : Lies m w0 W g4 g6 g9 tn cs v8 vp vb vd ps born bs d) (h9' : W1.heap[g9]? = some (.cells cs' tn (0, 0))) (hr : Kd.R (Kd.int .i64) 3 W1 w0.heap.size (fun _ => True) vd' d') (hb : Below w0.heap.size w0 W1) (hk : KeepBut W W1 g9 vd.ownBlock) (hat : vd'.ownBlock = vd.ownBlock ∨ vd'.ownBlock = none ∨ ∃ b, vd'.ownBlock = some b ∧ W.heap.size ≤ b) : Lies m w0 W1 g4 g6 g9 tn cs' v8 vp vb vd' ps born bs d' := by
  have hd := h.rd.1
  have ne : ∀ k, k < W.heap.size → some k ≠ vd.ownBlock → some k ≠ vd'.ownBlock := fun k hk1 hk2 e => by
    rcases hat with e1 | e1 | ⟨b, e1, hb1⟩
    · exact hk2 (e.trans e1)
    · rw [e1] at e; cases e
    · rw [e1] at e
      injection e with e
      omega
  have l8 := Kd.R_lt h.rb
  refine ⟨hb, h.n4, h.n6, h.n9, h.e46, h.e49, h.e69, ?_, ?_, h9', ?_, ?_, ?_, ?_, Nat.le_trans h.hm hk.1⟩
  · exact (hk.2 g4 (blk_lt h.h4) h.e49 (fun e => (hd g4 e.symm).1 rfl)).trans h.h4
  · exact (hk.2 g6 (blk_lt h.h6) h.e69 (fun e => (hd g6 e.symm).2.1 rfl)).trans h.h6
  · exact Kd.R_mono (Kd.R_step (Kd.R_bound h.rb) (fun k hk1 hl => hk.2 k hl hk1.1.2.2.1 hk1.1.2.2.2)) (fun k hk1 => ⟨hk1.1.1, hk1.1.2.1, hk1.1.2.2.1, ne k hk1.2.2.1 hk1.1.2.2.2⟩)
  · refine Kd.R_of_own (Kd.own_of_R hr) (fun k hk1 => ?_)
    rcases hat with e1 | e1 | ⟨b, e1, hb1⟩
    · exact hd k (e1 ▸ hk1)
    · rw [e1] at hk1; cases hk1
    · rw [e1] at hk1
      injection hk1 with hk1
      subst hk1
      have := blk_lt h.h4
      have := blk_lt h.h6
      have := blk_lt h.h9
      exact ⟨by omega, by omega, by omega, fun e => by have := l8 _ e.symm; omega⟩
  · exact Kd.S_mono (Kd.S_step (Kd.S_bound h.sp) (fun k hk1 hl => hk.2 k hl hk1.1.2.2.1 hk1.1.2.2.2.2.1)) (fun k hk1 => ⟨hk1.1.1, hk1.1.2.1, hk1.1.2.2.1, hk1.1.2.2.2.1, ne k hk1.2.2.1 hk1.1.2.2.2.2.1, hk1.1.2.2.2.2.2⟩)
  · exact Kd.S_mono (Kd.S_step (Kd.S_bound h.sb) (fun k hk1 hl => hk.2 k hl hk1.1.2.2.1 hk1.1.2.2.2.2.1)) (fun k hk1 => ⟨hk1.1.1, hk1.1.2.1, hk1.1.2.2.1, hk1.1.2.2.2.1, ne k hk1.2.2.1 hk1.1.2.2.2.2.1, hk1.1.2.2.2.2.2⟩)
/-- A cell of the told block that is no row. -/
theorem Lies.set9 (h : Lies m w0 W g4 g6 g9 tn cs v8 vp vb vd ps born bs d) (j : Nat) (u : Value) : Lies m w0 (W.setCell ⟨g9, j, none⟩ u) g4 g6 g9 tn (cs.setIfInBounds j u) v8 vp vb vd ps born bs d :=
  { h with b := below_set h.b h.n9, h4 := blk_far h.h4 h.e49 _, h6 := blk_far h.h6 h.e69 _, h9 := blk_set h.h9 j u, rb := Kd.R_far (p := ⟨g9, j, none⟩) h.rb (fun _ hk => hk.2.2.1) u, rd := Kd.R_far (p := ⟨g9, j, none⟩) h.rd (fun _ hk => hk.2.2.1) u, sp := Kd.S_far (p := ⟨g9, j, none⟩) h.sp (fun _ hk => hk.2.2.1) u, sb := Kd.S_far (p := ⟨g9, j, none⟩) h.sb (fun _ hk => hk.2.2.1) u, hm := by simpa [World.setCell] using h.hm }
/-- A new row is what is deleted from now on: made apart, its value stored in the told block. -/
theorem Lies.dels {vd' : Value} {d' : List Int} {ok : Nat → Prop} (h : Lies m w0 W g4 g6 g9 tn cs v8 vp vb vd ps born bs d) (hb : Below W.heap.size W W1) (hr : Kd.R (Kd.int .i64) 3 W1 W.heap.size ok vd' d') (j : Nat) : Lies m w0 (W1.setCell ⟨g9, j, none⟩ vd') g4 g6 g9 tn (cs.setIfInBounds j vd') v8 vp vb vd' ps born bs d' := by
  have h1 := h.below hb
  have hbs := Kd.R_base hr
  have l9 := blk_lt h.h9
  have hr1 : Kd.R (Kd.int .i64) 3 W1 w0.heap.size (fun k => k ≠ g9) vd' d' := by
    have hr2 := Kd.R_lower hr (below_size h.b)
    exact Kd.R_of_own (Kd.own_of_R hr2) (fun k hk e => by have := hbs k hk; omega)
  refine h.turned (cs' := cs.setIfInBounds j vd') (blk_set h1.h9 j vd') (Kd.R_mono (Kd.R_far (p := ⟨g9, j, none⟩) hr1 (fun _ hk => hk) _) (fun _ _ => trivial)) (below_set h1.b h.n9) ?_ ?_
  · exact ⟨by have := hb.size; simpa [World.setCell] using this, fun i hi hg _ => (Below.heap_setCell W1 ⟨g9, j, none⟩ vd' i hg).trans (hb.block i hi)⟩
  · rcases Kd.R_base2 hr with e | ⟨k, e, hk⟩
    · exact .inr (.inl e)
    · exact .inr (.inr ⟨k, e, hk⟩)
/-- A count: a cell of the row of counts. -/
theorem Lies.count {g n c : Nat} (h : Lies m w0 W g4 g6 g9 tn cs (.slice (some ⟨g, 0, none⟩) n c) vp vb vd ps born bs d) (i x : Int) : Lies m w0 (W.setCell ⟨g, i.toNat, none⟩ (.int .i64 x)) g4 g6 g9 tn cs (.slice (some ⟨g, 0, none⟩) n c) vp vb vd ps (born.set i.toNat x) bs d := by
  have hg := h.rb.1 g rfl
  have hbs := Kd.R_base h.rb g rfl
  refine { h with b := below_set h.b hbs, h4 := blk_far h.h4 (Ne.symm hg.1) _, h6 := blk_far h.h6 (Ne.symm hg.2.1) _, h9 := blk_far h.h9 (Ne.symm hg.2.2.1) _, rb := (Kd.R_putg h.rb i x).1, rd := ?_, sp := ?_, sb := ?_, hm := by simpa [World.setCell] using h.hm }
  · exact Kd.R_far (p := ⟨g, i.toNat, none⟩) h.rd (fun k hk e => hk.2.2.2 (by rw [e]; rfl)) _
  · exact Kd.S_far (p := ⟨g, i.toNat, none⟩) h.sp (fun k hk e => hk.2.2.2.1 (by rw [e]; rfl)) _
  · exact Kd.S_far (p := ⟨g, i.toNat, none⟩) h.sb (fun k hk e => hk.2.2.2.1 (by rw [e]; rfl)) _
/-- The row of counts is made. -/
theorem Lies.make {v8' : Value} {born' : List Int} {ok : Nat → Prop} (h : Lies m w0 W g4 g6 g9 tn cs (.slice none 0 0) vp vb vd ps born bs d) (hb : Below W.heap.size W W1) (hr : Kd.R (Kd.int .i64) 3 W1 W.heap.size ok v8' born') : Lies m w0 W1 g4 g6 g9 tn cs v8' vp vb vd ps born' bs d := by
  have h1 := h.below hb
  have hbs := Kd.R_base hr
  have ne : ∀ k, k < W.heap.size → some k ≠ v8'.ownBlock := fun k hk e => by have := hbs k e.symm; omega
  have l4 := blk_lt h.h4
  have l6 := blk_lt h.h6
  have l9 := blk_lt h.h9
  have ld := Kd.R_lt h.rd
  refine { h1 with rb := ?_, rd := ?_, sp := ?_, sb := ?_ }
  · exact Kd.R_of_own (Kd.own_of_R (Kd.R_lower hr (below_size h.b))) (fun k hk => by have := hbs k hk; exact ⟨by omega, by omega, by omega, fun e => by have := ld k e.symm; omega⟩)
  · exact Kd.R_mono (Kd.R_below (Kd.R_bound h.rd) hb) (fun k hk => ⟨hk.1.1, hk.1.2.1, hk.1.2.2.1, ne k hk.2.2.1⟩)
  · exact Kd.S_mono (Kd.S_below (Kd.S_bound h.sp) hb) (fun k hk => ⟨hk.1.1, hk.1.2.1, hk.1.2.2.1, ne k hk.2.2.1, hk.1.2.2.2.2⟩)
  · exact Kd.S_mono (Kd.S_below (Kd.S_bound h.sb) hb) (fun k hk => ⟨hk.1.1, hk.1.2.1, hk.1.2.2.1, ne k hk.2.2.1, hk.1.2.2.2.2⟩)
/-- The three blocks are made, the weave's graph is a new row. -/
theorem Lies.start {cp : Value} (hb4 : W.heap[g4]? = some (.cells #[.slice none 0 0, .slice none 0 0] 28 (0, 0))) (hg4 : w0.heap.size ≤ g4) (hw : Below w0.heap.size w0 W) (hb : Below W.heap.size W W1) (hop : Kd.S (Kd.slice 3 (Kd.int .i64)) 50 W1 W.heap.size (fun _ => True) cp ps) (tn : Nat) (cs : Array Value) :
    Lies W1.heap.size w0 ((W1.alloc (.cells #[cp, .slice none 0 0] 28)).alloc (.cells cs tn)) g4 W1.heap.size (W1.heap.size + 1) tn cs (.slice none 0 0) cp (.slice none 0 0) (.slice none 0 0) ps [] [] [] := by
  have l4 := blk_lt hb4
  have hs := hb.size
  have hs0 := below_size hw
  have h41 := (hb.block g4 l4).trans hb4
  have hz : (W1.alloc (.cells #[cp, .slice none 0 0] 28)).heap.size = W1.heap.size + 1 := World.size_alloc _ _
  have h42 : (W1.alloc (.cells #[cp, .slice none 0 0] 28)).heap[g4]? = some (.cells #[.slice none 0 0, .slice none 0 0] 28 (0, 0)) := blk_alloc h41 _
  refine ⟨below_alloc (below_alloc (below_step hw hb) _) _, hg4, by omega, by omega, by omega, by omega, by omega, blk_alloc h42 _, blk_alloc (heap_alloc_new W1 _) _, by rw [← hz]; exact heap_alloc_new _ _, Kd.R_nil _ _ _ _ _, Kd.R_nil _ _ _ _ _, ?_, Kd.S_nil _ _ _ _ _, by rw [World.size_alloc, hz]; omega⟩
  refine Kd.S_alloc (Kd.S_alloc (Kd.S_mono (Kd.S_lower (Kd.S_bound hop) hs0) (fun k hk => ?_)) _) _
  have h1 := hk.2.1
  have h2 := hk.2.2.1
  exact ⟨by omega, by omega, by omega, by simp [Value.ownBlock], by simp [Value.ownBlock], h2⟩
/-- A body more: appended, the row's value stored in the weave's block. -/
theorem Lies.body {vb1 : Value} {p : S55} (h : Lies m w0 W g4 g6 g9 tn cs v8 vp vb vd ps born bs d) (ho : Kd.S k55 55 W1 w0.heap.size (fun k => k ≠ g4 ∧ k ≠ g6 ∧ k ≠ g9 ∧ some k ≠ v8.ownBlock ∧ some k ≠ vd.ownBlock ∧ m ≤ k) vb1 (bs ++ [p])) (hB : Below w0.heap.size w0 W1) (hg : W.grownBy W1 vb.ownBlock) : Lies m w0 (W1.setCell ⟨g6, 1, none⟩ vb1) g4 g6 g9 tn cs v8 vp vb1 vd ps born (bs ++ [p]) d := by
  have hbk := (Kd.S_R h.sb).1
  have a8 : Kd.R (Kd.int .i64) 3 W w0.heap.size (fun k => v8.ownBlock = some k) v8 born := Kd.R_of_own (ok := fun k => v8.ownBlock = some k) (Kd.own_of_R h.rb) (fun _ hk => hk)
  have ad : Kd.R (Kd.int .i64) 3 W w0.heap.size (fun k => vd.ownBlock = some k) vd d := Kd.R_of_own (ok := fun k => vd.ownBlock = some k) (Kd.own_of_R h.rd) (fun _ hk => hk)
  have b8 : Kd.R (Kd.int .i64) 3 W1 w0.heap.size (fun k => v8.ownBlock = some k) v8 born := Kd.R_step a8 (fun k hk hl => hg.block k hl (fun e => (hbk k e.symm).2.2.2.1 hk.symm))
  have bd : Kd.R (Kd.int .i64) 3 W1 w0.heap.size (fun k => vd.ownBlock = some k) vd d := Kd.R_step ad (fun k hk hl => hg.block k hl (fun e => (hbk k e.symm).2.2.2.2.1 hk.symm))
  have h41 := blk_grown h.h4 hg (fun e => (hbk _ e.symm).1 rfl)
  have h61 := blk_grown h.h6 hg (fun e => (hbk _ e.symm).2.1 rfl)
  have h91 := blk_grown h.h9 hg (fun e => (hbk _ e.symm).2.2.1 rfl)
  have sp1 := Kd.S_over' h.sp (Kd.S_typed h.sb) (by decide) hg
  exact { h with b := below_set hB h.n6, h4 := blk_far h41 h.e46 _, h6 := by simpa using blk_set h61 1 vb1, h9 := blk_far h91 (Ne.symm h.e69) _, rb := Kd.R_far (p := ⟨g6, 1, none⟩) (Kd.R_mono b8 (fun k hk => h.rb.1 k hk)) (fun k hk => hk.2.1) _, rd := Kd.R_far (p := ⟨g6, 1, none⟩) (Kd.R_mono bd (fun k hk => h.rd.1 k hk)) (fun k hk => hk.2.1) _, sp := Kd.S_far (p := ⟨g6, 1, none⟩) sp1 (fun k hk => hk.2.1) _, sb := Kd.S_far (p := ⟨g6, 1, none⟩) ho (fun k hk => hk.2.1) _, hm := by have h0 := hg.size; simpa [World.setCell] using Nat.le_trans h.hm h0 }
theorem Lies.fresh (h : Lies m w0 W g4 g6 g9 tn cs v8 vp vb vd ps born bs d) (k : Nat) (hk : W.heap.size ≤ k) : (k ≠ g4 ∧ k ≠ g6 ∧ k ≠ g9 ∧ some k ≠ v8.ownBlock ∧ some k ≠ vd.ownBlock ∧ m ≤ k) ∧ some k ≠ vb.ownBlock := by
  have := blk_lt h.h4
  have := blk_lt h.h6
  have := blk_lt h.h9
  have l8 := Kd.R_lt h.rb
  have ld := Kd.R_lt h.rd
  have lb := Kd.S_lt h.sb
  exact ⟨⟨by omega, by omega, by omega, fun e => by have := l8 _ e.symm; omega, fun e => by have := ld _ e.symm; omega, Nat.le_trans h.hm hk⟩, fun e => by have := lb _ e.symm; omega⟩
theorem Lies.off (h : Lies m w0 W g4 g6 g9 tn cs v8 vp vb vd ps born bs d) : some g6 ≠ vb.ownBlock ∧ some g9 ≠ vb.ownBlock ∧ ∀ k, v8.ownBlock = some k → some k ≠ vb.ownBlock ∧ k ≠ g6 := by
  have hb := (Kd.S_R h.sb).1
  exact ⟨fun e => (hb _ e.symm).2.1 rfl, fun e => (hb _ e.symm).2.2.1 rfl, fun k hk => ⟨fun e => (hb _ e.symm).2.2.2.1 hk.symm, (h.rb.1 k hk).2.1⟩⟩
end
theorem nil_put {W : World} {g : Nat} (h : W.heap[g]? = some (.cells #[.slice none 0 0, .slice none 0 0] 28 (0, 0))) : ((W.setCell ⟨g, 0, none⟩ (.slice none 0 0)).setCell ⟨g, 1, none⟩ (.slice none 0 0)).heap[g]? = some (.cells #[.slice none 0 0, .slice none 0 0] 28 (0, 0)) :=
  blk_put (cs := #[.slice none 0 0, .slice none 0 0]) (blk_put (cs := #[.slice none 0 0, .slice none 0 0]) h 0 _ rfl) 1 _ rfl
theorem cell_grewn {W W1 : World} {row : Option Nat} {p : Addr} {u : Value} (hg : W.grownBy W1 row) (h : W.cell? p = some u) (hne : some p.block ≠ row) : W1.cell? p = some u := by
  have e := hg.block p.block (World.block_lt_of_cell? W _ h) hne
  unfold World.cell? at h ⊢
  rw [e]
  exact h
theorem four_below {W W1 : World} (hb : Below W.heap.size W W1) {p q r u : Addr} {a b c d : Value} (h : W.cell? p = some a ∧ W.cell? q = some b ∧ W.cell? r = some c ∧ W.cell? u = some d) : W1.cell? p = some a ∧ W1.cell? q = some b ∧ W1.cell? r = some c ∧ W1.cell? u = some d :=
  ⟨pw_cell_below hb h.1, pw_cell_below hb h.2.1, pw_cell_below hb h.2.2.1, pw_cell_below hb h.2.2.2⟩
theorem four_grown {W W1 : World} {row : Option Nat} (hg : W.grownBy W1 row) {p q r u : Addr} {a b c d : Value} (h : W.cell? p = some a ∧ W.cell? q = some b ∧ W.cell? r = some c ∧ W.cell? u = some d) (h1 : some p.block ≠ row) (h2 : some q.block ≠ row) (h3 : some r.block ≠ row) (h4 : some u.block ≠ row) : W1.cell? p = some a ∧ W1.cell? q = some b ∧ W1.cell? r = some c ∧ W1.cell? u = some d :=
  ⟨cell_grewn hg h.1 h1, cell_grewn hg h.2.1 h2, cell_grewn hg h.2.2.1 h3, cell_grewn hg h.2.2.2 h4⟩
theorem four_set {W : World} {g j : Nat} {v : Value} {p q r u : Addr} {a b c d : Value} (h : W.cell? p = some a ∧ W.cell? q = some b ∧ W.cell? r = some c ∧ W.cell? u = some d) (h1 : p.block ≠ g) (h2 : q.block ≠ g) (h3 : r.block ≠ g) (h4 : u.block ≠ g) : (W.setCell ⟨g, j, none⟩ v).cell? p = some a ∧ (W.setCell ⟨g, j, none⟩ v).cell? q = some b ∧ (W.setCell ⟨g, j, none⟩ v).cell? r = some c ∧ (W.setCell ⟨g, j, none⟩ v).cell? u = some d :=
  ⟨(cell_far (p := ⟨g, j, none⟩) h1 v).trans h.1, (cell_far (p := ⟨g, j, none⟩) h2 v).trans h.2.1, (cell_far (p := ⟨g, j, none⟩) h3 v).trans h.2.2.1, (cell_far (p := ⟨g, j, none⟩) h4 v).trans h.2.2.2⟩
def impl_FromRecords.l0 : Nat → List (List Int) → List S48 → Int → List Int → List S55 → Bool → Int → List Int → Int → Option (List (List Int) × List S55 × Bool)
  | 0, _, _, _, _, _, _, _, _, _ => none
  | k + 1, ps, l1, np, born, bs, o, i, d, x => if x < (l1.length : Int) then (if 0 ≤ x then (if d.length < 4000000 then
      ((impl_walker_mark.f k o i d (rd_T48 l1 x).f0 (rd_T48 l1 x).f1).bind fun m => if m.1 = true then
        (if (rd_T48 l1 x).f0 = 1 then ((impl_isPlace.f m.2.2.1 np).bind fun p => if p = true then
            (if 0 ≤ m.2.2.1 then (if m.2.2.1 < (born.length : Int) then ((slices_Sorted_int.f m.2.2.2).bind fun s => if bs.length < 2513169434916 then impl_FromRecords.l0 k ps l1 np (born.set m.2.2.1.toNat (wrap64 (rd born m.2.2.1 + 1))) (bs ++ [(⟨(rd_T48 l1 x).f2, m.2.2.1, rd born m.2.2.1, s⟩ : S55)]) m.2.1 m.2.2.1 m.2.2.2 (wrap64 (x + 1)) else none) else none) else none)
            else some ([], [], false))
         else impl_FromRecords.l0 k ps l1 np born bs m.2.1 m.2.2.1 m.2.2.2 (wrap64 (x + 1)))
      else some ([], [], false)) else none) else none)
      else ((impl_WeaveOk.f k ps bs).bind fun t => if t = true then ((impl_records.f k ps bs).bind fun rs => (impl_Rec.f k rs l1).bind fun e => if e = true then some (ps, bs, true) else some ([], [], false)) else some ([], [], false))
def impl_FromRecords.f (k : Nat) (l0 : List (List Int)) (l1 : List S48) : Option (List (List Int) × List S55 × Bool) := if (l1.length : Int) > 4000 then some ([], [], false) else (impl_GraphOk.f k l0).bind fun t => if t = true then (if l0.length ≤ 35184372088832 then (impl_copyGraph.f k l0).bind fun ps => impl_FromRecords.l0 k ps l1 (l0.length : Int) (List.replicate l0.length 0) [] false 0 [] 0 else none) else some ([], [], false)
theorem impl_FromRecords.mono_l : ∀ k, ∀ ps l1 np born bs o i d x, LeO (impl_FromRecords.l0 k ps l1 np born bs o i d x) (impl_FromRecords.l0 (k + 1) ps l1 np born bs o i d x)
  | 0 => fun _ _ _ _ _ _ _ _ _ r h => by simp [impl_FromRecords.l0] at h
  | k + 1 => by
    have ih0 := impl_FromRecords.mono_l k
    intro ps l1 np born bs o i d x
    unfold impl_FromRecords.l0
    repeat' first
      | (with_reducible exact ih0 _ _ _ _ _ _ _ _ _)
      | (with_reducible exact impl_walker_mark.mono _ _ _ _ _ _)
      | (with_reducible exact impl_WeaveOk.mono _ _ _)
      | (with_reducible exact impl_records.mono _ _ _)
      | (with_reducible exact impl_Rec.mono _ _ _)
      | (with_reducible exact LeO.refl _)
      | (with_reducible exact LeO.none _)
      | (with_reducible refine LeO.ite ?_ ?_)
      | (with_reducible refine LeO.bind ?_ (fun _ => ?_))
theorem impl_FromRecords.mono : ∀ l0 l1 k, LeO (impl_FromRecords.f k l0 l1) (impl_FromRecords.f (k + 1) l0 l1) := by
  intro l0 l1 k
  unfold impl_FromRecords.f
  repeat' first
      | (with_reducible exact impl_FromRecords.mono_l k _ _ _ _ _ _ _ _ _)
      | (with_reducible exact impl_GraphOk.mono _ _)
      | (with_reducible exact impl_copyGraph.mono _ _)
      | (with_reducible exact LeO.refl _)
      | (with_reducible refine LeO.ite ?_ ?_)
      | (with_reducible refine LeO.bind ?_ (fun _ => ?_))
/-- The walker, out of where all lies. -/
theorem Lies.st {m : Nat} {w0 W : World} {g4 g6 g9 : Nat} {o : Bool} {i : Int} {v8 vp vb v : Value} {ps : List (List Int)} {born : List Int} {bs : List S55} {d : List Int} (h : Lies m w0 W g4 g6 g9 61 #[.bool o, .int .i64 i, v] v8 vp vb v ps born bs d) : St w0 W g9 o i v d := ⟨h.h9, h.n9, Kd.R_mono h.rd (fun _ _ => trivial), h.b⟩
theorem Lies.mark {m : Nat} {w0 W W1 : World} {g4 g6 g9 : Nat} {o o' : Bool} {i i' : Int} {v8 vp vb v v' : Value} {ps : List (List Int)} {born : List Int} {bs : List S55} {d d' : List Int} (h : Lies m w0 W g4 g6 g9 61 #[.bool o, .int .i64 i, v] v8 vp vb v ps born bs d) (hs : St w0 W1 g9 o' i' v' d') (hk : KeepBut W W1 g9 v.ownBlock) (hat : v'.ownBlock = v.ownBlock ∨ ∃ b, v'.ownBlock = some b ∧ W.heap.size ≤ b) : Lies m w0 W1 g4 g6 g9 61 #[.bool o', .int .i64 i', v'] v8 vp vb v' ps born bs d' :=
  h.turned hs.1 hs.2.2.1 hs.2.2.2 hk (hat.imp id .inr)
set_option maxHeartbeats 8000000 in
set_option maxRecDepth 100000 in
theorem impl_FromRecords.calls_ap (k : Nat) (A0 : Option Addr) (c0 : Nat) (l0 : List (List Int)) (A1 : Option Addr) (c1 : Nat) (l1 : List S48) (r1 : List (List Int)) (r2 : List S55) (r3 : Bool) (w : World) (hr0 : Kd.C (Kd.slice 3 (Kd.int .i64)) w A0 l0.length l0) (hc0 : l0.length ≤ c0) (hr1 : Kd.C k48 w A1 l1.length l1) (hc1 : l1.length ≤ c1) (h : impl_FromRecords.f k l0 l1 = some (r1, r2, r3)) :
    Calls Tryz.prog 10 #[.slice A0 l0.length c0, .slice A1 l1.length c1] w fun e w' => ∃ (m_ : Nat) (v0_ v1_ : Value), e = .returned (.tuple #[.agg #[v0_, v1_], .bool r3]) ∧ Kd.S (Kd.slice 3 (Kd.int .i64)) 50 w' w.heap.size (fun k_ => k_ < m_) v0_ r1 ∧ Kd.S k55 55 w' w.heap.size (fun k_ => m_ ≤ k_) v1_ r2 ∧ Below w.heap.size w w' := by
  have hu28 := Tryz.underlying28
  unfold impl_FromRecords.f at h
  have HR0 := Aside0.mk hr0
  have HC0 := Aside0.mk hc0
  have HR1 := Aside0.mk hr1
  have HC1 := Aside0.mk hc1
  clear hr0 hc0 hr1 hc1
  go_enter Tryz.func10, Tryz.ntmps10
  go_upto_region 1 with (fail)
  have hb4 : (w.alloc (.cells #[.slice none 0 0, .slice none 0 0] 28)).heap[w.heap.size]? = some (.cells #[.slice none 0 0, .slice none 0 0] 28 (0, 0)) := heap_alloc_new w _
  have hw4 : Below w.heap.size w (w.alloc (.cells #[.slice none 0 0, .slice none 0 0] 28)) := below_alloc (Below.refl _ _) _
  generalize w.alloc (.cells #[.slice none 0 0, .slice none 0 0] 28) = w4 at hb4 hw4 ⊢
  generalize hgq : w.heap.size = g4 at hb4 ⊢
  have hg4 : w.heap.size ≤ g4 := Nat.le_of_eq hgq
  by_cases c : (l1.length : Int) > 4000
  · rw [if_pos c] at h
    have cb : decide ((l1.length : Int) > 4000) = true := decide_eq_true c
    simp only [Option.some.injEq, Prod.mk.injEq] at h
    obtain ⟨rfl, rfl, rfl⟩ := h
    clear c
    have z0 : w4.cell? ⟨g4, 0, none⟩ = some (.slice none 0 0) := (blk_cell hb4 0).trans rfl
    have z1 : w4.cell? ⟨g4, 1, none⟩ = some (.slice none 0 0) := (blk_cell hb4 1).trans rfl
    have f0 := blk_frozen hb4 0
    have f1 := blk_frozen hb4 1
    go_wp2
    refine bodyPost_ret (results_ct rfl _ _ g4 28 #[.slice none 0 0, .slice none 0 0] (0, 0) _ rfl (nil_put hb4) hu28 rfl (by kernel_rfl)) rfl ?_
    exact ⟨0, _, _, rfl, Kd.S_nil _ _ _ _ _, Kd.S_nil _ _ _ _ _, below_set (below_set hw4 hg4) hg4⟩
  rw [if_neg c] at h
  have cb : decide ((l1.length : Int) > 4000) = false := decide_eq_false c
  have HL := Aside0.mk c
  clear c
  replace h := Option.bind_eq_some_iff.mp h
  obtain ⟨t, ht, h⟩ := h
  have HT := Aside0.mk ht
  have HR4 := Aside0.mk (Kd.C_below HR0.out hw4)
  clear ht
  cases t with
  | false =>
    rw [if_neg (by decide)] at h
    simp only [Option.some.injEq, Prod.mk.injEq] at h
    obtain ⟨rfl, rfl, rfl⟩ := h
    go_upto_region 2 with (go_at_call 32; (with_reducible refine (impl_GraphOk.calls k _ _ l0 false _ ?side1 ?side2 HT.out).mono ?_); (case side1 => exact HR4.out); (case side2 => exact HC0.out); rintro e w' ⟨rfl, ⟨nd, rfl⟩⟩)
    have hb5 : (w4.drewN nd).heap[g4]? = some (.cells #[.slice none 0 0, .slice none 0 0] 28 (0, 0)) := hb4
    have z0 : (w4.drewN nd).cell? ⟨g4, 0, none⟩ = some (.slice none 0 0) := (blk_cell hb5 0).trans rfl
    have z1 : (w4.drewN nd).cell? ⟨g4, 1, none⟩ = some (.slice none 0 0) := (blk_cell hb5 1).trans rfl
    have f0 := blk_frozen hb5 0
    have f1 := blk_frozen hb5 1
    go_wp2
    refine bodyPost_ret (results_ct rfl _ _ g4 28 #[.slice none 0 0, .slice none 0 0] (0, 0) _ rfl (nil_put hb5) hu28 rfl (by kernel_rfl)) rfl ?_
    exact ⟨0, _, _, rfl, Kd.S_nil _ _ _ _ _, Kd.S_nil _ _ _ _ _, below_set (below_set (pw_below_drewN hw4 _) hg4) hg4⟩
  | true =>
    rw [if_pos rfl] at h
    by_cases c2 : l0.length ≤ 35184372088832
    case neg => rw [if_neg c2] at h; exact absurd h (by simp)
    rw [if_pos c2] at h
    replace h := Option.bind_eq_some_iff.mp h
    obtain ⟨ps, hps, h⟩ := h
    have HPS := Aside0.mk hps
    have HH := Aside0.mk h
    have HL0 := Aside0.mk c2
    clear hps h c2
    go_upto_region 4 with (first | (go_at_call 32; (with_reducible refine (impl_GraphOk.calls k _ _ l0 true _ ?side1 ?side2 HT.out).mono ?_); (case side1 => exact HR4.out); (case side2 => exact HC0.out); rintro e w' ⟨rfl, ⟨nd, rfl⟩⟩) | (go_at_call 33; (with_reducible refine (impl_copyGraph.calls k _ _ l0 ps _ ?side1 ?side2 HPS.out).mono ?_); (case side1 => exact Kd.C_drewN HR4.out _); (case side2 => exact HC0.out); rintro e w5 ⟨vp, rfl, hop, hbp⟩; obtain ⟨Ap, cp, rfl⟩ := Kd.S_slice hop))
    go_upto_region 5 with (fail)
    have HL6 := Aside0.mk (Lies.start (W := w4.drewN nd) (g4 := g4) hb4 hg4 (pw_below_drewN hw4 nd) hbp hop 61 #[.bool false, .int .i64 0, .slice none 0 0])
    clear hop hbp
    generalize hw6q : (w5.alloc (.cells #[.slice Ap ps.length cp, .slice none 0 0] 28)).alloc (.cells #[.bool false, .int .i64 0, .slice none 0 0] 61) = w6 at HL6 ⊢
    clear hw6q
    generalize w5.heap.size = g6 at HL6 ⊢
    generalize g6 + 1 = g9 at HL6 ⊢
    have hm0 : 0 ≤ (l0.length : Int) := by omega
    have hm1 : (l0.length : Int).toNat * 8 ≤ 281474976710656 := by have := HL0.out; omega
    go_upto_region 6 with (first | ((with_reducible refine gate_dst (N := 26) rfl ?_); refine Kd.R_make (Kd.int .i64) _ 3 rfl (N := 26) rfl 50 _ _ rfl (l0.length : Int) rfl rfl Tryz.underlying50 (.int .i64 0) 8 info3 rfl (by decide) (by omega) 0 (ok := fun _ => True) (okp := fun _ => True) rfl (fun _ hk => hk) trivial hm0 hm1 (Below.refl _ _) (Nat.le_refl _) ?_; intro v8 w7 ho hb hg_ hnew_; have n0 := Aside0.mk (HL6.out.make hb ho); clear hg_ hnew_ hb ho))
    go_wp2
    go_loopg [29] k (fun kq v29 w' => ∃ (born : List Int) (bs : List S55) (o : Bool) (i : Int) (v vb : Value) (d : List Int) (x : Int), v29 = .int .i64 x ∧ Aside0 (impl_FromRecords.l0 kq ps l1 (l0.length : Int) born bs o i d x = some (r1, r2, r3)) ∧ Aside0 (kq ≤ k) ∧ Aside0 (Lies g6 w w' g4 g6 g9 61 #[.bool o, .int .i64 i, v] v8 (.slice Ap ps.length cp) vb v ps born bs d))
    case atStart => exact ⟨_, _, false, 0, _, _, _, 0, rfl, HH, ⟨Nat.le_refl _⟩, by simpa using n0⟩
    case round =>
      clear HH n0 HL6
      obtain ⟨born, bs, o, i, v, vb, d, x, rfl, HA, HK1, HS⟩ := hrel
      cases gk with
      | zero => exact absurd HA.out (by simp [impl_FromRecords.l0])
      | succ k1 =>
        have H := HA.out
        clear HA
        simp only [impl_FromRecords.l0] at H
        by_cases c6 : x < (l1.length : Int)
        · rw [if_pos c6] at H
          have c6b : decide (x < (l1.length : Int)) = true := decide_eq_true c6
          by_cases c7 : 0 ≤ x
          case neg => rw [if_neg c7] at H; exact absurd H (by simp)
          rw [if_pos c7] at H
          by_cases c8 : d.length < 4000000
          case neg => rw [if_neg c8] at H; exact absurd H (by simp)
          rw [if_pos c8] at H
          have HD := Aside0.mk c8
          replace H := Option.bind_eq_some_iff.mp H
          obtain ⟨⟨m, o', i', d'⟩, hm, H⟩ := H
          have HM := Aside0.mk hm
          have HH := Aside0.mk H
          obtain ⟨ad, ea, hx0, hx1, hx2⟩ := at_T48 (Kd.C_below HR1.out HS.out.b) x c7 c6
          cases ea
          replace c7 := eq_true c7
          replace c6 := eq_true c6
          clear hm H c8
          go_upto_region 9 with (fail)
          have hb6 : (wr.alloc (.cells #[.int .i64 (rd_T48 l1 x).f0, .int .i64 (rd_T48 l1 x).f1, .string (rd_T48 l1 x).f2] 48)).heap[wr.heap.size]? = some (.cells #[.int .i64 (rd_T48 l1 x).f0, .int .i64 (rd_T48 l1 x).f1, .string (rd_T48 l1 x).f2] 48 (0, 0)) := heap_alloc_new wr _
          have HS6 := Aside0.mk (HS.out.alloc (.cells #[.int .i64 (rd_T48 l1 x).f0, .int .i64 (rd_T48 l1 x).f1, .string (rd_T48 l1 x).f2] 48))
          clear hx0 hx1 hx2 HS
          generalize wr.alloc (.cells #[.int .i64 (rd_T48 l1 x).f0, .int .i64 (rd_T48 l1 x).f1, .string (rd_T48 l1 x).f2] 48) = w6 at hb6 HS6 ⊢
          generalize wr.heap.size = gr at hb6 ⊢
          have k0 : w6.cell? ⟨gr, 0, none⟩ = some (.int .i64 (rd_T48 l1 x).f0) := (blk_cell hb6 0).trans rfl
          have k1' : w6.cell? ⟨gr, 1, none⟩ = some (.int .i64 (rd_T48 l1 x).f1) := (blk_cell hb6 1).trans rfl
          have k2 : w6.cell? ⟨gr, 2, none⟩ = some (.string (rd_T48 l1 x).f2) := (blk_cell hb6 2).trans rfl
          have HB6 := Aside0.mk hb6
          clear hb6
          cases m with
          | false =>
            have H := HH.out
            clear HH
            rw [if_neg (by simp)] at H
            simp only [Option.some.injEq, Prod.mk.injEq] at H
            obtain ⟨rfl, rfl, rfl⟩ := H
            go_upto_region 10 with (first | (go_at_call 34; (with_reducible refine (impl_walker_mark.calls k1 g9 o i v d (rd_T48 l1 x).f0 (rd_T48 l1 x).f1 (rd_T48 l1 x).f2 false o' i' d' w _ ?side1 ?side2 HM.out).mono ?_); (case side1 => exact HS6.out.st); (case side2 => exact HD.out); rintro e w7 ⟨v', rfl, hs, hk, hat⟩; have HS7 := Aside0.mk (HS6.out.mark hs hk hat); clear hs hk hat))
            have z0 : w7.cell? ⟨g4, 0, none⟩ = some (.slice none 0 0) := (blk_cell HS7.out.h4 0).trans rfl
            have z1 : w7.cell? ⟨g4, 1, none⟩ = some (.slice none 0 0) := (blk_cell HS7.out.h4 1).trans rfl
            have f0 := blk_frozen HS7.out.h4 0
            have f1 := blk_frozen HS7.out.h4 1
            go_wp2
            refine bodyPost_ret (results_ct rfl _ _ g4 28 #[.slice none 0 0, .slice none 0 0] (0, 0) _ rfl (nil_put HS7.out.h4) hu28 rfl (by kernel_rfl)) rfl ?_
            exact ⟨0, _, _, rfl, Kd.S_nil _ _ _ _ _, Kd.S_nil _ _ _ _ _, below_set (below_set HS7.out.b HS7.out.n4) HS7.out.n4⟩
          | true =>
            have H := HH.out
            clear HH
            rw [if_pos rfl] at H
            dsimp only at H
            have HH := Aside0.mk H
            clear H
            go_upto_region 11 with (first | (go_at_call 34; (with_reducible refine (impl_walker_mark.calls k1 g9 o i v d (rd_T48 l1 x).f0 (rd_T48 l1 x).f1 (rd_T48 l1 x).f2 true o' i' d' w _ ?side1 ?side2 HM.out).mono ?_); (case side1 => exact HS6.out.st); (case side2 => exact HD.out); rintro e w7 ⟨v', rfl, hs, hk, hat⟩; have HB7 := Aside0.mk (hk.blk HB6.out (blk_ne HB6.out HS6.out.h9 (by decide)) (Kd.R_ne HS6.out.rd HB6.out (by decide))); have HS7 := Aside0.mk (HS6.out.mark hs hk hat); clear hs hk hat))
            have k0 : w7.cell? ⟨gr, 0, none⟩ = some (.int .i64 (rd_T48 l1 x).f0) := (blk_cell HB7.out 0).trans rfl
            have k2 : w7.cell? ⟨gr, 2, none⟩ = some (.string (rd_T48 l1 x).f2) := (blk_cell HB7.out 2).trans rfl
            clear HS6 HB6
            by_cases c1k : (rd_T48 l1 x).f0 = 1
            · have H := HH.out
              clear HH
              rw [if_pos c1k] at H
              have ek : ((rd_T48 l1 x).f0 == 1) = true := by simpa using c1k
              have en : ((rd_T48 l1 x).f0 != 1) = false := by simpa using c1k
              replace H := Option.bind_eq_some_iff.mp H
              obtain ⟨p, hp, H⟩ := H
              have HP := Aside0.mk hp
              clear hp
              have g1 : w7.cell? ⟨g9, 1, none⟩ = some (.int .i64 i') := (blk_cell HS7.out.h9 1).trans rfl
              cases p with
              | false =>
                rw [if_neg (by decide)] at H
                simp only [Option.some.injEq, Prod.mk.injEq] at H
                obtain ⟨rfl, rfl, rfl⟩ := H
                go_upto_region 13 with (first | (go_at_call 35; (with_reducible refine (impl_isPlace.calls i' (l0.length : Int) false _ HP.out).mono ?_); rintro e w' ⟨rfl, ⟨nd, rfl⟩⟩))
                have HS8 := Aside0.mk (HS7.out.drewN nd)
                generalize w7.drewN nd = w8 at HS8 ⊢
                have z0 : w8.cell? ⟨g4, 0, none⟩ = some (.slice none 0 0) := (blk_cell HS8.out.h4 0).trans rfl
                have z1 : w8.cell? ⟨g4, 1, none⟩ = some (.slice none 0 0) := (blk_cell HS8.out.h4 1).trans rfl
                have f0 := blk_frozen HS8.out.h4 0
                have f1 := blk_frozen HS8.out.h4 1
                go_wp2
                refine bodyPost_ret (results_ct rfl _ _ g4 28 #[.slice none 0 0, .slice none 0 0] (0, 0) _ rfl (nil_put HS8.out.h4) hu28 rfl (by kernel_rfl)) rfl ?_
                exact ⟨0, _, _, rfl, Kd.S_nil _ _ _ _ _, Kd.S_nil _ _ _ _ _, below_set (below_set HS8.out.b HS8.out.n4) HS8.out.n4⟩
              | true =>
                rw [if_pos rfl] at H
                by_cases c9 : 0 ≤ i'
                case neg => rw [if_neg c9] at H; exact absurd H (by simp)
                rw [if_pos c9] at H
                by_cases c10 : i' < (born.length : Int)
                case neg => rw [if_neg c10] at H; exact absurd H (by simp)
                rw [if_pos c10] at H
                replace H := Option.bind_eq_some_iff.mp H
                obtain ⟨s, hs, H⟩ := H
                by_cases c11 : bs.length < 2513169434916
                case neg => rw [if_neg c11] at H; exact absurd H (by simp)
                rw [if_pos c11] at H
                have HSO := Aside0.mk hs
                have HH := Aside0.mk H
                have HL11 := Aside0.mk c11
                clear hs H c11
                go_upto_region 14 with (first | (go_at_call 35; (with_reducible refine (impl_isPlace.calls i' (l0.length : Int) true _ HP.out).mono ?_); rintro e w' ⟨rfl, ⟨nd, rfl⟩⟩))
                obtain ⟨gb, cb8, e8, _⟩ := Kd.R_form HS7.out.rb (by omega)
                cases e8
                obtain ⟨Ad, cd, rfl⟩ := Kd.R_slice HS7.out.rd
                have HS8 := Aside0.mk (HS7.out.drewN nd)
                have HB8 : Aside0 ((w7.drewN nd).heap[gr]? = some (.cells #[.int .i64 (rd_T48 l1 x).f0, .int .i64 (rd_T48 l1 x).f1, .string (rd_T48 l1 x).f2] 48 (0, 0))) := ⟨HB7.out⟩
                have k2' : (w7.drewN nd).cell? ⟨gr, 2, none⟩ = some (.string (rd_T48 l1 x).f2) := k2
                clear HS7 HB7 k0 k2 g1
                generalize w7.drewN nd = w8 at HS8 HB8 k2' ⊢
                have g1 : w8.cell? ⟨g9, 1, none⟩ = some (.int .i64 i') := (blk_cell HS8.out.h9 1).trans rfl
                have g2 : w8.cell? ⟨g9, 2, none⟩ = some (.slice Ad d'.length cd) := (blk_cell HS8.out.h9 2).trans rfl
                have q1 : w8.cell? ⟨g6, 1, none⟩ = some vb := (blk_cell HS8.out.h6 1).trans rfl
                have gi := (Kd.R_cell (0 : Int) HS8.out.rb i' c9 c10).1
                have K8 := Aside0.mk (show w8.drew.cell? ⟨gr, 2, none⟩ = some (.string (rd_T48 l1 x).f2) ∧ w8.drew.cell? ⟨g9, 1, none⟩ = some (.int .i64 i') ∧ w8.drew.cell? ⟨g9, 2, none⟩ = some (.slice Ad d'.length cd) ∧ w8.drew.cell? ⟨gb, i'.toNat, none⟩ = some (.int .i64 (rd born i')) from ⟨k2', g1, g2, gi⟩)
                replace c9 := eq_true c9
                replace c10 := eq_true c10
                have HSD := Aside0.mk HS8.out.drew
                clear k2' g1 g2 gi
                refine wp_region_noPanic ?_
                refine wp_region_held_drew (S := (fun W' => W'.cell? ⟨gr, 2, none⟩ = some (.string (rd_T48 l1 x).f2) ∧ W'.cell? ⟨g9, 1, none⟩ = some (.int .i64 i') ∧ W'.cell? ⟨g9, 2, none⟩ = some (.slice Ad d'.length cd) ∧ W'.cell? ⟨gb, i'.toNat, none⟩ = some (.int .i64 (rd born i')))) (by kernel_rfl) (by (try dsimp only); (first | exact K8.out | exact KA.out | exact KB.out | exact KB2.out | exact KC.out | exact KD.out)) (fun hHeld => ?_)
                (refine wpAnyH_take (i := 0) (oi := _) (v := ?_) rfl (by kernel_rfl) (by kernel_rfl) (by kernel_rfl) (fun _ _ _ h => h) (Or.inl ⟨by rfl, ?_⟩) (by assumption) ?_; rotate_left; (· (intro w hSw; (try dsimp only at hSw); go_simp; try with_reducible rfl)); (try simp only [Act.put, List.setIfInBounds_toArray, List.set_cons_zero, List.set_cons_succ]))
                (refine wpAnyH_take (i := 2) (oi := _) (v := ?_) rfl (by kernel_rfl) (by kernel_rfl) (by kernel_rfl) (fun _ _ _ h => h) (Or.inl ⟨by rfl, ?_⟩) (by assumption) ?_; rotate_left; (· (intro w hSw; (try dsimp only at hSw); go_simp; try with_reducible rfl)); (try simp only [Act.put, List.setIfInBounds_toArray, List.set_cons_zero, List.set_cons_succ]))
                (refine wpAnyH_take (i := 3) (oi := _) (v := ?_) rfl (by kernel_rfl) (by kernel_rfl) (by kernel_rfl) (fun _ _ _ h => h) (Or.inl ⟨by rfl, ?_⟩) (by assumption) ?_; rotate_left; (· (intro w hSw; (try dsimp only at hSw); go_simp; try with_reducible rfl)); (try simp only [Act.put, List.setIfInBounds_toArray, List.set_cons_zero, List.set_cons_succ]))
                (refine wpAnyH_take (i := 4) (oi := _) (v := ?_) rfl (by kernel_rfl) (by kernel_rfl) (by kernel_rfl) (fun _ _ _ h => h) (Or.inl ⟨by rfl, ?_⟩) (by assumption) ?_; rotate_left; (· (intro w hSw; (try dsimp only at hSw); go_simp; try with_reducible rfl)); (try simp only [Act.put, List.setIfInBounds_toArray, List.set_cons_zero, List.set_cons_succ]))
                (refine wpAnyH_take (i := 5) (oi := _) (v := ?_) rfl (by kernel_rfl) (by kernel_rfl) (by kernel_rfl) (fun _ _ _ h => h) (Or.inl ⟨by rfl, ?_⟩) (by assumption) ?_; rotate_left; (· (intro w hSw; (try dsimp only at hSw); go_simp; try with_reducible rfl)); (try simp only [Act.put, List.setIfInBounds_toArray, List.set_cons_zero, List.set_cons_succ]))
                (refine wpAnyH_take (i := 6) (oi := _) (v := ?_) rfl (by kernel_rfl) (by kernel_rfl) (by kernel_rfl) (fun _ _ _ h => h) (Or.inl ⟨by rfl, ?_⟩) (by assumption) ?_; rotate_left; (· (intro w hSw; (try dsimp only at hSw); go_simp; try with_reducible rfl)); (try simp only [Act.put, List.setIfInBounds_toArray, List.set_cons_zero, List.set_cons_succ]))
                (refine wpAnyH_take (i := 7) (oi := _) (v := ?_) rfl (by kernel_rfl) (by kernel_rfl) (by kernel_rfl) (fun _ _ _ h => h) (Or.inl ⟨by rfl, ?_⟩) (by assumption) ?_; rotate_left; (· (intro w hSw; (try dsimp only at hSw); go_simp; try with_reducible rfl)); (try simp only [Act.put, List.setIfInBounds_toArray, List.set_cons_zero, List.set_cons_succ]))
                (refine wpAnyH_take (i := 8) (oi := _) (v := ?_) rfl (by kernel_rfl) (by kernel_rfl) (by kernel_rfl) (fun _ _ _ h => h) (Or.inl ⟨by rfl, ?_⟩) (by assumption) ?_; rotate_left; (· (intro w hSw; (try dsimp only at hSw); go_simp; try with_reducible rfl)); (try simp only [Act.put, List.setIfInBounds_toArray, List.set_cons_zero, List.set_cons_succ]))
                (refine wpAnyH_take (i := 9) (oi := _) (v := ?_) rfl (by kernel_rfl) (by kernel_rfl) (by kernel_rfl) (fun _ _ _ h => h) (Or.inl ⟨by rfl, ?_⟩) (by assumption) ?_; rotate_left; (· (intro w hSw; (try dsimp only at hSw); go_simp; try with_reducible rfl)); (try simp only [Act.put, List.setIfInBounds_toArray, List.set_cons_zero, List.set_cons_succ]))
                (refine wpAnyH_take (i := 10) (oi := _) (v := ?_) rfl (by kernel_rfl) (by kernel_rfl) (by kernel_rfl) (fun _ _ _ h => h) (Or.inl ⟨by rfl, ?_⟩) (by assumption) ?_; rotate_left; (· (intro w hSw; (try dsimp only at hSw); go_simp; try with_reducible rfl)); (try simp only [Act.put, List.setIfInBounds_toArray, List.set_cons_zero, List.set_cons_succ]))
                (refine wpAnyH_take (i := 11) (oi := _) (v := ?_) rfl (by kernel_rfl) (by kernel_rfl) (by kernel_rfl) (fun _ _ _ h => h) (Or.inl ⟨by rfl, ?_⟩) (by assumption) ?_; rotate_left; (· (intro w hSw; (try dsimp only at hSw); go_simp; try with_reducible rfl)); (try simp only [Act.put, List.setIfInBounds_toArray, List.set_cons_zero, List.set_cons_succ]))
                (refine wpAnyH_take (i := 12) (oi := _) (v := ?_) rfl (by kernel_rfl) (by kernel_rfl) (by kernel_rfl) (fun _ _ _ h => h) (Or.inl ⟨by rfl, ?_⟩) (by assumption) ?_; rotate_left; (· (intro w hSw; (try dsimp only at hSw); go_simp; try with_reducible rfl)); (try simp only [Act.put, List.setIfInBounds_toArray, List.set_cons_zero, List.set_cons_succ]))
                all_goals (first | (refine wpAnyH_ready (rs := [13]) (by decide +kernel) (by simp) ?_; refine AllReadyH.cons (o := _) rfl (fun K hK => ?_) AllReadyH.nil) | (refine wpAnyH_ready (rs := [1, 13]) (by kernel_rfl) (by simp) ?_; refine AllReadyH.cons (o := _) rfl (fun K hK => ?_) (AllReadyH.cons (o := _) rfl (fun K hK => ?_) AllReadyH.nil); go_simp; refine hK.out _ _ (by (try dsimp only); (first | exact K8.out | exact KA.out | exact KB.out | exact KB2.out | exact KC.out | exact KD.out)) (fun hHeld => ?_); clear hK K; (try simp only [Act.put, List.setIfInBounds_toArray, List.set_cons_zero, List.set_cons_succ]); (refine wpAnyH_ready (rs := [13]) (by decide +kernel) (by simp) ?_; refine AllReadyH.cons (o := _) rfl (fun K hK => ?_) AllReadyH.nil)))
                all_goals (go_simp; (go_at_call 37; refine (slices_Values_int_int.calls Ad d'.length cd _).mono ?_; rintro e wA ⟨rfl, hwA⟩; have hbA := below_alloc (Below.refl w8.drew.heap.size w8.drew) (.cells #[.slice Ad d'.length cd] 50); have cA : (w8.drew.alloc (.cells #[.slice Ad d'.length cd] 50)).cell? ⟨w8.drew.heap.size, 0, none⟩ = some (.slice Ad d'.length cd) := (blk_cell (heap_alloc_new w8.drew _) 0).trans rfl; rw [← hwA] at hbA cA; have HSA := Aside0.mk (HSD.out.below hbA); have CA := Aside0.mk cA; have BA := Aside0.mk ((hbA.block gr (blk_lt HB8.out)).trans HB8.out); have KA := Aside0.mk (four_below hbA K8.out); have qA : wA.cell? ⟨g6, 1, none⟩ = some vb := (blk_cell HSA.out.h6 1).trans rfl; have HCS := Aside0.mk (slices_Sorted_int.calls w8.heap.size w.heap.size _ (.slice Ad d'.length cd) d' s wA CA.out HSA.out.rd HSO.out); clear hbA cA hwA); refine hK.out _ _ (by (try dsimp only); (first | exact K8.out | exact KA.out | exact KB.out | exact KB2.out | exact KC.out | exact KD.out)) (fun hHeld => ?_); clear hK K; (try simp only [Act.put, List.setIfInBounds_toArray, List.set_cons_zero, List.set_cons_succ]))
                all_goals (first | (refine wpAnyH_ready (rs := [14]) (by decide +kernel) (by simp) ?_; refine AllReadyH.cons (o := _) rfl (fun K hK => ?_) AllReadyH.nil) | (refine wpAnyH_ready (rs := [1, 14]) (by kernel_rfl) (by simp) ?_; refine AllReadyH.cons (o := _) rfl (fun K hK => ?_) (AllReadyH.cons (o := _) rfl (fun K hK => ?_) AllReadyH.nil); go_simp; refine hK.out _ _ (by (try dsimp only); (first | exact K8.out | exact KA.out | exact KB.out | exact KB2.out | exact KC.out | exact KD.out)) (fun hHeld => ?_); clear hK K; (try simp only [Act.put, List.setIfInBounds_toArray, List.set_cons_zero, List.set_cons_succ]); (refine wpAnyH_ready (rs := [14]) (by decide +kernel) (by simp) ?_; refine AllReadyH.cons (o := _) rfl (fun K hK => ?_) AllReadyH.nil)))
                all_goals (go_simp; (go_at_call 36; refine HCS.out.mono ?_; rintro e wB ⟨vs, rfl, hos, hbB⟩; obtain ⟨As, cs, rfl⟩ := Kd.R_slice hos; have HSB := Aside0.mk (HSA.out.below hbB); have BB := Aside0.mk ((hbB.block gr (blk_lt BA.out)).trans BA.out); have KB := Aside0.mk (four_below hbB KA.out); have qB : wB.cell? ⟨g6, 1, none⟩ = some vb := (blk_cell HSB.out.h6 1).trans rfl; have KB2 := Aside0.mk (four_below (below_alloc (Below.refl wB.heap.size wB) (.cells #[.string (rd_T48 l1 x).f2, .int .i64 i', .int .i64 (rd born i'), .slice As s.length cs] 55)) KB.out); have qB2 : (wB.alloc (.cells #[.string (rd_T48 l1 x).f2, .int .i64 i', .int .i64 (rd born i'), .slice As s.length cs] 55)).cell? ⟨g6, 1, none⟩ = some vb := pw_cell_below (below_alloc (Below.refl wB.heap.size wB) _) qB; have HOS := Aside0.mk hos; have HBB := Aside0.mk hbB; clear hos hbB); refine hK.out _ _ (by (try dsimp only); (first | exact K8.out | exact KA.out | exact KB.out | exact KB2.out | exact KC.out | exact KD.out)) (fun hHeld => ?_); clear hK K; (try simp only [Act.put, List.setIfInBounds_toArray, List.set_cons_zero, List.set_cons_succ]))
                all_goals (refine wpAnyH_take (i := 15) (oi := _) (v := ?_) rfl (by kernel_rfl) (by kernel_rfl) (by kernel_rfl) (fun _ _ _ h => h) (Or.inl ⟨by rfl, ?_⟩) (by assumption) ?_; rotate_left; (· (intro w hSw; (try dsimp only at hSw); go_simp; try with_reducible rfl)); (try simp only [Act.put, List.setIfInBounds_toArray, List.set_cons_zero, List.set_cons_succ]))
                all_goals (first | (refine wpAnyH_ready (rs := [16]) (by decide +kernel) (by simp) ?_; refine AllReadyH.cons (o := _) rfl (fun K hK => ?_) AllReadyH.nil) | (refine wpAnyH_ready (rs := [1, 16]) (by kernel_rfl) (by simp) ?_; refine AllReadyH.cons (o := _) rfl (fun K hK => ?_) (AllReadyH.cons (o := _) rfl (fun K hK => ?_) AllReadyH.nil); go_simp; refine hK.out _ _ (by (try dsimp only); (first | exact K8.out | exact KA.out | exact KB.out | exact KB2.out | exact KC.out | exact KD.out)) (fun hHeld => ?_); clear hK K; (try simp only [Act.put, List.setIfInBounds_toArray, List.set_cons_zero, List.set_cons_succ]); (refine wpAnyH_ready (rs := [16]) (by decide +kernel) (by simp) ?_; refine AllReadyH.cons (o := _) rfl (fun K hK => ?_) AllReadyH.nil)))
                all_goals (go_simp; refine hK.out _ _ (by (try dsimp only); (first | exact K8.out | exact KA.out | exact KB.out | exact KB2.out | exact KC.out | exact KD.out)) (fun hHeld => ?_); clear hK K; (try simp only [Act.put, List.setIfInBounds_toArray, List.set_cons_zero, List.set_cons_succ]))
                all_goals (first | (refine wpAnyH_ready (rs := [17]) (by decide +kernel) (by simp) ?_; refine AllReadyH.cons (o := _) rfl (fun K hK => ?_) AllReadyH.nil) | ((refine wpAnyH_ready (rs := [1]) (by decide +kernel) (by simp) ?_; refine AllReadyH.cons (o := _) rfl (fun K hK => ?_) AllReadyH.nil); go_simp; refine hK.out _ _ (by (try dsimp only); (first | exact K8.out | exact KA.out | exact KB.out | exact KB2.out | exact KC.out | exact KD.out)) (fun hHeld => ?_); clear hK K; (try simp only [Act.put, List.setIfInBounds_toArray, List.set_cons_zero, List.set_cons_succ]); (refine wpAnyH_ready (rs := [17]) (by decide +kernel) (by simp) ?_; refine AllReadyH.cons (o := _) rfl (fun K hK => ?_) AllReadyH.nil)))
                all_goals ((refine Kd.S_append_step (W := wB) k55 (w0 := w) w.heap.size (by rfl) (.tmp 48) (.tmp 63) 26 55 (.agg #[(.string ⟨#[]⟩), (.int .i64 0), (.int .i64 0), (.slice none 0 0)]) 56 rfl Tryz.underlying26 infoBody rfl (by decide) (by omega) vb bs (⟨(rd_T48 l1 x).f2, i', rd born i', s⟩ : S55) [.string (rd_T48 l1 x).f2, .int .i64 i', .int .i64 (rd born i'), .slice As s.length cs] (fun k_ => k_ ≠ g4 ∧ k_ ≠ g6 ∧ k_ ≠ g9 ∧ some k_ ≠ (Value.slice (some ⟨gb, 0, none⟩) born.length cb8).ownBlock ∧ some k_ ≠ (Value.slice Ad d'.length cd).ownBlock ∧ g6 ≤ k_) (fun k_ => some k_ = (Value.slice As s.length cs).ownBlock) rfl rfl ?aP ?aK ?aF ?aO ?aB ?aS ?aL ?_; (case aP => exact k55_mkM _ _ _ (⟨(rd_T48 l1 x).f2, i', rd born i', s⟩ : S55) (Kd.R_of_own (Kd.own_of_R (Kd.R_lower HOS.out (below_size HSA.out.b))) (fun _ hk => hk.symm))); (case aK => exact fun k_ hk => HSA.out.fresh k_ (Kd.R_base HOS.out k_ hk.symm)); (case aF => exact fun k_ hk => (HSB.out.fresh k_ hk).1); (case aO => exact Kd.S_mono (Kd.S_elder' HSA.out.sb (Kd.R_base HOS.out) HBB.out) (fun k_ hk => ⟨hk.1, hk.2⟩)); (case aB => exact HSB.out.b); (case aS => exact below_size HSB.out.b); (case aL => have := HL11.out; omega); intro vb1 wC ho hB hg hat; obtain ⟨Ab, cbb, eb⟩ := Kd.S_slice ho; rw [List.length_append, List.length_cons, List.length_nil, Nat.zero_add] at eb; subst eb; have HS9 := Aside0.mk (HSB.out.body ho hB hg); have hC6 := blk_grown HSB.out.h6 hg HSB.out.off.1; have qC : wC.cell? ⟨g6, 1, none⟩ = some vb := (blk_cell hC6 1).trans rfl; have fC := blk_frozen hC6 1; have hgb := HSB.out.off.2.2 gb rfl; have hgr := blk_ne BB.out HSB.out.h6 (by decide); have hKC := four_grown hg KB.out (Kd.S_ne HSB.out.sb BB.out (by decide)) HSB.out.off.2.1 HSB.out.off.2.1 hgb.1; have KC := Aside0.mk hKC; have KD := Aside0.mk (four_set (g := g6) (j := 1) (v := .slice Ab (bs.length + 1) cbb) hKC hgr (Ne.symm HSB.out.e69) (Ne.symm HSB.out.e69) hgb.2); clear ho hB hg hat hC6 hKC hgb hgr); refine hK.out _ _ (by (try dsimp only); (first | exact K8.out | exact KA.out | exact KB.out | exact KB2.out | exact KC.out | exact KD.out)) (fun hHeld => ?_); clear hK K; (try simp only [Act.put, List.setIfInBounds_toArray, List.set_cons_zero, List.set_cons_succ]))
                all_goals (refine wpAnyH_take (i := 18) (oi := _) (v := ?_) rfl (by kernel_rfl) (by kernel_rfl) (by kernel_rfl) (fun _ _ _ h => h) (Or.inl ⟨by rfl, ?_⟩) (by assumption) ?_; rotate_left; (· (intro w hSw; (try dsimp only at hSw); go_simp; try with_reducible rfl)); (try simp only [Act.put, List.setIfInBounds_toArray, List.set_cons_zero, List.set_cons_succ]))
                all_goals (refine wpAnyH_ready (rs := [19]) (by decide +kernel) (by simp) ?_; refine AllReadyH.cons (o := _) rfl (fun K hK => ?_) AllReadyH.nil)
                all_goals (go_simp; refine hK.out _ _ (by (try dsimp only); (first | exact K8.out | exact KA.out | exact KB.out | exact KB2.out | exact KC.out | exact KD.out)) (fun hHeld => ?_); clear hK K; (try simp only [Act.put, List.setIfInBounds_toArray, List.set_cons_zero, List.set_cons_succ]))
                all_goals (refine wpAnyH_done (by kernel_rfl) ?_ _)
                all_goals (refine NoPanic.normal ?_)
                all_goals
                  have HSX := HS9
                  clear HS9 HSA HSB HS8 HSD K8 KA KB KB2 KC KD qA qB qB2 HBB HOS BA BB HB8 HCS
                  generalize wC.setCell ⟨g6, 1, none⟩ (.slice Ab (bs.length + 1) cbb) = w9 at HSX ⊢
                  have g1 : w9.cell? ⟨g9, 1, none⟩ = some (.int .i64 i') := (blk_cell HSX.out.h9 1).trans rfl
                  obtain ⟨gi, fi⟩ := Kd.R_cell (0 : Int) HSX.out.rb i' (of_eq_true c9) (of_eq_true c10)
                  go_wp2
                  go_roundg k1
                  case measure => have := HK1.out; omega
                  case rel => exact ⟨_, _, o', i', _, _, d', wrap64 (x + 1), (by first | rfl | (simp; done) | (simp [*]; done)), HH, ⟨by have := HK1.out; omega⟩, ⟨HSX.out.count i' _⟩⟩
            · have H := HH.out
              clear HH
              rw [if_neg c1k] at H
              have ek : ((rd_T48 l1 x).f0 == 1) = false := by simpa using c1k
              have en : ((rd_T48 l1 x).f0 != 1) = true := by simpa using c1k
              have HH := Aside0.mk H
              clear H
              go_wp2
              go_roundg k1
              case measure => have := HK1.out; omega
              case rel => exact ⟨born, bs, o', i', _, vb, d', wrap64 (x + 1), (by first | rfl | (simp; done) | (simp [*]; done)), HH, ⟨by have := HK1.out; omega⟩, ⟨by (with_reducible repeat (first | exact HS7.out | apply Lies.drewN | apply Lies.drew | apply Lies.alloc))⟩⟩
        · rw [if_neg c6] at H
          have c6b : decide (x < (l1.length : Int)) = false := decide_eq_false c6
          clear c6
          replace H := Option.bind_eq_some_iff.mp H
          obtain ⟨t, ht, H⟩ := H
          have HWO := Aside0.mk ht
          clear ht
          obtain ⟨Ab, cb8, e8, hcb, hCb⟩ := Kd.S_reads HS.out.sb
          subst e8
          obtain ⟨hcp0, hcp, hCp⟩ := Kd.S_reads' HS.out.sp
          have z60 : wr.cell? ⟨g6, 0, none⟩ = some (.slice Ap ps.length cp) := (blk_cell HS.out.h6 0).trans rfl
          have z61 : wr.cell? ⟨g6, 1, none⟩ = some (.slice Ab bs.length cb8) := (blk_cell HS.out.h6 1).trans rfl
          have HCB := Aside0.mk hCb
          have HCP := Aside0.mk hCp
          have HCB0 := Aside0.mk hcb
          have HCP0 := Aside0.mk hcp
          clear hcb hCb hcp0 hcp hCp
          cases t with
          | false =>
            rw [if_neg (by decide)] at H
            simp only [Option.some.injEq, Prod.mk.injEq] at H
            obtain ⟨rfl, rfl, rfl⟩ := H
            go_upto_region 18 with (go_at_call 21; (with_reducible refine (impl_WeaveOk.calls k1 _ _ ps _ _ bs false _ ?side1 ?side2 ?side3 ?side4 HWO.out).mono ?_); (case side1 => exact HCP.out); (case side2 => exact HCP0.out); (case side3 => exact HCB.out); (case side4 => exact HCB0.out); rintro e w7 ⟨rfl, hb7⟩; have HS7 := Aside0.mk (HS.out.below hb7); clear hb7)
            have z0 : w7.cell? ⟨g4, 0, none⟩ = some (.slice none 0 0) := (blk_cell HS7.out.h4 0).trans rfl
            have z1 : w7.cell? ⟨g4, 1, none⟩ = some (.slice none 0 0) := (blk_cell HS7.out.h4 1).trans rfl
            have f0 := blk_frozen HS7.out.h4 0
            have f1 := blk_frozen HS7.out.h4 1
            go_wp2
            refine bodyPost_ret (results_ct rfl _ _ g4 28 #[.slice none 0 0, .slice none 0 0] (0, 0) _ rfl (nil_put HS7.out.h4) hu28 rfl (by kernel_rfl)) rfl ?_
            exact ⟨0, _, _, rfl, Kd.S_nil _ _ _ _ _, Kd.S_nil _ _ _ _ _, below_set (below_set HS7.out.b HS7.out.n4) HS7.out.n4⟩
          | true =>
            rw [if_pos rfl] at H
            replace H := Option.bind_eq_some_iff.mp H
            obtain ⟨rs, hrs, H⟩ := H
            replace H := Option.bind_eq_some_iff.mp H
            obtain ⟨e, he, H⟩ := H
            have HRS := Aside0.mk hrs
            have HE := Aside0.mk he
            clear hrs he
            cases e with
            | false =>
              rw [if_neg (by decide)] at H
              simp only [Option.some.injEq, Prod.mk.injEq] at H
              obtain ⟨rfl, rfl, rfl⟩ := H
              go_upto_region 18 with (first | (go_at_call 21; (with_reducible refine (impl_WeaveOk.calls k1 _ _ ps _ _ bs true _ ?side1 ?side2 ?side3 ?side4 HWO.out).mono ?_); (case side1 => exact HCP.out); (case side2 => exact HCP0.out); (case side3 => exact HCB.out); (case side4 => exact HCB0.out); rintro e w7 ⟨rfl, hb7⟩; have HS7 := Aside0.mk (HS.out.below hb7); have y60 : w7.cell? ⟨g6, 0, none⟩ = some (.slice Ap ps.length cp) := (blk_cell HS7.out.h6 0).trans rfl; have y61 : w7.cell? ⟨g6, 1, none⟩ = some (.slice Ab bs.length cb8) := (blk_cell HS7.out.h6 1).trans rfl; clear hb7) | (go_at_call 39; (with_reducible refine (impl_records.calls k1 _ _ ps (fun _ => True) _ _ bs rs _ ?side1 ?side2 ?side3 HRS.out).mono ?_); (case side1 => exact (Kd.S_reads' HS7.out.sp).2.2); (case side2 => exact HCP0.out); (case side3 => exact Kd.S_V (Kd.S_mono HS7.out.sb (fun _ _ => trivial))); rintro e w9 ⟨vr, rfl, hor, hb9⟩; have HS9 := Aside0.mk (HS7.out.below hb9); obtain ⟨Ar, cr, er, hcr, hCr⟩ := Kd.R_reads hor; subst er; have HCR := Aside0.mk hCr; have HCR0 := Aside0.mk hcr; clear hb9 hor hcr hCr) | (go_at_call 38; (with_reducible refine (impl_Rec.calls k1 _ _ rs _ _ l1 false _ ?side1 ?side2 ?side3 ?side4 HE.out).mono ?_); (case side1 => exact HCR.out); (case side2 => exact HCR0.out); (case side3 => exact Kd.C_below HR1.out HS9.out.b); (case side4 => exact HC1.out); rintro e w' ⟨rfl, ⟨nd, rfl⟩⟩))
              have HSA := Aside0.mk (HS9.out.drewN nd)
              generalize w9.drewN nd = wa at HSA ⊢
              have z0 : wa.cell? ⟨g4, 0, none⟩ = some (.slice none 0 0) := (blk_cell HSA.out.h4 0).trans rfl
              have z1 : wa.cell? ⟨g4, 1, none⟩ = some (.slice none 0 0) := (blk_cell HSA.out.h4 1).trans rfl
              have f0 := blk_frozen HSA.out.h4 0
              have f1 := blk_frozen HSA.out.h4 1
              go_wp2
              refine bodyPost_ret (results_ct rfl _ _ g4 28 #[.slice none 0 0, .slice none 0 0] (0, 0) _ rfl (nil_put HSA.out.h4) hu28 rfl (by kernel_rfl)) rfl ?_
              exact ⟨0, _, _, rfl, Kd.S_nil _ _ _ _ _, Kd.S_nil _ _ _ _ _, below_set (below_set HSA.out.b HSA.out.n4) HSA.out.n4⟩
            | true =>
              rw [if_pos rfl] at H
              simp only [Option.some.injEq, Prod.mk.injEq] at H
              obtain ⟨rfl, rfl, rfl⟩ := H
              go_upto_region 19 with (first | (go_at_call 21; (with_reducible refine (impl_WeaveOk.calls k1 _ _ ps _ _ bs true _ ?side1 ?side2 ?side3 ?side4 HWO.out).mono ?_); (case side1 => exact HCP.out); (case side2 => exact HCP0.out); (case side3 => exact HCB.out); (case side4 => exact HCB0.out); rintro e w7 ⟨rfl, hb7⟩; have HS7 := Aside0.mk (HS.out.below hb7); have y60 : w7.cell? ⟨g6, 0, none⟩ = some (.slice Ap ps.length cp) := (blk_cell HS7.out.h6 0).trans rfl; have y61 : w7.cell? ⟨g6, 1, none⟩ = some (.slice Ab bs.length cb8) := (blk_cell HS7.out.h6 1).trans rfl; clear hb7) | (go_at_call 39; (with_reducible refine (impl_records.calls k1 _ _ ps (fun _ => True) _ _ bs rs _ ?side1 ?side2 ?side3 HRS.out).mono ?_); (case side1 => exact (Kd.S_reads' HS7.out.sp).2.2); (case side2 => exact HCP0.out); (case side3 => exact Kd.S_V (Kd.S_mono HS7.out.sb (fun _ _ => trivial))); rintro e w9 ⟨vr, rfl, hor, hb9⟩; have HS9 := Aside0.mk (HS7.out.below hb9); obtain ⟨Ar, cr, er, hcr, hCr⟩ := Kd.R_reads hor; subst er; have HCR := Aside0.mk hCr; have HCR0 := Aside0.mk hcr; clear hb9 hor hcr hCr) | (go_at_call 38; (with_reducible refine (impl_Rec.calls k1 _ _ rs _ _ l1 true _ ?side1 ?side2 ?side3 ?side4 HE.out).mono ?_); (case side1 => exact HCR.out); (case side2 => exact HCR0.out); (case side3 => exact Kd.C_below HR1.out HS9.out.b); (case side4 => exact HC1.out); rintro e w' ⟨rfl, ⟨nd, rfl⟩⟩))
              have HSA := Aside0.mk (HS9.out.drewN nd)
              clear HS HS7 HS9 z60 z61 y60 y61 HCR HCB HCP
              generalize w9.drewN nd = wa at HSA ⊢
              have z0 : wa.cell? ⟨g4, 0, none⟩ = some (.slice none 0 0) := (blk_cell HSA.out.h4 0).trans rfl
              have z1 : wa.cell? ⟨g4, 1, none⟩ = some (.slice none 0 0) := (blk_cell HSA.out.h4 1).trans rfl
              have f0 := blk_frozen HSA.out.h4 0
              have f1 := blk_frozen HSA.out.h4 1
              have z60 : wa.cell? ⟨g6, 0, none⟩ = some (.slice Ap ps.length cp) := (blk_cell HSA.out.h6 0).trans rfl
              have z61 : wa.cell? ⟨g6, 1, none⟩ = some (.slice Ab bs.length cb8) := (blk_cell HSA.out.h6 1).trans rfl
              go_wp2
              refine bodyPost_ret (results_ct rfl _ _ g4 28 #[.slice Ap ps.length cp, .slice Ab bs.length cb8] (0, 0) _ rfl (blk_put (cs := #[.slice Ap ps.length cp, .slice none 0 0]) (blk_put (cs := #[.slice none 0 0, .slice none 0 0]) HSA.out.h4 0 _ rfl) 1 _ rfl) hu28 rfl (by kernel_rfl)) rfl ?_
              exact ⟨g6, _, _, rfl, Kd.S_mono (Kd.S_far (p := ⟨g4, 1, none⟩) (Kd.S_far (p := ⟨g4, 0, none⟩) HSA.out.sp (fun _ hk => hk.1) _) (fun _ hk => hk.1) _) (fun _ hk => hk.2.2.2.2.2), Kd.S_mono (Kd.S_far (p := ⟨g4, 1, none⟩) (Kd.S_far (p := ⟨g4, 0, none⟩) HSA.out.sb (fun _ hk => hk.1) _) (fun _ hk => hk.1) _) (fun _ hk => hk.2.2.2.2.2), below_set (below_set HSA.out.b HSA.out.n4) HSA.out.n4⟩
theorem impl_FromRecords.calls (k : Nat) (A0 : Option Addr) (c0 : Nat) (l0 : List (List Int)) (A1 : Option Addr) (c1 : Nat) (l1 : List S48) (r1 : List (List Int)) (r2 : List S55) (r3 : Bool) (w : World) (hr0 : Kd.C (Kd.slice 3 (Kd.int .i64)) w A0 l0.length l0) (hc0 : l0.length ≤ c0) (hr1 : Kd.C k48 w A1 l1.length l1) (hc1 : l1.length ≤ c1) (h : impl_FromRecords.f k l0 l1 = some (r1, r2, r3)) :
    Calls Tryz.prog 10 #[.slice A0 l0.length c0, .slice A1 l1.length c1] w fun e w' => ∃ v0_ v1_ : Value, e = .returned (.tuple #[.agg #[v0_, v1_], .bool r3]) ∧ Kd.S (Kd.slice 3 (Kd.int .i64)) 50 w' w.heap.size (fun _ => True) v0_ r1 ∧ Kd.S k55 55 w' w.heap.size (fun _ => True) v1_ r2 ∧ Below w.heap.size w w' := by
  refine (impl_FromRecords.calls_ap k A0 c0 l0 A1 c1 l1 r1 r2 r3 w hr0 hc0 hr1 hc1 h).mono ?_
  rintro e w' ⟨m_, v0_, v1_, he, h0, h1, hb⟩
  exact ⟨v0_, v1_, he, Kd.S_mono h0 (fun _ _ => trivial), Kd.S_mono h1 (fun _ _ => trivial), hb⟩

/-! ### spec_l01In: function 27 -/
def spec_l01In.f (a0 : Int) (a1 : Int) (a2 : Int) : Option (Bool) := if a0 ≥ a1 then (some (decide (a0 ≤ a2))) else (some false)
set_option maxHeartbeats 8000000 in
set_option maxRecDepth 100000 in
theorem spec_l01In.calls (a0 : Int) (a1 : Int) (a2 : Int) (r : Bool) (w : World) (h : spec_l01In.f a0 a1 a2 = some r) :
    Calls Tryz.prog 27 #[.int .i64 a0, .int .i64 a1, .int .i64 a2] w fun e w' => e = .returned (.bool r) ∧ Drawn0 w w' := by
  have H : (if a0 ≥ a1 then (some (decide (a0 ≤ a2))) else (some false)) = some r := h; clear h; by_cases c4 : a0 ≥ a1
  · rw [if_pos c4] at H; have c4b0 : decide (a1 ≤ a0) = true := decide_eq_true c4; clear c4; obtain rfl := Option.some.inj H; go_enter Tryz.func27, Tryz.ntmps27; go_wp2; go_ret; exact ⟨by first | rfl | (simp; done) | (simp [*]; done), by repeat (first | exact Drawn0.refl _ | apply Drawn0.step)⟩
  · rw [if_neg c4] at H; have c4b0 : decide (a1 ≤ a0) = false := decide_eq_false c4; clear c4; obtain rfl := Option.some.inj H; go_enter Tryz.func27, Tryz.ntmps27; go_wp2; go_ret; exact ⟨by first | rfl | (simp; done) | (simp [*]; done), by repeat (first | exact Drawn0.refl _ | apply Drawn0.step)⟩

/-! ### spec_l05Rise: function 56 -/
def spec_l05Rise.l0 : Nat → List Int → Int → Int → Option (Bool)
  | 0, _, _, _ => none
  | k + 1, x0, x1, x5 => if x5 < (x0.length : Int) then (if 0 ≤ x5 then ((spec_l01In.f (rd x0 x5) 0 (wrap64 (x1 - 1))).bind fun t207 => (if t207 = true then (if x5 > 0 then (if 0 ≤ (wrap64 (x5 - 1)) then (if (wrap64 (x5 - 1)) < (x0.length : Int) then (if (rd x0 (wrap64 (x5 - 1))) ≥ (rd x0 x5) then (some false) else (spec_l05Rise.l0 k x0 x1 (wrap64 (x5 + 1)))) else (none)) else (none)) else (spec_l05Rise.l0 k x0 x1 (wrap64 (x5 + 1)))) else (some false))) else (none)) else (some true)
def spec_l05Rise.f (k : Nat) (l0 : List Int) (a1 : Int) : Option (Bool) := spec_l05Rise.l0 k l0 a1 0
theorem spec_l05Rise.mono_l : ∀ k, (∀ y0 y1 y2, LeO (spec_l05Rise.l0 k y0 y1 y2) (spec_l05Rise.l0 (k + 1) y0 y1 y2))
  | 0 => by intros; exact LeO.none _
  | k + 1 => by
    have ih0 := spec_l05Rise.mono_l k; intros ; unfold spec_l05Rise.l0 ; repeat' with_reducible first | exact LeO.refl _ | exact LeO.none _ | refine LeO.ite ?_ ?_ | refine LeO.bind ?_ (fun _ => ?_) | exact ih0 _ _ _
theorem spec_l05Rise.mono : ∀ a0 a1 k, LeO (spec_l05Rise.f k a0 a1) (spec_l05Rise.f (k + 1) a0 a1) := by
  intro a0 a1 k; have ih0 := spec_l05Rise.mono_l k; unfold spec_l05Rise.f
  repeat' with_reducible first | exact LeO.refl _ | exact LeO.none _ | refine LeO.ite ?_ ?_ | refine LeO.bind ?_ (fun _ => ?_) | exact ih0 _ _ _
set_option maxHeartbeats 8000000 in
set_option maxRecDepth 100000 in
theorem spec_l05Rise.calls (k : Nat) (A0 : Option Addr) (c0 : Nat) (l0 : List Int) (a1 : Int) (r : Bool) (w : World) (hr0 : Kd.C (Kd.int .i64) w A0 l0.length l0) (hc0 : l0.length ≤ c0) (h : spec_l05Rise.f k l0 a1 = some r) :
    Calls Tryz.prog 56 #[.slice A0 l0.length c0, .int .i64 a1] w fun e w' => e = .returned (.bool r) ∧ Drawn0 w w' := by
  have HR0 := Aside0.mk hr0; have HC0 := Aside0.mk hc0; clear hr0 hc0; have H : (spec_l05Rise.l0 k l0 a1 0) = some r := h; clear h; have H' := Aside0.mk H; clear H; go_enter Tryz.func56, Tryz.ntmps56; go_wp2
  repeat (go_quiet (fail); try go_wp2)
  go_loopg [5] k (fun kq v5 w' => ∃ (x5_1 : Int), v5 = .int .i64 x5_1 ∧ Aside0 (spec_l05Rise.l0 kq l0 a1 x5_1 = some r) ∧ Aside0 (kq ≤ k) ∧ Drawn0 w w')
  case atStart => exact ⟨(0), q4_, H', ⟨Nat.le_refl _⟩, by repeat (first | exact Drawn0.refl _ | apply Drawn0.step)⟩
  case round =>
    clear H'; (try clear p2); obtain ⟨x5_1, rfl, HA, HK1, ⟨m1, rfl⟩⟩ := hrel
    cases gk with
    | zero => exact absurd HA.out (by simp [spec_l05Rise.l0])
    | succ k1 =>
      have H := HA.out; clear HA; simp only [spec_l05Rise.l0] at H; by_cases c3 : x5_1 < (l0.length : Int)
      · rw [if_pos c3] at H; have c3b0 : decide (x5_1 < (l0.length : Int)) = true := decide_eq_true c3; clear c3; obtain ⟨c4b0, H⟩ := ifd_ H; replace H := Option.bind_eq_some_iff.mp H; obtain ⟨t207, A50, H⟩ := H; (try dsimp only at H); have A5 := Aside0.mk A50; clear A50; by_cases c6 : t207 = true
        · subst c6; rw [if_pos rfl] at H; by_cases c7 : x5_1 > 0
          · rw [if_pos c7] at H; have c7b0 : decide (0 < x5_1) = true := decide_eq_true c7; clear c7; obtain ⟨ji8, hji8⟩ : ∃ j_ : Int, (wrap64 (x5_1 - 1)) = j_ := ⟨_, rfl⟩; replace H : (if 0 ≤ (ji8) then (if (ji8) < (l0.length : Int) then (if (rd l0 (ji8)) ≥ (rd l0 x5_1) then (some false) else (spec_l05Rise.l0 k1 l0 a1 (wrap64 (x5_1 + 1)))) else (none)) else (none)) = some r := (by first | (rw [hji8] at H; exact H) | (simp only [hji8] at H ⊢; exact H)); (try rw [hji8] at A5); have hji8w : (IntKind.i64.wrap (x5_1 - 1)) = ji8 := (i64_w _).trans hji8; obtain ⟨c9b0, H⟩ := ifd_ H; obtain ⟨c10b0, H⟩ := ifd_ H; by_cases c11 : (rd l0 (ji8)) ≥ (rd l0 x5_1)
            · rw [if_pos c11] at H; have c11b0 : decide ((rd l0 x5_1) ≤ (rd l0 (ji8))) = true := decide_eq_true c11; clear c11; obtain rfl := Option.some.inj H; have p206 : 0 ≤ (x5_1 : Int) := of_decide_eq_true q1_; have q206 : x5_1 < (l0.length : Int) := of_decide_eq_true q1_; obtain ⟨ad206, e206, hx206_0⟩ := Kd.at_int HR0.out x5_1 p206 q206; cases e206; replace p206 := eq_true p206; replace q206 := eq_true q206; go_wp2_with (first | (go_at_call 27; (try simp only [i64_w]); (with_reducible refine (spec_l01In.calls (rd l0 x5_1) 0 (wrap64 (a1 - 1)) true _ A5.out).mono ?_); rintro e w' ⟨rfl, ⟨nd, rfl⟩⟩; (try first | exact ⟨rfl, _, World.drewN_drewN _ _ _⟩ | exact ⟨rfl, _, Eq.trans (World.drewN_drewN _ _ _) (congrArg (World.drewN _) (Nat.add_assoc _ _ _))⟩); have p208 : 0 ≤ ((ji8) : Int) := of_decide_eq_true q1_; have q208 : (ji8) < (l0.length : Int) := of_decide_eq_true q1_; obtain ⟨ad208, e208, hx208_0⟩ := Kd.at_int HR0.out (ji8) p208 q208; obtain rfl : ad206 = ad208 := (by injection e208); replace p208 := eq_true p208; replace q208 := eq_true q208; have p209 : 0 ≤ (x5_1 : Int) := of_decide_eq_true q1_; have q209 : x5_1 < (l0.length : Int) := of_decide_eq_true q1_; obtain ⟨ad209, e209, hx209_0⟩ := Kd.at_int HR0.out x5_1 p209 q209; obtain rfl : ad206 = ad209 := (by injection e209); replace p209 := eq_true p209; replace q209 := eq_true q209))
              repeat (go_quiet (first | (go_at_call 27; (try simp only [i64_w]); (with_reducible refine (spec_l01In.calls (rd l0 x5_1) 0 (wrap64 (a1 - 1)) true _ A5.out).mono ?_); rintro e w' ⟨rfl, ⟨nd, rfl⟩⟩; (try first | exact ⟨rfl, _, World.drewN_drewN _ _ _⟩ | exact ⟨rfl, _, Eq.trans (World.drewN_drewN _ _ _) (congrArg (World.drewN _) (Nat.add_assoc _ _ _))⟩); have p208 : 0 ≤ ((ji8) : Int) := of_decide_eq_true q1_; have q208 : (ji8) < (l0.length : Int) := of_decide_eq_true q1_; obtain ⟨ad208, e208, hx208_0⟩ := Kd.at_int HR0.out (ji8) p208 q208; obtain rfl : ad206 = ad208 := (by injection e208); replace p208 := eq_true p208; replace q208 := eq_true q208; have p209 : 0 ≤ (x5_1 : Int) := of_decide_eq_true q1_; have q209 : x5_1 < (l0.length : Int) := of_decide_eq_true q1_; obtain ⟨ad209, e209, hx209_0⟩ := Kd.at_int HR0.out x5_1 p209 q209; obtain rfl : ad206 = ad209 := (by injection e209); replace p209 := eq_true p209; replace q209 := eq_true q209)); try go_wp2_with (first | (go_at_call 27; (try simp only [i64_w]); (with_reducible refine (spec_l01In.calls (rd l0 x5_1) 0 (wrap64 (a1 - 1)) true _ A5.out).mono ?_); rintro e w' ⟨rfl, ⟨nd, rfl⟩⟩; (try first | exact ⟨rfl, _, World.drewN_drewN _ _ _⟩ | exact ⟨rfl, _, Eq.trans (World.drewN_drewN _ _ _) (congrArg (World.drewN _) (Nat.add_assoc _ _ _))⟩); have p208 : 0 ≤ ((ji8) : Int) := of_decide_eq_true q1_; have q208 : (ji8) < (l0.length : Int) := of_decide_eq_true q1_; obtain ⟨ad208, e208, hx208_0⟩ := Kd.at_int HR0.out (ji8) p208 q208; obtain rfl : ad206 = ad208 := (by injection e208); replace p208 := eq_true p208; replace q208 := eq_true q208; have p209 : 0 ≤ (x5_1 : Int) := of_decide_eq_true q1_; have q209 : x5_1 < (l0.length : Int) := of_decide_eq_true q1_; obtain ⟨ad209, e209, hx209_0⟩ := Kd.at_int HR0.out x5_1 p209 q209; obtain rfl : ad206 = ad209 := (by injection e209); replace p209 := eq_true p209; replace q209 := eq_true q209)))
              go_ret; exact ⟨by first | rfl | (simp; done) | (simp only [← hji8] <;> (first | rfl | simp)) | (simp [*]; done), by repeat (first | exact Drawn0.refl _ | apply Drawn0.step)⟩
            · rw [if_neg c11] at H; have c11b0 : decide ((rd l0 x5_1) ≤ (rd l0 (ji8))) = false := decide_eq_false c11; clear c11; have H' := Aside0.mk H; clear H; have p206 : 0 ≤ (x5_1 : Int) := of_decide_eq_true q1_; have q206 : x5_1 < (l0.length : Int) := of_decide_eq_true q1_; obtain ⟨ad206, e206, hx206_0⟩ := Kd.at_int HR0.out x5_1 p206 q206; cases e206; replace p206 := eq_true p206; replace q206 := eq_true q206; go_wp2_with (first | (go_at_call 27; (try simp only [i64_w]); (with_reducible refine (spec_l01In.calls (rd l0 x5_1) 0 (wrap64 (a1 - 1)) true _ A5.out).mono ?_); rintro e w' ⟨rfl, ⟨nd, rfl⟩⟩; (try first | exact ⟨rfl, _, World.drewN_drewN _ _ _⟩ | exact ⟨rfl, _, Eq.trans (World.drewN_drewN _ _ _) (congrArg (World.drewN _) (Nat.add_assoc _ _ _))⟩); have p208 : 0 ≤ ((ji8) : Int) := of_decide_eq_true q1_; have q208 : (ji8) < (l0.length : Int) := of_decide_eq_true q1_; obtain ⟨ad208, e208, hx208_0⟩ := Kd.at_int HR0.out (ji8) p208 q208; obtain rfl : ad206 = ad208 := (by injection e208); replace p208 := eq_true p208; replace q208 := eq_true q208; have p209 : 0 ≤ (x5_1 : Int) := of_decide_eq_true q1_; have q209 : x5_1 < (l0.length : Int) := of_decide_eq_true q1_; obtain ⟨ad209, e209, hx209_0⟩ := Kd.at_int HR0.out x5_1 p209 q209; obtain rfl : ad206 = ad209 := (by injection e209); replace p209 := eq_true p209; replace q209 := eq_true q209))
              repeat (go_quiet (first | (go_at_call 27; (try simp only [i64_w]); (with_reducible refine (spec_l01In.calls (rd l0 x5_1) 0 (wrap64 (a1 - 1)) true _ A5.out).mono ?_); rintro e w' ⟨rfl, ⟨nd, rfl⟩⟩; (try first | exact ⟨rfl, _, World.drewN_drewN _ _ _⟩ | exact ⟨rfl, _, Eq.trans (World.drewN_drewN _ _ _) (congrArg (World.drewN _) (Nat.add_assoc _ _ _))⟩); have p208 : 0 ≤ ((ji8) : Int) := of_decide_eq_true q1_; have q208 : (ji8) < (l0.length : Int) := of_decide_eq_true q1_; obtain ⟨ad208, e208, hx208_0⟩ := Kd.at_int HR0.out (ji8) p208 q208; obtain rfl : ad206 = ad208 := (by injection e208); replace p208 := eq_true p208; replace q208 := eq_true q208; have p209 : 0 ≤ (x5_1 : Int) := of_decide_eq_true q1_; have q209 : x5_1 < (l0.length : Int) := of_decide_eq_true q1_; obtain ⟨ad209, e209, hx209_0⟩ := Kd.at_int HR0.out x5_1 p209 q209; obtain rfl : ad206 = ad209 := (by injection e209); replace p209 := eq_true p209; replace q209 := eq_true q209)); try go_wp2_with (first | (go_at_call 27; (try simp only [i64_w]); (with_reducible refine (spec_l01In.calls (rd l0 x5_1) 0 (wrap64 (a1 - 1)) true _ A5.out).mono ?_); rintro e w' ⟨rfl, ⟨nd, rfl⟩⟩; (try first | exact ⟨rfl, _, World.drewN_drewN _ _ _⟩ | exact ⟨rfl, _, Eq.trans (World.drewN_drewN _ _ _) (congrArg (World.drewN _) (Nat.add_assoc _ _ _))⟩); have p208 : 0 ≤ ((ji8) : Int) := of_decide_eq_true q1_; have q208 : (ji8) < (l0.length : Int) := of_decide_eq_true q1_; obtain ⟨ad208, e208, hx208_0⟩ := Kd.at_int HR0.out (ji8) p208 q208; obtain rfl : ad206 = ad208 := (by injection e208); replace p208 := eq_true p208; replace q208 := eq_true q208; have p209 : 0 ≤ (x5_1 : Int) := of_decide_eq_true q1_; have q209 : x5_1 < (l0.length : Int) := of_decide_eq_true q1_; obtain ⟨ad209, e209, hx209_0⟩ := Kd.at_int HR0.out x5_1 p209 q209; obtain rfl : ad206 = ad209 := (by injection e209); replace p209 := eq_true p209; replace q209 := eq_true q209)))
              go_roundg k1
              case measure => have := HK1.out; omega
              case rel => exact ⟨(wrap64 (x5_1 + 1)), q4_, H', ⟨by have := HK1.out; omega⟩, by repeat (first | exact Drawn0.refl _ | apply Drawn0.step)⟩
          · rw [if_neg c7] at H; have c7b0 : decide (0 < x5_1) = false := decide_eq_false c7; clear c7; have H' := Aside0.mk H; clear H; have p206 : 0 ≤ (x5_1 : Int) := of_decide_eq_true q1_; have q206 : x5_1 < (l0.length : Int) := of_decide_eq_true q1_; obtain ⟨ad206, e206, hx206_0⟩ := Kd.at_int HR0.out x5_1 p206 q206; cases e206; replace p206 := eq_true p206; replace q206 := eq_true q206; go_wp2_with (first | (go_at_call 27; (try simp only [i64_w]); (with_reducible refine (spec_l01In.calls (rd l0 x5_1) 0 (wrap64 (a1 - 1)) true _ A5.out).mono ?_); rintro e w' ⟨rfl, ⟨nd, rfl⟩⟩; (try first | exact ⟨rfl, _, World.drewN_drewN _ _ _⟩ | exact ⟨rfl, _, Eq.trans (World.drewN_drewN _ _ _) (congrArg (World.drewN _) (Nat.add_assoc _ _ _))⟩)))
            repeat (go_quiet (first | (go_at_call 27; (try simp only [i64_w]); (with_reducible refine (spec_l01In.calls (rd l0 x5_1) 0 (wrap64 (a1 - 1)) true _ A5.out).mono ?_); rintro e w' ⟨rfl, ⟨nd, rfl⟩⟩; (try first | exact ⟨rfl, _, World.drewN_drewN _ _ _⟩ | exact ⟨rfl, _, Eq.trans (World.drewN_drewN _ _ _) (congrArg (World.drewN _) (Nat.add_assoc _ _ _))⟩))); try go_wp2_with (first | (go_at_call 27; (try simp only [i64_w]); (with_reducible refine (spec_l01In.calls (rd l0 x5_1) 0 (wrap64 (a1 - 1)) true _ A5.out).mono ?_); rintro e w' ⟨rfl, ⟨nd, rfl⟩⟩; (try first | exact ⟨rfl, _, World.drewN_drewN _ _ _⟩ | exact ⟨rfl, _, Eq.trans (World.drewN_drewN _ _ _) (congrArg (World.drewN _) (Nat.add_assoc _ _ _))⟩))))
            go_roundg k1
            case measure => have := HK1.out; omega
            case rel => exact ⟨(wrap64 (x5_1 + 1)), q4_, H', ⟨by have := HK1.out; omega⟩, by repeat (first | exact Drawn0.refl _ | apply Drawn0.step)⟩
        · replace c6 := Bool.eq_false_iff.mpr c6; subst c6; rw [if_neg nf_] at H; obtain rfl := Option.some.inj H; have p206 : 0 ≤ (x5_1 : Int) := of_decide_eq_true q1_; have q206 : x5_1 < (l0.length : Int) := of_decide_eq_true q1_; obtain ⟨ad206, e206, hx206_0⟩ := Kd.at_int HR0.out x5_1 p206 q206; cases e206; replace p206 := eq_true p206; replace q206 := eq_true q206; go_wp2_with (first | (go_at_call 27; (try simp only [i64_w]); (with_reducible refine (spec_l01In.calls (rd l0 x5_1) 0 (wrap64 (a1 - 1)) false _ A5.out).mono ?_); rintro e w' ⟨rfl, ⟨nd, rfl⟩⟩; (try first | exact ⟨rfl, _, World.drewN_drewN _ _ _⟩ | exact ⟨rfl, _, Eq.trans (World.drewN_drewN _ _ _) (congrArg (World.drewN _) (Nat.add_assoc _ _ _))⟩)))
          repeat (go_quiet (first | (go_at_call 27; (try simp only [i64_w]); (with_reducible refine (spec_l01In.calls (rd l0 x5_1) 0 (wrap64 (a1 - 1)) false _ A5.out).mono ?_); rintro e w' ⟨rfl, ⟨nd, rfl⟩⟩; (try first | exact ⟨rfl, _, World.drewN_drewN _ _ _⟩ | exact ⟨rfl, _, Eq.trans (World.drewN_drewN _ _ _) (congrArg (World.drewN _) (Nat.add_assoc _ _ _))⟩))); try go_wp2_with (first | (go_at_call 27; (try simp only [i64_w]); (with_reducible refine (spec_l01In.calls (rd l0 x5_1) 0 (wrap64 (a1 - 1)) false _ A5.out).mono ?_); rintro e w' ⟨rfl, ⟨nd, rfl⟩⟩; (try first | exact ⟨rfl, _, World.drewN_drewN _ _ _⟩ | exact ⟨rfl, _, Eq.trans (World.drewN_drewN _ _ _) (congrArg (World.drewN _) (Nat.add_assoc _ _ _))⟩))))
          go_ret; exact ⟨by first | rfl | (simp; done) | (simp [*]; done), by repeat (first | exact Drawn0.refl _ | apply Drawn0.step)⟩
      · rw [if_neg c3] at H; have c3b0 : decide (x5_1 < (l0.length : Int)) = false := decide_eq_false c3; clear c3; obtain rfl := Option.some.inj H; go_wp2
        repeat (go_quiet (fail); try go_wp2)
        go_ret; exact ⟨by first | rfl | (simp; done) | (simp [*]; done), by repeat (first | exact Drawn0.refl _ | apply Drawn0.step)⟩

end Go.Proofs.YtmodgiingohphaaGreat.PFnExactFromRecords
-- (flat)
