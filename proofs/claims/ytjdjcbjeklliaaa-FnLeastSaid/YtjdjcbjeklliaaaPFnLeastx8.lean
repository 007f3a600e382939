-- Made by a program (the kit's print with additions of this session: wip/tools/patch_print.py, ext.py).
-- (turned)
import Derived.Test.YtjdjcbjeklliaaaPFnLeastx0
import Derived.Test.YtjdjcbjeklliaaaPFnLeastx7
namespace Go.Proofs.Ytjdjcbjeklliaaa.PFnLeast
open Go.RowKit Go.Proofs.YtjdjcbjeklliaaaW.PrintWords Go.Proofs.YtjdjcbjeklliaaaW.PrintLast Go.Proofs.YtjdjcbjeklliaaaW.PrintMore
attribute [local go_sem] max2_int min2_int max_two min_two max_three min_three max_four min_four   -- for this text's walks alone
set_option linter.unusedVariables false
set_option linter.unusedSimpArgs false

/-! ### impl_EditsOk: function 58 -/
mutual
def impl_EditsOk.l0 : Nat → Int → Int → List (S31) → Int → Int → Option (Bool)
  | 0, _, _, _, _, _ => none
  | k + 1, x3, x4, x7, x8, x9 => if x9 < x8 then (if 0 ≤ x9 then (if x9 < (x7.length : Int) then ((impl_inRange.f ((rd_T31 x7 x9).f0) 1 3).bind fun t384 => (if t384 = true then ((impl_LineOk.f ((rd_T31 x7 x9).f1)).bind fun t385 => (impl_EditsOk.j1 k x3 x4 x7 x8 x9 (!t385) ((rd_T31 x7 x9).f0) ((rd_T31 x7 x9).f1))) else (impl_EditsOk.j1 k x3 x4 x7 x8 x9 true ((rd_T31 x7 x9).f0) ((rd_T31 x7 x9).f1)))) else (none)) else (none)) else (if x3 ≤ 300 then (some (decide (x4 ≤ 300))) else (some false))
def impl_EditsOk.j1 : Nat → Int → Int → List (S31) → Int → Int → Bool → Int → ByteArray → Option (Bool)
  | 0, _, _, _, _, _, _, _, _ => none
  | k + 1, x3, x4, x7, x8, x9, x22, x384000, x384001 => if x22 = true then (some false) else (if x384000 = 3 then (if x384000 = 2 then (impl_EditsOk.l0 k x3 x4 x7 x8 (wrap64 (x9 + 1))) else (impl_EditsOk.l0 k x3 (wrap64 (x4 + 1)) x7 x8 (wrap64 (x9 + 1)))) else (if x384000 = 2 then (impl_EditsOk.l0 k (wrap64 (x3 + 1)) x4 x7 x8 (wrap64 (x9 + 1))) else (impl_EditsOk.l0 k (wrap64 (x3 + 1)) (wrap64 (x4 + 1)) x7 x8 (wrap64 (x9 + 1)))))
end
def impl_EditsOk.f (k : Nat) (l0 : List (S31)) : Option (Bool) := impl_EditsOk.l0 k 0 0 l0 (l0.length : Int) 0
theorem impl_EditsOk.mono_l : ∀ k, (∀ y0 y1 y2 y3 y4, LeO (impl_EditsOk.l0 k y0 y1 y2 y3 y4) (impl_EditsOk.l0 (k + 1) y0 y1 y2 y3 y4)) ∧ (∀ y0 y1 y2 y3 y4 y5 y6 y7, LeO (impl_EditsOk.j1 k y0 y1 y2 y3 y4 y5 y6 y7) (impl_EditsOk.j1 (k + 1) y0 y1 y2 y3 y4 y5 y6 y7))
  | 0 => ⟨fun _ _ _ _ _ r h => by simp [impl_EditsOk.l0] at h, fun _ _ _ _ _ _ _ _ r h => by simp [impl_EditsOk.j1] at h⟩
  | k + 1 => by
    obtain ⟨ih0, ih1⟩ := impl_EditsOk.mono_l k
    refine ⟨?_, ?_⟩
    ·intro y0 y1 y2 y3 y4
     unfold impl_EditsOk.l0
     repeat' first
     | (with_reducible exact ih0 _ _ _ _ _)
     | (with_reducible exact ih1 _ _ _ _ _ _ _ _)
     | (with_reducible exact LeO.refl _)
     | (with_reducible exact LeO.none _)
     | (with_reducible refine LeO.ite ?_ ?_)
     | (with_reducible refine LeO.bind ?_ (fun _ => ?_))
     | exact ih0 _ _ _ _ _
     | exact ih1 _ _ _ _ _ _ _ _
     | exact LeO.none _
     | refine LeO.ite ?_ ?_
     | refine LeO.bind ?_ (fun _ => ?_)
    ·intro y0 y1 y2 y3 y4 y5 y6 y7
     unfold impl_EditsOk.j1
     repeat' first
     | (with_reducible exact ih0 _ _ _ _ _)
     | (with_reducible exact ih1 _ _ _ _ _ _ _ _)
     | (with_reducible exact LeO.refl _)
     | (with_reducible exact LeO.none _)
     | (with_reducible refine LeO.ite ?_ ?_)
     | (with_reducible refine LeO.bind ?_ (fun _ => ?_))
     | exact ih0 _ _ _ _ _
     | exact ih1 _ _ _ _ _ _ _ _
     | exact LeO.none _
     | refine LeO.ite ?_ ?_
     | refine LeO.bind ?_ (fun _ => ?_)
theorem impl_EditsOk.mono : ∀ a0 k, LeO (impl_EditsOk.f k a0) (impl_EditsOk.f (k + 1) a0) := by
  intro a0 k
  obtain ⟨ih0, ih1⟩ := impl_EditsOk.mono_l k
  unfold impl_EditsOk.f
  repeat' first
     | (with_reducible exact ih0 _ _ _ _ _)
     | (with_reducible exact ih1 _ _ _ _ _ _ _ _)
     | (with_reducible exact LeO.refl _)
     | (with_reducible exact LeO.none _)
     | (with_reducible refine LeO.ite ?_ ?_)
     | (with_reducible refine LeO.bind ?_ (fun _ => ?_))
     | exact ih0 _ _ _ _ _
     | exact ih1 _ _ _ _ _ _ _ _
     | exact LeO.none _
     | refine LeO.ite ?_ ?_
     | refine LeO.bind ?_ (fun _ => ?_)
set_option maxHeartbeats 8000000 in
set_option maxRecDepth 100000 in
theorem impl_EditsOk.calls (k : Nat) (A0 : Option Addr) (c0 : Nat) (l0 : List (S31)) (r : Bool) (w : World) (hr0 : Kd.C k31 w A0 l0.length l0) (hc0 : l0.length ≤ c0) (h : impl_EditsOk.f k l0 = some r) :
    Calls Try.prog 58 #[.slice A0 l0.length c0] w fun e w' => e = .returned (.bool r) ∧ Below w.heap.size w w' := by
  have hu31 := Try.underlying31
  have HR0 := Aside0.mk hr0
  have HC0 := Aside0.mk hc0
  clear hr0 hc0
  have HB := Aside0.mk (Below.refl w.heap.size w)
  have H : (impl_EditsOk.l0 k 0 0 l0 (l0.length : Int) 0) = some r := h
  clear h
  have H' := Aside0.mk H
  clear H
  go_enter Try.func58, Try.ntmps58
  go_wp2
  go_loopg [3, 4, 9] k (fun kq v3 v4 v9 w' => ∃ (x3_1 : Int) (x4_1 : Int) (x9_1 : Int), v3 = .int .i64 x3_1 ∧ v4 = .int .i64 x4_1 ∧ v9 = .int .i64 x9_1 ∧ Aside0 (impl_EditsOk.l0 kq x3_1 x4_1 l0 (l0.length : Int) x9_1 = some r) ∧ Aside0 (kq ≤ k) ∧ Aside0 (Below w.heap.size w w'))
  case atStart => exact ⟨(0), (0), (0), q7_, q7_, q7_, H', ⟨Nat.le_refl _⟩, ⟨by repeat (first | (with_reducible first | exact HB.out | apply below_alloc | apply pw_below_drewN | apply below_drew1) | exact HB.out)⟩⟩
  case round =>
    clear H'
    obtain ⟨x3_1, x4_1, x9_1, rfl, rfl, rfl, HA, HK1, HB⟩ := hrel
    cases gk with
    | zero => exact absurd HA.out (by simp [impl_EditsOk.l0])
    | succ k1 =>
     have H := HA.out
     clear HA
     simp only [impl_EditsOk.l0] at H
     by_cases c2 : x9_1 < (l0.length : Int)
     ·rw [if_pos c2] at H
      have c2b0 : decide (x9_1 < (l0.length : Int)) = true := decide_eq_true c2
      clear c2
      by_cases c3 : 0 ≤ x9_1
      case neg =>
       rw [if_neg c3] at H
       exact absurd H (by simp)
      rw [if_pos c3] at H
      have c3b0 : decide (0 ≤ x9_1) = true := decide_eq_true c3
      clear c3
      by_cases c4 : x9_1 < (l0.length : Int)
      case neg =>
       rw [if_neg c4] at H
       exact absurd H (by simp)
      rw [if_pos c4] at H
      have c4b0 : decide (x9_1 < (l0.length : Int)) = true := decide_eq_true c4
      clear c4
      have HC5 := Aside0.mk H
      clear H
      have p382 : 0 ≤ (x9_1 : Int) := of_decide_eq_true q0_
      have q382 : x9_1 < (l0.length : Int) := of_decide_eq_true q0_
      obtain ⟨ad382, e382, hx382_0, hx382_1⟩ := at_T31 HR0.out x9_1 p382 q382
      cases e382
      replace hx382_0 := (HB.out.cell (World.block_lt_of_cell? w _ hx382_0)).trans hx382_0
      replace hx382_1 := (HB.out.cell (World.block_lt_of_cell? w _ hx382_1)).trans hx382_1
      replace p382 := eq_true p382
      replace q382 := eq_true q382
      go_upto_region 5 with (first | ((with_reducible refine gate_dst (N := 6) rfl ?_); refine box_event ?hg (N := 6) ?hd (cs := #[.int .i64 0, .string (⟨#[]⟩ : ByteArray)]) (t := 31) ?hr ?_; (case hd => rfl); (case hg => rfl); (case hr => first | (go_simp; done) | (go_simp; rfl)); intro gb383 hg w6 hbox hb; have n0_ := Aside0.mk (below_step q2_ hb); have n1_ := Aside0.mk (hbox); have n2_ := Aside0.mk ((by rw [hg]; exact (below_size q2_) : w.heap.size ≤ gb383)); have n3_ := Aside0.mk ((by rw [hg]; exact (below_size q2_) : w.heap.size ≤ gb383)); clear HB; have HB := n0_; have BK383 := n1_; have GW383 := n2_; have GE383 := n3_; clear n0_ n1_ n2_ n3_; clear hb hbox hg; have hcz7_0 : w6.cell? ⟨gb383, 0, none⟩ = some (.int .i64 0) := (blk_cell BK383.out 0).trans rfl; have hcz7_1 : w6.cell? ⟨gb383, 1, none⟩ = some (.string (⟨#[]⟩ : ByteArray)) := (blk_cell BK383.out 1).trans rfl; have hfz7_0 := blk_frozen BK383.out 0; have hfz7_1 := blk_frozen BK383.out 1))
      (try simp only [Act.put, List.setIfInBounds_toArray, List.set_cons_zero, List.set_cons_succ])
      go_cut [22] (fun v22 wc => ∃ (kq : Nat) (x22_4 : Bool), v22 = .bool x22_4 ∧ Aside0 (impl_EditsOk.j1 kq x3_1 x4_1 l0 (l0.length : Int) x9_1 x22_4 ((rd_T31 l0 x9_1).f0) ((rd_T31 l0 x9_1).f1) = some r) ∧ Aside0 (kq ≤ k1) ∧ Aside0 (wc.heap[gb383]? = some (.cells #[.int .i64 ((rd_T31 l0 x9_1).f0), .string ((rd_T31 l0 x9_1).f1)] 31 (0, 0))) ∧ Aside0 (Below w.heap.size w wc))
      case first =>
       have H := HC5.out
       clear HC5
       replace H := Option.bind_eq_some_iff.mp H
       obtain ⟨t384, A80, H⟩ := H
       replace H : (if t384 = true then ((impl_LineOk.f ((rd_T31 l0 x9_1).f1)).bind fun t385 => (impl_EditsOk.j1 k1 x3_1 x4_1 l0 (l0.length : Int) x9_1 (!t385) ((rd_T31 l0 x9_1).f0) ((rd_T31 l0 x9_1).f1))) else (impl_EditsOk.j1 k1 x3_1 x4_1 l0 (l0.length : Int) x9_1 true ((rd_T31 l0 x9_1).f0) ((rd_T31 l0 x9_1).f1))) = some r := H
       have A8 := Aside0.mk A80
       clear A80
       by_cases c9 : t384 = true
       ·subst c9
        have H1 : ((impl_LineOk.f ((rd_T31 l0 x9_1).f1)).bind fun t385 => (impl_EditsOk.j1 k1 x3_1 x4_1 l0 (l0.length : Int) x9_1 (!t385) ((rd_T31 l0 x9_1).f0) ((rd_T31 l0 x9_1).f1))) = some r := by rw [if_pos rfl] at H; exact H
        clear H
        have H := H1
        clear H1
        replace H := Option.bind_eq_some_iff.mp H
        obtain ⟨t385, A100, H⟩ := H
        replace H : (impl_EditsOk.j1 k1 x3_1 x4_1 l0 (l0.length : Int) x9_1 (!t385) ((rd_T31 l0 x9_1).f0) ((rd_T31 l0 x9_1).f1)) = some r := H
        have A10 := Aside0.mk A100
        clear A100
        have H' := Aside0.mk H
        clear H
        have hcz11_0 : w6.cell? ⟨gb383, 0, none⟩ = some (.int .i64 0) := (blk_cell BK383.out 0).trans rfl
        have hcz11_1 : w6.cell? ⟨gb383, 1, none⟩ = some (.string (⟨#[]⟩ : ByteArray)) := (blk_cell BK383.out 1).trans rfl
        have hfz11_0 := blk_frozen BK383.out 0
        have hfz11_1 := blk_frozen BK383.out 1
        go_wp2_with (first | ((with_reducible refine gate_callee (f := 107) rfl ?_); refine goesL_ (some 15) rfl rfl Try.func107 (by kernel_rfl) rfl #[.int .i64 ((rd_T31 l0 x9_1).f0), .int .i64 1, .int .i64 3] rfl q5_ ?_; (with_reducible refine (impl_inRange.calls ((rd_T31 l0 x9_1).f0) 1 3 true _ A8.out).mono ?_); rintro e w' ⟨rfl, ⟨nd, rfl⟩⟩; refine ⟨_, rfl, ?_⟩) | (go_at_call 108; (try simp only [i64_w]); (with_reducible refine (impl_LineOk.calls ((rd_T31 l0 x9_1).f1) t385 _ A10.out).mono ?_); rintro e w' ⟨rfl, ⟨nd, rfl⟩⟩))
        go_meet
        case rel => exact ⟨_, (!t385), q7_, H', ⟨by have := HK1.out; first | omega | exact Nat.le_refl _⟩, ⟨by (with_reducible repeat (first | refine blk_drewN ?_ _ | refine blk_drew ?_ | refine blk_alloc ?_ _)); refine blk_put (cs := #[.int .i64 ((rd_T31 l0 x9_1).f0), .string (⟨#[]⟩ : ByteArray)]) ?_ 1 _ rfl; (with_reducible repeat (first | refine blk_drewN ?_ _ | refine blk_drew ?_ | refine blk_alloc ?_ _)); refine blk_put (cs := #[.int .i64 0, .string (⟨#[]⟩ : ByteArray)]) ?_ 0 _ rfl; (with_reducible repeat (first | refine blk_drewN ?_ _ | refine blk_drew ?_ | refine blk_alloc ?_ _)); exact BK383.out⟩, ⟨by repeat (first | (with_reducible first | exact HB.out | apply below_alloc | apply pw_below_drewN | apply below_drew1 | refine below_set ?_ GE383.out) | exact HB.out)⟩⟩
       ·replace c9 := Bool.eq_false_iff.mpr c9
        subst c9
        have H1 : (impl_EditsOk.j1 k1 x3_1 x4_1 l0 (l0.length : Int) x9_1 true ((rd_T31 l0 x9_1).f0) ((rd_T31 l0 x9_1).f1)) = some r := by rw [if_neg (show ¬ (false = true) by decide)] at H; exact H
        clear H
        have H := H1
        clear H1
        have H' := Aside0.mk H
        clear H
        have hcz12_0 : w6.cell? ⟨gb383, 0, none⟩ = some (.int .i64 0) := (blk_cell BK383.out 0).trans rfl
        have hcz12_1 : w6.cell? ⟨gb383, 1, none⟩ = some (.string (⟨#[]⟩ : ByteArray)) := (blk_cell BK383.out 1).trans rfl
        have hfz12_0 := blk_frozen BK383.out 0
        have hfz12_1 := blk_frozen BK383.out 1
        go_wp2_with (first | ((with_reducible refine gate_callee (f := 107) rfl ?_); refine goesL_ (some 15) rfl rfl Try.func107 (by kernel_rfl) rfl #[.int .i64 ((rd_T31 l0 x9_1).f0), .int .i64 1, .int .i64 3] rfl q5_ ?_; (with_reducible refine (impl_inRange.calls ((rd_T31 l0 x9_1).f0) 1 3 false _ A8.out).mono ?_); rintro e w' ⟨rfl, ⟨nd, rfl⟩⟩; refine ⟨_, rfl, ?_⟩))
        go_meet
        case rel => exact ⟨_, (true), q7_, H', ⟨by have := HK1.out; first | omega | exact Nat.le_refl _⟩, ⟨by (with_reducible repeat (first | refine blk_drewN ?_ _ | refine blk_drew ?_ | refine blk_alloc ?_ _)); refine blk_put (cs := #[.int .i64 ((rd_T31 l0 x9_1).f0), .string (⟨#[]⟩ : ByteArray)]) ?_ 1 _ rfl; (with_reducible repeat (first | refine blk_drewN ?_ _ | refine blk_drew ?_ | refine blk_alloc ?_ _)); refine blk_put (cs := #[.int .i64 0, .string (⟨#[]⟩ : ByteArray)]) ?_ 0 _ rfl; (with_reducible repeat (first | refine blk_drewN ?_ _ | refine blk_drew ?_ | refine blk_alloc ?_ _)); exact BK383.out⟩, ⟨by repeat (first | (with_reducible first | exact HB.out | apply below_alloc | apply pw_below_drewN | apply below_drew1 | refine below_set ?_ GE383.out) | exact HB.out)⟩⟩
      case rest =>
       clear HC5
       try clear c1
       try clear c2
       try clear c2b0
       try clear p2
       try clear c3
       try clear c3b0
       try clear p3
       try clear q3
       try clear hx3
       try clear c4
       try clear c4b0
       try clear c5
       try clear c9
       try clear c10
       try clear hcz11_0
       try clear hcz11_1
       try clear hcz12_0
       try clear hcz12_1
       try clear hcz7_0
       try clear hcz7_1
       try clear hfz11_0
       try clear hfz11_1
       try clear hfz12_0
       try clear hfz12_1
       try clear hfz7_0
       try clear hfz7_1
       try clear hx382_0
       try clear hx382_1
       try clear p382
       try clear q382
       obtain ⟨kq, x22_4, rfl, HA, HJ4, BK383, HB⟩ := hcut
       cases kq with
       | zero => exact absurd HA.out (by simp [impl_EditsOk.j1])
       | succ kj4 =>
        have H := HA.out
        clear HA
        simp only [impl_EditsOk.j1] at H
        by_cases c13 : x22_4 = true
        ·subst c13
         have H1 : (some false) = some r := by rw [if_pos rfl] at H; exact H
         clear H
         have H := H1
         clear H1
         obtain rfl := Option.some.inj H
         go_wp2
         go_ret
         exact ⟨by first | rfl | (simp [errW_none, errW_some] <;> rfl) | (simp [*, errW_none, errW_some] <;> rfl), by repeat (first | (with_reducible first | exact HB.out | apply below_alloc | apply pw_below_drewN | apply below_drew1 | refine below_set ?_ GE383.out) | exact HB.out)⟩
        ·replace c13 := Bool.eq_false_iff.mpr c13
         subst c13
         have H1 : (if ((rd_T31 l0 x9_1).f0) = 3 then (if ((rd_T31 l0 x9_1).f0) = 2 then (impl_EditsOk.l0 kj4 x3_1 x4_1 l0 (l0.length : Int) (wrap64 (x9_1 + 1))) else (impl_EditsOk.l0 kj4 x3_1 (wrap64 (x4_1 + 1)) l0 (l0.length : Int) (wrap64 (x9_1 + 1)))) else (if ((rd_T31 l0 x9_1).f0) = 2 then (impl_EditsOk.l0 kj4 (wrap64 (x3_1 + 1)) x4_1 l0 (l0.length : Int) (wrap64 (x9_1 + 1))) else (impl_EditsOk.l0 kj4 (wrap64 (x3_1 + 1)) (wrap64 (x4_1 + 1)) l0 (l0.length : Int) (wrap64 (x9_1 + 1))))) = some r := by rw [if_neg (show ¬ (false = true) by decide)] at H; exact H
         clear H
         have H := H1
         clear H1
         by_cases c14 : ((rd_T31 l0 x9_1).f0) = 3
         ·rw [if_pos c14] at H
          have c14b0 : (((rd_T31 l0 x9_1).f0) == 3) = true := beq_iff_eq.mpr c14
          have c14b1 : (((rd_T31 l0 x9_1).f0) != 3) = false := bne_eq_false_iff_eq.mpr c14
          clear c14
          by_cases c15 : ((rd_T31 l0 x9_1).f0) = 2
          ·rw [if_pos c15] at H
           have c15b0 : (((rd_T31 l0 x9_1).f0) == 2) = true := beq_iff_eq.mpr c15
           have c15b1 : (((rd_T31 l0 x9_1).f0) != 2) = false := bne_eq_false_iff_eq.mpr c15
           clear c15
           have H' := Aside0.mk H
           clear H
           have hcz16_0 : wc.cell? ⟨gb383, 0, none⟩ = some (.int .i64 ((rd_T31 l0 x9_1).f0)) := (blk_cell BK383.out 0).trans rfl
           have hcz16_1 : wc.cell? ⟨gb383, 1, none⟩ = some (.string ((rd_T31 l0 x9_1).f1)) := (blk_cell BK383.out 1).trans rfl
           have hfz16_0 := blk_frozen BK383.out 0
           have hfz16_1 := blk_frozen BK383.out 1
           go_wp2
           go_roundg kj4
           case measure => have := HK1.out; have := HJ4.out; omega
           case rel => exact ⟨(x3_1), (x4_1), (wrap64 (x9_1 + 1)), q7_, q7_, q7_, H', ⟨by have := HK1.out; have := HJ4.out; omega⟩, ⟨by repeat (first | (with_reducible first | exact HB.out | apply below_alloc | apply pw_below_drewN | apply below_drew1 | refine below_set ?_ GE383.out) | exact HB.out)⟩⟩
          ·rw [if_neg c15] at H
           have c15b0 : (((rd_T31 l0 x9_1).f0) == 2) = false := beq_eq_false_iff_ne.mpr c15
           have c15b1 : (((rd_T31 l0 x9_1).f0) != 2) = true := bne_iff_ne.mpr c15
           have H' := Aside0.mk H
           clear H
           have hcz17_0 : wc.cell? ⟨gb383, 0, none⟩ = some (.int .i64 ((rd_T31 l0 x9_1).f0)) := (blk_cell BK383.out 0).trans rfl
           have hcz17_1 : wc.cell? ⟨gb383, 1, none⟩ = some (.string ((rd_T31 l0 x9_1).f1)) := (blk_cell BK383.out 1).trans rfl
           have hfz17_0 := blk_frozen BK383.out 0
           have hfz17_1 := blk_frozen BK383.out 1
           go_wp2
           go_roundg kj4
           case measure => have := HK1.out; have := HJ4.out; omega
           case rel => exact ⟨(x3_1), (wrap64 (x4_1 + 1)), (wrap64 (x9_1 + 1)), q7_, q7_, q7_, H', ⟨by have := HK1.out; have := HJ4.out; omega⟩, ⟨by repeat (first | (with_reducible first | exact HB.out | apply below_alloc | apply pw_below_drewN | apply below_drew1 | refine below_set ?_ GE383.out) | exact HB.out)⟩⟩
         ·rw [if_neg c14] at H
          have c14b0 : (((rd_T31 l0 x9_1).f0) == 3) = false := beq_eq_false_iff_ne.mpr c14
          have c14b1 : (((rd_T31 l0 x9_1).f0) != 3) = true := bne_iff_ne.mpr c14
          by_cases c18 : ((rd_T31 l0 x9_1).f0) = 2
          ·rw [if_pos c18] at H
           have c18b0 : (((rd_T31 l0 x9_1).f0) == 2) = true := beq_iff_eq.mpr c18
           have c18b1 : (((rd_T31 l0 x9_1).f0) != 2) = false := bne_eq_false_iff_eq.mpr c18
           clear c18
           have H' := Aside0.mk H
           clear H
           have hcz19_0 : wc.cell? ⟨gb383, 0, none⟩ = some (.int .i64 ((rd_T31 l0 x9_1).f0)) := (blk_cell BK383.out 0).trans rfl
           have hcz19_1 : wc.cell? ⟨gb383, 1, none⟩ = some (.string ((rd_T31 l0 x9_1).f1)) := (blk_cell BK383.out 1).trans rfl
           have hfz19_0 := blk_frozen BK383.out 0
           have hfz19_1 := blk_frozen BK383.out 1
           go_wp2
           go_roundg kj4
           case measure => have := HK1.out; have := HJ4.out; omega
           case rel => exact ⟨(wrap64 (x3_1 + 1)), (x4_1), (wrap64 (x9_1 + 1)), q7_, q7_, q7_, H', ⟨by have := HK1.out; have := HJ4.out; omega⟩, ⟨by repeat (first | (with_reducible first | exact HB.out | apply below_alloc | apply pw_below_drewN | apply below_drew1 | refine below_set ?_ GE383.out) | exact HB.out)⟩⟩
          ·rw [if_neg c18] at H
           have c18b0 : (((rd_T31 l0 x9_1).f0) == 2) = false := beq_eq_false_iff_ne.mpr c18
           have c18b1 : (((rd_T31 l0 x9_1).f0) != 2) = true := bne_iff_ne.mpr c18
           have H' := Aside0.mk H
           clear H
           have hcz20_0 : wc.cell? ⟨gb383, 0, none⟩ = some (.int .i64 ((rd_T31 l0 x9_1).f0)) := (blk_cell BK383.out 0).trans rfl
           have hcz20_1 : wc.cell? ⟨gb383, 1, none⟩ = some (.string ((rd_T31 l0 x9_1).f1)) := (blk_cell BK383.out 1).trans rfl
           have hfz20_0 := blk_frozen BK383.out 0
           have hfz20_1 := blk_frozen BK383.out 1
           go_wp2
           go_roundg kj4
           case measure => have := HK1.out; have := HJ4.out; omega
           case rel => exact ⟨(wrap64 (x3_1 + 1)), (wrap64 (x4_1 + 1)), (wrap64 (x9_1 + 1)), q7_, q7_, q7_, H', ⟨by have := HK1.out; have := HJ4.out; omega⟩, ⟨by repeat (first | (with_reducible first | exact HB.out | apply below_alloc | apply pw_below_drewN | apply below_drew1 | refine below_set ?_ GE383.out) | exact HB.out)⟩⟩
     ·rw [if_neg c2] at H
      have c2b0 : decide (x9_1 < (l0.length : Int)) = false := decide_eq_false c2
      clear c2
      by_cases c21 : x3_1 ≤ 300
      ·rw [if_pos c21] at H
       have c21b0 : decide (x3_1 ≤ 300) = true := decide_eq_true c21
       clear c21
       obtain rfl := Option.some.inj H
       go_wp2
       go_ret
       exact ⟨by first | rfl | (simp [errW_none, errW_some] <;> rfl) | (simp [*, errW_none, errW_some] <;> rfl), by repeat (first | (with_reducible first | exact HB.out | apply below_alloc | apply pw_below_drewN | apply below_drew1) | exact HB.out)⟩
      ·rw [if_neg c21] at H
       have c21b0 : decide (x3_1 ≤ 300) = false := decide_eq_false c21
       clear c21
       obtain rfl := Option.some.inj H
       go_wp2
       go_ret
       exact ⟨by first | rfl | (simp [errW_none, errW_some] <;> rfl) | (simp [*, errW_none, errW_some] <;> rfl), by repeat (first | (with_reducible first | exact HB.out | apply below_alloc | apply pw_below_drewN | apply below_drew1) | exact HB.out)⟩

/-! ### impl_Apply: function 17 -/
mutual
def impl_Apply.j0 : Nat → List ByteArray → List (S31) → Bool → Option (List ByteArray × Bool)
  | 0, _, _, _ => none
  | k + 1, x0, x1, x17 => if x17 = true then (some (([] : List ByteArray), false)) else (impl_Apply.l0 k x0 ([] : List ByteArray) 0 x1 (x1.length : Int) 0)
def impl_Apply.l0 : Nat → List ByteArray → List ByteArray → Int → List (S31) → Int → Int → Option (List ByteArray × Bool)
  | 0, _, _, _, _, _, _ => none
  | k + 1, x0, x6, x7, x18, x19, x20 => if x20 < x19 then (if 0 ≤ x20 then (if x20 < (x18.length : Int) then (if ((rd_T31 x18 x20).f0) = 3 then (if ((rd_T31 x18 x20).f0) = 2 then (impl_Apply.l0 k x0 x6 x7 x18 x19 (wrap64 (x20 + 1))) else (if x6.length < 8796093022208 then (impl_Apply.l0 k x0 (x6 ++ [(rd_T31 x18 x20).f1]) x7 x18 x19 (wrap64 (x20 + 1))) else (none))) else (if x7 = (x0.length : Int) then (impl_Apply.j2 k x0 x6 x7 x18 x19 x20 true ((rd_T31 x18 x20).f0) ((rd_T31 x18 x20).f1)) else (if 0 ≤ x7 then (if x7 < (x0.length : Int) then (impl_Apply.j2 k x0 x6 x7 x18 x19 x20 ((rdOf ByteArray.empty x0 x7).toList != ((rd_T31 x18 x20).f1).toList) ((rd_T31 x18 x20).f0) ((rd_T31 x18 x20).f1)) else (none)) else (none)))) else (none)) else (none)) else (if x7 < (x0.length : Int) then (some (([] : List ByteArray), false)) else (some (x6, true)))
def impl_Apply.j2 : Nat → List ByteArray → List ByteArray → Int → List (S31) → Int → Int → Bool → Int → ByteArray → Option (List ByteArray × Bool)
  | 0, _, _, _, _, _, _, _, _, _ => none
  | k + 1, x0, x6, x7, x18, x19, x20, x39, x390000, x390001 => if x39 = true then (some (([] : List ByteArray), false)) else (if x390000 = 2 then (impl_Apply.l0 k x0 x6 (wrap64 (x7 + 1)) x18 x19 (wrap64 (x20 + 1))) else (if x6.length < 8796093022208 then (impl_Apply.l0 k x0 (x6 ++ [x390001]) (wrap64 (x7 + 1)) x18 x19 (wrap64 (x20 + 1))) else (none)))
end
def impl_Apply.f (k : Nat) (l0 : List ByteArray) (l1 : List (S31)) : Option (List ByteArray × Bool) := (impl_canAlign.f k l0).bind fun t386 => (if t386 = true then ((impl_EditsOk.f k l1).bind fun t387 => (impl_Apply.j0 k l0 l1 (!t387))) else (impl_Apply.j0 k l0 l1 true))
theorem impl_Apply.mono_l : ∀ k, (∀ y0 y1 y2, LeO (impl_Apply.j0 k y0 y1 y2) (impl_Apply.j0 (k + 1) y0 y1 y2)) ∧ (∀ y0 y1 y2 y3 y4 y5, LeO (impl_Apply.l0 k y0 y1 y2 y3 y4 y5) (impl_Apply.l0 (k + 1) y0 y1 y2 y3 y4 y5)) ∧ (∀ y0 y1 y2 y3 y4 y5 y6 y7 y8, LeO (impl_Apply.j2 k y0 y1 y2 y3 y4 y5 y6 y7 y8) (impl_Apply.j2 (k + 1) y0 y1 y2 y3 y4 y5 y6 y7 y8))
  | 0 => ⟨fun _ _ _ r h => by simp [impl_Apply.j0] at h, fun _ _ _ _ _ _ r h => by simp [impl_Apply.l0] at h, fun _ _ _ _ _ _ _ _ _ r h => by simp [impl_Apply.j2] at h⟩
  | k + 1 => by
    obtain ⟨ih0, ih1, ih2⟩ := impl_Apply.mono_l k
    refine ⟨?_, ?_, ?_⟩
    ·intro y0 y1 y2
     unfold impl_Apply.j0
     repeat' first
     | (with_reducible exact ih0 _ _ _)
     | (with_reducible exact ih1 _ _ _ _ _ _)
     | (with_reducible exact ih2 _ _ _ _ _ _ _ _ _)
     | (with_reducible exact impl_EditsOk.mono _ _)
     | (with_reducible exact impl_canAlign.mono _ _)
     | (with_reducible exact LeO.refl _)
     | (with_reducible exact LeO.none _)
     | (with_reducible refine LeO.ite ?_ ?_)
     | (with_reducible refine LeO.bind ?_ (fun _ => ?_))
     | exact ih0 _ _ _
     | exact ih1 _ _ _ _ _ _
     | exact ih2 _ _ _ _ _ _ _ _ _
     | exact impl_EditsOk.mono _ _
     | exact impl_canAlign.mono _ _
     | exact LeO.none _
     | refine LeO.ite ?_ ?_
     | refine LeO.bind ?_ (fun _ => ?_)
    ·intro y0 y1 y2 y3 y4 y5
     unfold impl_Apply.l0
     repeat' first
     | (with_reducible exact ih0 _ _ _)
     | (with_reducible exact ih1 _ _ _ _ _ _)
     | (with_reducible exact ih2 _ _ _ _ _ _ _ _ _)
     | (with_reducible exact impl_EditsOk.mono _ _)
     | (with_reducible exact impl_canAlign.mono _ _)
     | (with_reducible exact LeO.refl _)
     | (with_reducible exact LeO.none _)
     | (with_reducible refine LeO.ite ?_ ?_)
     | (with_reducible refine LeO.bind ?_ (fun _ => ?_))
     | exact ih0 _ _ _
     | exact ih1 _ _ _ _ _ _
     | exact ih2 _ _ _ _ _ _ _ _ _
     | exact impl_EditsOk.mono _ _
     | exact impl_canAlign.mono _ _
     | exact LeO.none _
     | refine LeO.ite ?_ ?_
     | refine LeO.bind ?_ (fun _ => ?_)
    ·intro y0 y1 y2 y3 y4 y5 y6 y7 y8
     unfold impl_Apply.j2
     repeat' first
     | (with_reducible exact ih0 _ _ _)
     | (with_reducible exact ih1 _ _ _ _ _ _)
     | (with_reducible exact ih2 _ _ _ _ _ _ _ _ _)
     | (with_reducible exact impl_EditsOk.mono _ _)
     | (with_reducible exact impl_canAlign.mono _ _)
     | (with_reducible exact LeO.refl _)
     | (with_reducible exact LeO.none _)
     | (with_reducible refine LeO.ite ?_ ?_)
     | (with_reducible refine LeO.bind ?_ (fun _ => ?_))
     | exact ih0 _ _ _
     | exact ih1 _ _ _ _ _ _
     | exact ih2 _ _ _ _ _ _ _ _ _
     | exact impl_EditsOk.mono _ _
     | exact impl_canAlign.mono _ _
     | exact LeO.none _
     | refine LeO.ite ?_ ?_
     | refine LeO.bind ?_ (fun _ => ?_)
theorem impl_Apply.mono : ∀ a0 a1 k, LeO (impl_Apply.f k a0 a1) (impl_Apply.f (k + 1) a0 a1) := by
  intro a0 a1 k
  obtain ⟨ih0, ih1, ih2⟩ := impl_Apply.mono_l k
  unfold impl_Apply.f
  repeat' first
     | (with_reducible exact ih0 _ _ _)
     | (with_reducible exact ih1 _ _ _ _ _ _)
     | (with_reducible exact ih2 _ _ _ _ _ _ _ _ _)
     | (with_reducible exact impl_EditsOk.mono _ _)
     | (with_reducible exact impl_canAlign.mono _ _)
     | (with_reducible exact LeO.refl _)
     | (with_reducible exact LeO.none _)
     | (with_reducible refine LeO.ite ?_ ?_)
     | (with_reducible refine LeO.bind ?_ (fun _ => ?_))
     | exact ih0 _ _ _
     | exact ih1 _ _ _ _ _ _
     | exact ih2 _ _ _ _ _ _ _ _ _
     | exact impl_EditsOk.mono _ _
     | exact impl_canAlign.mono _ _
     | exact LeO.none _
     | refine LeO.ite ?_ ?_
     | refine LeO.bind ?_ (fun _ => ?_)
set_option maxHeartbeats 8000000 in
set_option maxRecDepth 100000 in
theorem impl_Apply.calls (k : Nat) (A0 : Option Addr) (c0 : Nat) (l0 : List ByteArray) (A1 : Option Addr) (c1 : Nat) (l1 : List (S31)) (r1 : List ByteArray) (r2 : Bool) (w : World) (hr0 : Kd.C Kd.string w A0 l0.length l0) (hc0 : l0.length ≤ c0) (hr1 : Kd.C k31 w A1 l1.length l1) (hc1 : l1.length ≤ c1) (h : impl_Apply.f k l0 l1 = some (r1, r2)) :
    Calls Try.prog 17 #[.slice A0 l0.length c0, .slice A1 l1.length c1] w fun e w' => ∃ v0_ : Value, e = .returned (.tuple #[v0_, .bool r2]) ∧ Kd.R Kd.string 9 w' w.heap.size (fun _ => True) v0_ r1 ∧ Below w.heap.size w w' := by
  have hu31 := Try.underlying31
  have HR0 := Aside0.mk hr0
  have HC0 := Aside0.mk hc0
  clear hr0 hc0
  have HR1 := Aside0.mk hr1
  have HC1 := Aside0.mk hc1
  clear hr1 hc1
  have HB := Aside0.mk (Below.refl w.heap.size w)
  have H : ((impl_canAlign.f k l0).bind fun t386 => (if t386 = true then ((impl_EditsOk.f k l1).bind fun t387 => (impl_Apply.j0 k l0 l1 (!t387))) else (impl_Apply.j0 k l0 l1 true))) = some (r1, r2) := h
  clear h
  have HC3 := Aside0.mk H
  clear H
  go_enter Try.func17, Try.ntmps17
  go_upto_region 1 with (fail)
  repeat (go_quiet (fail); go_upto_region 1 with (fail))
  go_cut [17] (fun v17 wc => ∃ (kq : Nat) (x17_2 : Bool), v17 = .bool x17_2 ∧ Aside0 (impl_Apply.j0 kq l0 l1 x17_2 = some (r1, r2)) ∧ Aside0 (kq ≤ k) ∧ Aside0 (Below w.heap.size w wc))
  case first =>
    have H := HC3.out
    clear HC3
    replace H := Option.bind_eq_some_iff.mp H
    obtain ⟨t386, A40, H⟩ := H
    replace H : (if t386 = true then ((impl_EditsOk.f k l1).bind fun t387 => (impl_Apply.j0 k l0 l1 (!t387))) else (impl_Apply.j0 k l0 l1 true)) = some (r1, r2) := H
    have A4 := Aside0.mk A40
    clear A40
    by_cases c5 : t386 = true
    ·subst c5
     have H1 : ((impl_EditsOk.f k l1).bind fun t387 => (impl_Apply.j0 k l0 l1 (!t387))) = some (r1, r2) := by rw [if_pos rfl] at H; exact H
     clear H
     have H := H1
     clear H1
     replace H := Option.bind_eq_some_iff.mp H
     obtain ⟨t387, A60, H⟩ := H
     replace H : (impl_Apply.j0 k l0 l1 (!t387)) = some (r1, r2) := H
     have A6 := Aside0.mk A60
     clear A60
     have H' := Aside0.mk H
     clear H
     go_wp2_with (first | (go_at_call 57; (try simp only [i64_w]); (with_reducible refine (impl_canAlign.calls k _ _ l0 true _ ?side1 ?side2 A4.out).mono ?_); (case side1 => exact q20_); (case side2 => exact HC0.out); rintro e w' ⟨rfl, ⟨nd, rfl⟩⟩; (try first | exact ⟨rfl, _, World.drewN_drewN _ _ _⟩ | exact ⟨rfl, _, Eq.trans (World.drewN_drewN _ _ _) (congrArg (World.drewN _) (Nat.add_assoc _ _ _))⟩)) | (go_at_call 58; (try simp only [i64_w]); (with_reducible refine (impl_EditsOk.calls k _ _ l1 t387 _ ?side1 ?side2 A6.out).mono ?_); (case side1 => exact (by repeat (first | exact (Kd.C_below HR1.out q2_) | (with_reducible refine Kd.C_alloc ?_ _) | (with_reducible refine Kd.C_drewN ?_ _) | (with_reducible refine Kd.C_drew ?_)))); (case side2 => exact HC1.out); rintro e w7 ⟨rfl, hb⟩; have n0_ := Aside0.mk (below_step q2_ hb); clear HB; have HB := n0_; clear n0_; (try clear hb); (try clear hb2); (try clear hk); (try clear hi)))
     go_meet
     case rel => exact ⟨_, (!t387), q7_, H', ⟨by first | omega | exact Nat.le_refl _⟩, ⟨by repeat (first | (with_reducible first | exact HB.out | apply below_alloc | apply pw_below_drewN | apply below_drew1) | exact HB.out)⟩⟩
    ·replace c5 := Bool.eq_false_iff.mpr c5
     subst c5
     have H1 : (impl_Apply.j0 k l0 l1 true) = some (r1, r2) := by rw [if_neg (show ¬ (false = true) by decide)] at H; exact H
     clear H
     have H := H1
     clear H1
     have H' := Aside0.mk H
     clear H
     go_wp2_with (first | (go_at_call 57; (try simp only [i64_w]); (with_reducible refine (impl_canAlign.calls k _ _ l0 false _ ?side1 ?side2 A4.out).mono ?_); (case side1 => exact q20_); (case side2 => exact HC0.out); rintro e w' ⟨rfl, ⟨nd, rfl⟩⟩; (try first | exact ⟨rfl, _, World.drewN_drewN _ _ _⟩ | exact ⟨rfl, _, Eq.trans (World.drewN_drewN _ _ _) (congrArg (World.drewN _) (Nat.add_assoc _ _ _))⟩)))
     go_meet
     case rel => exact ⟨_, (true), q7_, H', ⟨by first | omega | exact Nat.le_refl _⟩, ⟨by repeat (first | (with_reducible first | exact HB.out | apply below_alloc | apply pw_below_drewN | apply below_drew1) | exact HB.out)⟩⟩
  case rest =>
    clear HC3
    try clear c1
    try clear p2
    try clear c5
    obtain ⟨kq, x17_2, rfl, HA, HJ2, HB⟩ := hcut
    cases kq with
    | zero => exact absurd HA.out (by simp [impl_Apply.j0])
    | succ kj2 =>
     have H := HA.out
     clear HA
     simp only [impl_Apply.j0] at H
     by_cases c8 : x17_2 = true
     ·subst c8
      have H1 : (some (([] : List ByteArray), false)) = some (r1, r2) := by rw [if_pos rfl] at H; exact H
      clear H
      have H := H1
      clear H1
      simp only [Option.some.injEq, Prod.mk.injEq] at H
      obtain ⟨rfl, rfl⟩ := H
      go_wp2
      repeat (go_quiet (fail); try go_wp2)
      go_ret2
      exact ⟨_, by first | rfl | (simp [errW_none, errW_some] <;> rfl) | (simp [*, errW_none, errW_some] <;> rfl), by first | exact Kd.R_nil _ _ _ _ _ | exact Kd.N_nil _ _ _ _ _ | exact Kd.V_nil _ _ _ _ _ | exact Kd.Q_nil _ _ _ _ _ | exact Kd.S_nil _ _ _ _ _, by repeat (first | (with_reducible first | exact HB.out | apply below_alloc | apply pw_below_drewN | apply below_drew1) | exact HB.out)⟩
     ·replace c8 := Bool.eq_false_iff.mpr c8
      subst c8
      have H1 : (impl_Apply.l0 kj2 l0 ([] : List ByteArray) 0 l1 (l1.length : Int) 0) = some (r1, r2) := by rw [if_neg (show ¬ (false = true) by decide)] at H; exact H
      clear H
      have H := H1
      clear H1
      have H' := Aside0.mk H
      clear H
      go_wp2
      repeat (go_quiet (fail); try go_wp2)
      go_loopg [6, 7, 20] kj2 (fun kq v6 v7 v20 w' => ∃ (x6_2 : List ByteArray) (x7_2 : Int) (x20_2 : Int), v7 = .int .i64 x7_2 ∧ v20 = .int .i64 x20_2 ∧ Aside0 (impl_Apply.l0 kq l0 x6_2 x7_2 l1 (l1.length : Int) x20_2 = some (r1, r2)) ∧ Aside0 (kq ≤ kj2) ∧ Aside0 (Kd.R Kd.string 9 w' w.heap.size (fun _ => True) v6 x6_2) ∧ Aside0 (Below w.heap.size w w'))
      case atStart => exact ⟨(([] : List ByteArray)), (0), (0), q7_, q7_, H', ⟨Nat.le_refl _⟩, ⟨by first | exact Kd.R_nil _ _ _ _ _ | exact Kd.N_nil _ _ _ _ _ | exact Kd.V_nil _ _ _ _ _ | exact Kd.Q_nil _ _ _ _ _ | exact Kd.S_nil _ _ _ _ _⟩, ⟨by repeat (first | (with_reducible first | exact HB.out | apply below_alloc | apply pw_below_drewN | apply below_drew1) | exact HB.out)⟩⟩
      case round =>
       clear H'
       try clear c1
       try clear p2
       try clear c5
       try clear c8
       try clear p2
       obtain ⟨x6_2, x7_2, x20_2, rfl, rfl, HA, HK2, HO_6, HB⟩ := hrel
       cases gk with
       | zero => exact absurd HA.out (by simp [impl_Apply.l0])
       | succ k2 =>
        have H := HA.out
        clear HA
        simp only [impl_Apply.l0] at H
        by_cases c9 : x20_2 < (l1.length : Int)
        ·rw [if_pos c9] at H
         have c9b0 : decide (x20_2 < (l1.length : Int)) = true := decide_eq_true c9
         clear c9
         by_cases c10 : 0 ≤ x20_2
         case neg =>
          rw [if_neg c10] at H
          exact absurd H (by simp)
         rw [if_pos c10] at H
         have c10b0 : decide (0 ≤ x20_2) = true := decide_eq_true c10
         clear c10
         by_cases c11 : x20_2 < (l1.length : Int)
         case neg =>
          rw [if_neg c11] at H
          exact absurd H (by simp)
         rw [if_pos c11] at H
         have c11b0 : decide (x20_2 < (l1.length : Int)) = true := decide_eq_true c11
         clear c11
         by_cases c12 : ((rd_T31 l1 x20_2).f0) = 3
         ·rw [if_pos c12] at H
          have c12b0 : (((rd_T31 l1 x20_2).f0) == 3) = true := beq_iff_eq.mpr c12
          have c12b1 : (((rd_T31 l1 x20_2).f0) != 3) = false := bne_eq_false_iff_eq.mpr c12
          clear c12
          by_cases c13 : ((rd_T31 l1 x20_2).f0) = 2
          ·rw [if_pos c13] at H
           have c13b0 : (((rd_T31 l1 x20_2).f0) == 2) = true := beq_iff_eq.mpr c13
           have c13b1 : (((rd_T31 l1 x20_2).f0) != 2) = false := bne_eq_false_iff_eq.mpr c13
           clear c13
           have H' := Aside0.mk H
           clear H
           have p388 : 0 ≤ (x20_2 : Int) := of_decide_eq_true q0_
           have q388 : x20_2 < (l1.length : Int) := of_decide_eq_true q0_
           obtain ⟨ad388, e388, hx388_0, hx388_1⟩ := at_T31 HR1.out x20_2 p388 q388
           cases e388
           replace hx388_0 := (HB.out.cell (World.block_lt_of_cell? w _ hx388_0)).trans hx388_0
           replace hx388_1 := (HB.out.cell (World.block_lt_of_cell? w _ hx388_1)).trans hx388_1
           replace p388 := eq_true p388
           replace q388 := eq_true q388
           go_wp2_with (first | ((with_reducible refine gate_dst (N := 9) rfl ?_); refine box_event ?hg (N := 9) ?hd (cs := #[.int .i64 0, .string (⟨#[]⟩ : ByteArray)]) (t := 31) ?hr ?_; (case hd => rfl); (case hg => rfl); (case hr => first | (go_simp; done) | (go_simp; rfl)); intro gb389 hg w14 hbox hb; have n0_ := Aside0.mk (Kd.R_below q24_ hb); have n1_ := Aside0.mk (below_step q2_ hb); have n2_ := Aside0.mk (hbox); have n3_ := Aside0.mk ((by rw [hg]; exact (below_size q2_) : w.heap.size ≤ gb389)); have n4_ := Aside0.mk ((by rw [hg]; exact (below_size q2_) : w.heap.size ≤ gb389)); clear HO_6; clear HB; have HO_6 := n0_; have HB := n1_; have BK389 := n2_; have GW389 := n3_; have GE389 := n4_; clear n0_ n1_ n2_ n3_ n4_; clear hb hbox hg; have hcz15_0 : w14.cell? ⟨gb389, 0, none⟩ = some (.int .i64 0) := (blk_cell BK389.out 0).trans rfl; have hcz15_1 : w14.cell? ⟨gb389, 1, none⟩ = some (.string (⟨#[]⟩ : ByteArray)) := (blk_cell BK389.out 1).trans rfl; have hfz15_0 := blk_frozen BK389.out 0; have hfz15_1 := blk_frozen BK389.out 1))
           go_roundg k2
           case measure => have := HJ2.out; have := HK2.out; omega
           case rel => exact ⟨(x6_2), (x7_2), (wrap64 (x20_2 + 1)), q7_, q7_, H', ⟨by have := HJ2.out; have := HK2.out; omega⟩, ⟨by (with_reducible repeat (first | apply Kd.R_alloc | apply Kd.R_drewN | apply Kd.R_drew)); exact Kd.R_mono (Kd.R_far (p := ⟨gb389, 1, none⟩) (Kd.R_far (p := ⟨gb389, 0, none⟩) (Kd.R_types HO_6.out BK389.out (by decide)) (fun _ hk => hk.2) (.int .i64 ((rd_T31 l1 x20_2).f0))) (fun _ hk => hk.2) (.string ((rd_T31 l1 x20_2).f1))) (fun _ hk => trivial)⟩, ⟨by repeat (first | (with_reducible first | exact HB.out | apply below_alloc | apply pw_below_drewN | apply below_drew1 | refine below_set ?_ GE389.out) | exact HB.out)⟩⟩
          ·rw [if_neg c13] at H
           have c13b0 : (((rd_T31 l1 x20_2).f0) == 2) = false := beq_eq_false_iff_ne.mpr c13
           have c13b1 : (((rd_T31 l1 x20_2).f0) != 2) = true := bne_iff_ne.mpr c13
           by_cases c16 : x6_2.length < 8796093022208
           case neg =>
            rw [if_neg c16] at H
            exact absurd H (by simp)
           rw [if_pos c16] at H
           have LMc16 := Aside0.mk c16
           clear c16
           obtain ⟨y390, hy390⟩ : ∃ y_ : List ByteArray, y_ = (x6_2 ++ [(rd_T31 l1 x20_2).f1]) := ⟨_, rfl⟩
           replace H : (impl_Apply.l0 k2 l0 y390 x7_2 l1 (l1.length : Int) (wrap64 (x20_2 + 1))) = some (r1, r2) := by first | (rw [hy390]; with_reducible exact H) | (have H2_ := (Option.bind_some _ _).symm.trans H; rw [hy390]; with_reducible exact H2_) | (have H2_ := (Option.bind_some _ _).symm.trans H; with_reducible exact H2_) | with_reducible exact H | (rw [hy390]; exact H) | exact H
           have Ny390 := Aside0.mk hy390
           clear hy390
           have H' := Aside0.mk H
           clear H
           have p388 : 0 ≤ (x20_2 : Int) := of_decide_eq_true q0_
           have q388 : x20_2 < (l1.length : Int) := of_decide_eq_true q0_
           obtain ⟨ad388, e388, hx388_0, hx388_1⟩ := at_T31 HR1.out x20_2 p388 q388
           cases e388
           replace hx388_0 := (HB.out.cell (World.block_lt_of_cell? w _ hx388_0)).trans hx388_0
           replace hx388_1 := (HB.out.cell (World.block_lt_of_cell? w _ hx388_1)).trans hx388_1
           replace p388 := eq_true p388
           replace q388 := eq_true q388
           go_wp2_with (first | ((with_reducible refine gate_dst (N := 9) rfl ?_); refine box_event ?hg (N := 9) ?hd (cs := #[.int .i64 0, .string (⟨#[]⟩ : ByteArray)]) (t := 31) ?hr ?_; (case hd => rfl); (case hg => rfl); (case hr => first | (go_simp; done) | (go_simp; rfl)); intro gb389 hg w17 hbox hb; have n0_ := Aside0.mk (Kd.R_below q24_ hb); have n1_ := Aside0.mk (below_step q2_ hb); have n2_ := Aside0.mk (hbox); have n3_ := Aside0.mk ((by rw [hg]; exact (below_size q2_) : w.heap.size ≤ gb389)); have n4_ := Aside0.mk ((by rw [hg]; exact (below_size q2_) : w.heap.size ≤ gb389)); clear HO_6; clear HB; have HO_6 := n0_; have HB := n1_; have BK389 := n2_; have GW389 := n3_; have GE389 := n4_; clear n0_ n1_ n2_ n3_ n4_; clear hb hbox hg; have hcz18_0 : w17.cell? ⟨gb389, 0, none⟩ = some (.int .i64 0) := (blk_cell BK389.out 0).trans rfl; have hcz18_1 : w17.cell? ⟨gb389, 1, none⟩ = some (.string (⟨#[]⟩ : ByteArray)) := (blk_cell BK389.out 1).trans rfl; have hfz18_0 := blk_frozen BK389.out 0; have hfz18_1 := blk_frozen BK389.out 1) | ((with_reducible refine gate_builtin (b := .append) (xs := #[.tmp 45, .tmp 48]) rfl ?_); at_builtin; refine Kd.R_append Kd.string (w0 := w) w.heap.size rfl (.tmp 45) (.tmp 48) 24 9 (.string ⟨#[]⟩) 16 rfl Try.underlying24 info9 rfl (by decide) (by omega) u6 x6_2 ((rd_T31 l1 x20_2).f1) [.string ((rd_T31 l1 x20_2).f1)] (fun _ => True) (fun _ => False) rfl (by first | (go_simp; done) | (go_simp; rfl)) ?aP (fun _ hk => hk.elim) ?aF ?aO ?aB ?aS ?aL ?_; (case aP => exact rfl); (case aB => exact q35_); (case aF => exact (fun _ _ => trivial)); (case aO => exact (by (with_reducible repeat (first | apply Kd.R_alloc | apply Kd.R_drewN | apply Kd.R_drew)); exact Kd.R_mono (Kd.R_far (p := ⟨gb389, 1, none⟩) (Kd.R_far (p := ⟨gb389, 0, none⟩) (Kd.R_types HO_6.out BK389.out (by decide)) (fun _ hk => hk.2) (.int .i64 ((rd_T31 l1 x20_2).f0))) (fun _ hk => hk.2) (.string ((rd_T31 l1 x20_2).f1))) (fun _ hk => trivial))); (case aS => exact (below_size q35_)); (case aL => have := LMc16.out; omega); intro v391 w19 ho hb hg hat; rw [← Ny390.out] at ho; have n0_ := Aside0.mk (blk_grown (g := gb389) (o := .cells #[.int .i64 ((rd_T31 l1 x20_2).f0), .string ((rd_T31 l1 x20_2).f1)] 31 (0, 0)) (by (with_reducible repeat (first | refine blk_drewN ?_ _ | refine blk_drew ?_ | refine blk_alloc ?_ _)); refine blk_put (cs := #[.int .i64 ((rd_T31 l1 x20_2).f0), .string (⟨#[]⟩ : ByteArray)]) ?_ 1 _ rfl; (with_reducible repeat (first | refine blk_drewN ?_ _ | refine blk_drew ?_ | refine blk_alloc ?_ _)); refine blk_put (cs := #[.int .i64 0, .string (⟨#[]⟩ : ByteArray)]) ?_ 0 _ rfl; (with_reducible repeat (first | refine blk_drewN ?_ _ | refine blk_drew ?_ | refine blk_alloc ?_ _)); exact BK389.out) hg (Kd.R_ne HO_6.out BK389.out (by decide))); have n1_ := Aside0.mk (hb); have n2_ := Aside0.mk (ho); clear BK389; clear HB; clear HO_6; have BK389 := n0_; have HB := n1_; have HO392 := n2_; clear n0_ n1_ n2_; clear ho hb hg hat))
           go_roundg k2
           case measure => have := HJ2.out; have := HK2.out; omega
           case rel => exact ⟨(y390), (x7_2), (wrap64 (x20_2 + 1)), q7_, q7_, H', ⟨by have := HJ2.out; have := HK2.out; omega⟩, ⟨by (with_reducible repeat (first | apply Kd.R_alloc | apply Kd.R_drewN | apply Kd.R_drew)); exact HO392.out⟩, ⟨by repeat (first | (with_reducible first | exact HB.out | apply below_alloc | apply pw_below_drewN | apply below_drew1 | refine below_set ?_ GE389.out) | exact HB.out)⟩⟩
         ·rw [if_neg c12] at H
          have c12b0 : (((rd_T31 l1 x20_2).f0) == 3) = false := beq_eq_false_iff_ne.mpr c12
          have c12b1 : (((rd_T31 l1 x20_2).f0) != 3) = true := bne_iff_ne.mpr c12
          have HC20 := Aside0.mk H
          clear H
          have p388 : 0 ≤ (x20_2 : Int) := of_decide_eq_true q0_
          have q388 : x20_2 < (l1.length : Int) := of_decide_eq_true q0_
          obtain ⟨ad388, e388, hx388_0, hx388_1⟩ := at_T31 HR1.out x20_2 p388 q388
          cases e388
          replace hx388_0 := (HB.out.cell (World.block_lt_of_cell? w _ hx388_0)).trans hx388_0
          replace hx388_1 := (HB.out.cell (World.block_lt_of_cell? w _ hx388_1)).trans hx388_1
          replace p388 := eq_true p388
          replace q388 := eq_true q388
          go_upto_region 9 with (first | ((with_reducible refine gate_dst (N := 9) rfl ?_); refine box_event ?hg (N := 9) ?hd (cs := #[.int .i64 0, .string (⟨#[]⟩ : ByteArray)]) (t := 31) ?hr ?_; (case hd => rfl); (case hg => rfl); (case hr => first | (go_simp; done) | (go_simp; rfl)); intro gb389 hg w21 hbox hb; have n0_ := Aside0.mk (Kd.R_below q24_ hb); have n1_ := Aside0.mk (below_step q2_ hb); have n2_ := Aside0.mk (hbox); have n3_ := Aside0.mk ((by rw [hg]; exact (below_size q2_) : w.heap.size ≤ gb389)); have n4_ := Aside0.mk ((by rw [hg]; exact (below_size q2_) : w.heap.size ≤ gb389)); clear HO_6; clear HB; have HO_6 := n0_; have HB := n1_; have BK389 := n2_; have GW389 := n3_; have GE389 := n4_; clear n0_ n1_ n2_ n3_ n4_; clear hb hbox hg; have hcz22_0 : w21.cell? ⟨gb389, 0, none⟩ = some (.int .i64 0) := (blk_cell BK389.out 0).trans rfl; have hcz22_1 : w21.cell? ⟨gb389, 1, none⟩ = some (.string (⟨#[]⟩ : ByteArray)) := (blk_cell BK389.out 1).trans rfl; have hfz22_0 := blk_frozen BK389.out 0; have hfz22_1 := blk_frozen BK389.out 1))
          (try simp only [Act.put, List.setIfInBounds_toArray, List.set_cons_zero, List.set_cons_succ])
          go_cut [39] (fun v39 wc => ∃ (kq : Nat) (x39_19 : Bool), v39 = .bool x39_19 ∧ Aside0 (impl_Apply.j2 kq l0 x6_2 x7_2 l1 (l1.length : Int) x20_2 x39_19 ((rd_T31 l1 x20_2).f0) ((rd_T31 l1 x20_2).f1) = some (r1, r2)) ∧ Aside0 (kq ≤ k2) ∧ Aside0 (Kd.R Kd.string 9 wc w.heap.size (fun _ => True) u6 x6_2) ∧ Aside0 (wc.heap[gb389]? = some (.cells #[.int .i64 ((rd_T31 l1 x20_2).f0), .string ((rd_T31 l1 x20_2).f1)] 31 (0, 0))) ∧ Aside0 (Below w.heap.size w wc))
          case first =>
           have H := HC20.out
           clear HC20
           by_cases c23 : x7_2 = (l0.length : Int)
           ·rw [if_pos c23] at H
            have c23b0 : (x7_2 == (l0.length : Int)) = true := beq_iff_eq.mpr c23
            have c23b1 : (x7_2 != (l0.length : Int)) = false := bne_eq_false_iff_eq.mpr c23
            clear c23
            (first | rw [c23b0] | (simp only [i64_w, i32_w]; rw [c23b0]) | skip)
            have H' := Aside0.mk H
            clear H
            go_wp2
            repeat (go_quiet (fail); try go_wp2)
            go_meet
            case rel => exact ⟨_, (true), q7_, H', ⟨by have := HJ2.out; have := HK2.out; first | omega | exact Nat.le_refl _⟩, ⟨by (with_reducible repeat (first | apply Kd.R_alloc | apply Kd.R_drewN | apply Kd.R_drew)); exact Kd.R_mono (Kd.R_far (p := ⟨gb389, 1, none⟩) (Kd.R_far (p := ⟨gb389, 0, none⟩) (Kd.R_types HO_6.out BK389.out (by decide)) (fun _ hk => hk.2) (.int .i64 ((rd_T31 l1 x20_2).f0))) (fun _ hk => hk.2) (.string ((rd_T31 l1 x20_2).f1))) (fun _ hk => trivial)⟩, ⟨by (with_reducible repeat (first | refine blk_drewN ?_ _ | refine blk_drew ?_ | refine blk_alloc ?_ _)); refine blk_put (cs := #[.int .i64 ((rd_T31 l1 x20_2).f0), .string (⟨#[]⟩ : ByteArray)]) ?_ 1 _ rfl; (with_reducible repeat (first | refine blk_drewN ?_ _ | refine blk_drew ?_ | refine blk_alloc ?_ _)); refine blk_put (cs := #[.int .i64 0, .string (⟨#[]⟩ : ByteArray)]) ?_ 0 _ rfl; (with_reducible repeat (first | refine blk_drewN ?_ _ | refine blk_drew ?_ | refine blk_alloc ?_ _)); exact BK389.out⟩, ⟨by repeat (first | (with_reducible first | exact HB.out | apply below_alloc | apply pw_below_drewN | apply below_drew1 | refine below_set ?_ GE389.out) | exact HB.out)⟩⟩
           ·rw [if_neg c23] at H
            have c23b0 : (x7_2 == (l0.length : Int)) = false := beq_eq_false_iff_ne.mpr c23
            have c23b1 : (x7_2 != (l0.length : Int)) = true := bne_iff_ne.mpr c23
            (first | rw [c23b0] | (simp only [i64_w, i32_w]; rw [c23b0]) | skip)
            by_cases c24 : 0 ≤ x7_2
            case neg =>
             rw [if_neg c24] at H
             exact absurd H (by simp)
            rw [if_pos c24] at H
            have c24b0 : decide (0 ≤ x7_2) = true := decide_eq_true c24
            clear c24
            by_cases c25 : x7_2 < (l0.length : Int)
            case neg =>
             rw [if_neg c25] at H
             exact absurd H (by simp)
            rw [if_pos c25] at H
            have c25b0 : decide (x7_2 < (l0.length : Int)) = true := decide_eq_true c25
            clear c25
            have H' := Aside0.mk H
            clear H
            have p393 : 0 ≤ (x7_2 : Int) := of_decide_eq_true q0_
            have q393 : x7_2 < (l0.length : Int) := of_decide_eq_true q0_
            obtain ⟨ad393, e393, hx393_0⟩ := Kd.at_string HR0.out x7_2 p393 q393
            cases e393
            have hn393_0 : ad393.block ≠ gb389 := Nat.ne_of_lt (Nat.lt_of_lt_of_le (by have := World.block_lt_of_cell? _ _ hx393_0; first | rwa [add_block] at this | exact this) GW389.out)
            have hn393_1 : ad393.block ≠ gb389 := Nat.ne_of_lt (Nat.lt_of_lt_of_le (by have := World.block_lt_of_cell? _ _ hx393_0; first | rwa [add_block] at this | exact this) GW389.out)
            replace hx393_0 := (HB.out.cell (World.block_lt_of_cell? w _ hx393_0)).trans hx393_0
            replace hx393_0 := (cell_far (p := ⟨gb389, 0, none⟩) (by first | (rw [add_block]; exact hn393_0) | (show (Addr.add _ _).block ≠ _; rw [add_block]; exact hn393_0) | exact hn393_0) (.int .i64 ((rd_T31 l1 x20_2).f0))).trans hx393_0
            replace hx393_0 := (cell_far (p := ⟨gb389, 1, none⟩) (by first | (rw [add_block]; exact hn393_1) | (show (Addr.add _ _).block ≠ _; rw [add_block]; exact hn393_1) | exact hn393_1) (.string ((rd_T31 l1 x20_2).f1))).trans hx393_0
            (try have hy393_0 := fun (n_ : Nat) => (show ((((w21.drewN n_).setCell ⟨gb389, 0, none⟩ (.int .i64 ((rd_T31 l1 x20_2).f0))).setCell ⟨gb389, 1, none⟩ (.string ((rd_T31 l1 x20_2).f1)))).cell? _ = some _ from hx393_0))
            clear hn393_0
            clear hn393_1
            replace p393 := eq_true p393
            replace q393 := eq_true q393
            have hcz26_0 : w21.cell? ⟨gb389, 0, none⟩ = some (.int .i64 0) := (blk_cell BK389.out 0).trans rfl
            have hcz26_1 : w21.cell? ⟨gb389, 1, none⟩ = some (.string (⟨#[]⟩ : ByteArray)) := (blk_cell BK389.out 1).trans rfl
            have hfz26_0 := blk_frozen BK389.out 0
            have hfz26_1 := blk_frozen BK389.out 1
            go_wp2
            repeat (go_quiet (fail); try go_wp2)
            go_meet
            case rel => exact ⟨_, (((rdOf ByteArray.empty l0 x7_2).toList != ((rd_T31 l1 x20_2).f1).toList)), q7_, H', ⟨by have := HJ2.out; have := HK2.out; first | omega | exact Nat.le_refl _⟩, ⟨by (with_reducible repeat (first | apply Kd.R_alloc | apply Kd.R_drewN | apply Kd.R_drew)); exact Kd.R_mono (Kd.R_far (p := ⟨gb389, 1, none⟩) (Kd.R_far (p := ⟨gb389, 0, none⟩) (Kd.R_types HO_6.out BK389.out (by decide)) (fun _ hk => hk.2) (.int .i64 ((rd_T31 l1 x20_2).f0))) (fun _ hk => hk.2) (.string ((rd_T31 l1 x20_2).f1))) (fun _ hk => trivial)⟩, ⟨by (with_reducible repeat (first | refine blk_drewN ?_ _ | refine blk_drew ?_ | refine blk_alloc ?_ _)); refine blk_put (cs := #[.int .i64 ((rd_T31 l1 x20_2).f0), .string (⟨#[]⟩ : ByteArray)]) ?_ 1 _ rfl; (with_reducible repeat (first | refine blk_drewN ?_ _ | refine blk_drew ?_ | refine blk_alloc ?_ _)); refine blk_put (cs := #[.int .i64 0, .string (⟨#[]⟩ : ByteArray)]) ?_ 0 _ rfl; (with_reducible repeat (first | refine blk_drewN ?_ _ | refine blk_drew ?_ | refine blk_alloc ?_ _)); exact BK389.out⟩, ⟨by repeat (first | (with_reducible first | exact HB.out | apply below_alloc | apply pw_below_drewN | apply below_drew1 | refine below_set ?_ GE389.out) | exact HB.out)⟩⟩
          case rest =>
           clear HC20
           try clear c1
           try clear c2
           try clear p2
           try clear p3
           try clear q3
           try clear hx3
           try clear c5
           try clear p6
           try clear c8
           try clear c9
           try clear c9b0
           try clear c10
           try clear c10b0
           try clear c11
           try clear c11b0
           try clear c12
           try clear c12b0
           try clear c12b1
           try clear c13
           try clear c13b0
           try clear c13b1
           try clear c16
           try clear c17
           try clear c23
           try clear c23b0
           try clear c23b1
           try clear c24
           try clear c24b0
           try clear c25
           try clear c25b0
           try clear hcz15_0
           try clear hcz15_1
           try clear hcz18_0
           try clear hcz18_1
           try clear hcz22_0
           try clear hcz22_1
           try clear hcz26_0
           try clear hcz26_1
           try clear hfz15_0
           try clear hfz15_1
           try clear hfz18_0
           try clear hfz18_1
           try clear hfz22_0
           try clear hfz22_1
           try clear hfz26_0
           try clear hfz26_1
           try clear hx388_0
           try clear hx388_1
           try clear hx393_0
           try clear p2
           try clear p388
           try clear p393
           try clear q388
           try clear q393
           obtain ⟨kq, x39_19, rfl, HA, HJ19, HO_6, BK389, HB⟩ := hcut
           cases kq with
           | zero => exact absurd HA.out (by simp [impl_Apply.j2])
           | succ kj19 =>
            have H := HA.out
            clear HA
            simp only [impl_Apply.j2] at H
            by_cases c27 : x39_19 = true
            ·subst c27
             have H1 : (some (([] : List ByteArray), false)) = some (r1, r2) := by rw [if_pos rfl] at H; exact H
             clear H
             have H := H1
             clear H1
             simp only [Option.some.injEq, Prod.mk.injEq] at H
             obtain ⟨rfl, rfl⟩ := H
             go_wp2
             repeat (go_quiet (fail); try go_wp2)
             go_ret2
             exact ⟨_, by first | rfl | (simp [errW_none, errW_some] <;> rfl) | (simp [*, errW_none, errW_some] <;> rfl), by first | exact Kd.R_nil _ _ _ _ _ | exact Kd.N_nil _ _ _ _ _ | exact Kd.V_nil _ _ _ _ _ | exact Kd.Q_nil _ _ _ _ _ | exact Kd.S_nil _ _ _ _ _, by repeat (first | (with_reducible first | exact HB.out | apply below_alloc | apply pw_below_drewN | apply below_drew1 | refine below_set ?_ GE389.out) | exact HB.out)⟩
            ·replace c27 := Bool.eq_false_iff.mpr c27
             subst c27
             have H1 : (if ((rd_T31 l1 x20_2).f0) = 2 then (impl_Apply.l0 kj19 l0 x6_2 (wrap64 (x7_2 + 1)) l1 (l1.length : Int) (wrap64 (x20_2 + 1))) else (if x6_2.length < 8796093022208 then (impl_Apply.l0 kj19 l0 (x6_2 ++ [((rd_T31 l1 x20_2).f1)]) (wrap64 (x7_2 + 1)) l1 (l1.length : Int) (wrap64 (x20_2 + 1))) else (none))) = some (r1, r2) := by rw [if_neg (show ¬ (false = true) by decide)] at H; exact H
             clear H
             have H := H1
             clear H1
             by_cases c28 : ((rd_T31 l1 x20_2).f0) = 2
             ·rw [if_pos c28] at H
              have c28b0 : (((rd_T31 l1 x20_2).f0) == 2) = true := beq_iff_eq.mpr c28
              have c28b1 : (((rd_T31 l1 x20_2).f0) != 2) = false := bne_eq_false_iff_eq.mpr c28
              clear c28
              have H' := Aside0.mk H
              clear H
              have hcz29_0 : wc.cell? ⟨gb389, 0, none⟩ = some (.int .i64 ((rd_T31 l1 x20_2).f0)) := (blk_cell BK389.out 0).trans rfl
              have hcz29_1 : wc.cell? ⟨gb389, 1, none⟩ = some (.string ((rd_T31 l1 x20_2).f1)) := (blk_cell BK389.out 1).trans rfl
              have hfz29_0 := blk_frozen BK389.out 0
              have hfz29_1 := blk_frozen BK389.out 1
              go_wp2
              repeat (go_quiet (fail); try go_wp2)
              go_roundg kj19
              case measure => have := HJ2.out; have := HK2.out; have := HJ19.out; omega
              case rel => exact ⟨(x6_2), (wrap64 (x7_2 + 1)), (wrap64 (x20_2 + 1)), q7_, q7_, H', ⟨by have := HJ2.out; have := HK2.out; have := HJ19.out; omega⟩, ⟨by (with_reducible repeat (first | apply Kd.R_alloc | apply Kd.R_drewN | apply Kd.R_drew)); exact HO_6.out⟩, ⟨by repeat (first | (with_reducible first | exact HB.out | apply below_alloc | apply pw_below_drewN | apply below_drew1 | refine below_set ?_ GE389.out) | exact HB.out)⟩⟩
             ·rw [if_neg c28] at H
              have c28b0 : (((rd_T31 l1 x20_2).f0) == 2) = false := beq_eq_false_iff_ne.mpr c28
              have c28b1 : (((rd_T31 l1 x20_2).f0) != 2) = true := bne_iff_ne.mpr c28
              by_cases c30 : x6_2.length < 8796093022208
              case neg =>
               rw [if_neg c30] at H
               exact absurd H (by simp)
              rw [if_pos c30] at H
              have LMc30 := Aside0.mk c30
              clear c30
              obtain ⟨y394, hy394⟩ : ∃ y_ : List ByteArray, y_ = (x6_2 ++ [((rd_T31 l1 x20_2).f1)]) := ⟨_, rfl⟩
              replace H : (impl_Apply.l0 kj19 l0 y394 (wrap64 (x7_2 + 1)) l1 (l1.length : Int) (wrap64 (x20_2 + 1))) = some (r1, r2) := by first | (rw [hy394]; with_reducible exact H) | (have H2_ := (Option.bind_some _ _).symm.trans H; rw [hy394]; with_reducible exact H2_) | (have H2_ := (Option.bind_some _ _).symm.trans H; with_reducible exact H2_) | with_reducible exact H | (rw [hy394]; exact H) | exact H
              have Ny394 := Aside0.mk hy394
              clear hy394
              have H' := Aside0.mk H
              clear H
              have hcz31_0 : wc.cell? ⟨gb389, 0, none⟩ = some (.int .i64 ((rd_T31 l1 x20_2).f0)) := (blk_cell BK389.out 0).trans rfl
              have hcz31_1 : wc.cell? ⟨gb389, 1, none⟩ = some (.string ((rd_T31 l1 x20_2).f1)) := (blk_cell BK389.out 1).trans rfl
              have hfz31_0 := blk_frozen BK389.out 0
              have hfz31_1 := blk_frozen BK389.out 1
              go_wp2_with (first | ((with_reducible refine gate_builtin (b := .append) (xs := #[.tmp 45, .tmp 48]) rfl ?_); at_builtin; refine Kd.R_append Kd.string (w0 := w) w.heap.size rfl (.tmp 45) (.tmp 48) 24 9 (.string ⟨#[]⟩) 16 rfl Try.underlying24 info9 rfl (by decide) (by omega) u6 x6_2 ((rd_T31 l1 x20_2).f1) [.string ((rd_T31 l1 x20_2).f1)] (fun _ => True) (fun _ => False) rfl rfl ?aP (fun _ hk => hk.elim) ?aF ?aO ?aB ?aS ?aL ?_; (case aP => exact rfl); (case aB => exact q35_); (case aF => exact (fun _ _ => trivial)); (case aO => exact q24_); (case aS => exact (below_size q35_)); (case aL => have := LMc30.out; omega); intro v395 w32 ho hb hg hat; rw [← Ny394.out] at ho; have n0_ := Aside0.mk (blk_grown (g := gb389) (o := .cells #[.int .i64 ((rd_T31 l1 x20_2).f0), .string ((rd_T31 l1 x20_2).f1)] 31 (0, 0)) (by (with_reducible repeat (first | refine blk_drewN ?_ _ | refine blk_drew ?_ | refine blk_alloc ?_ _)); exact BK389.out) hg (Kd.R_ne HO_6.out BK389.out (by decide))); have n1_ := Aside0.mk (hb); have n2_ := Aside0.mk (ho); clear BK389; clear HB; clear HO_6; have BK389 := n0_; have HB := n1_; have HO396 := n2_; clear n0_ n1_ n2_; clear ho hb hg hat))
              go_roundg kj19
              case measure => have := HJ2.out; have := HK2.out; have := HJ19.out; omega
              case rel => exact ⟨(y394), (wrap64 (x7_2 + 1)), (wrap64 (x20_2 + 1)), q7_, q7_, H', ⟨by have := HJ2.out; have := HK2.out; have := HJ19.out; omega⟩, ⟨by (with_reducible repeat (first | apply Kd.R_alloc | apply Kd.R_drewN | apply Kd.R_drew)); exact HO396.out⟩, ⟨by repeat (first | (with_reducible first | exact HB.out | apply below_alloc | apply pw_below_drewN | apply below_drew1 | refine below_set ?_ GE389.out) | exact HB.out)⟩⟩
        ·rw [if_neg c9] at H
         have c9b0 : decide (x20_2 < (l1.length : Int)) = false := decide_eq_false c9
         clear c9
         by_cases c33 : x7_2 < (l0.length : Int)
         ·rw [if_pos c33] at H
          have c33b0 : decide (x7_2 < (l0.length : Int)) = true := decide_eq_true c33
          clear c33
          simp only [Option.some.injEq, Prod.mk.injEq] at H
          obtain ⟨rfl, rfl⟩ := H
          go_wp2
          repeat (go_quiet (fail); try go_wp2)
          go_ret2
          exact ⟨_, by first | rfl | (simp [errW_none, errW_some] <;> rfl) | (simp [*, errW_none, errW_some] <;> rfl), by first | exact Kd.R_nil _ _ _ _ _ | exact Kd.N_nil _ _ _ _ _ | exact Kd.V_nil _ _ _ _ _ | exact Kd.Q_nil _ _ _ _ _ | exact Kd.S_nil _ _ _ _ _, by repeat (first | (with_reducible first | exact HB.out | apply below_alloc | apply pw_below_drewN | apply below_drew1) | exact HB.out)⟩
         ·rw [if_neg c33] at H
          have c33b0 : decide (x7_2 < (l0.length : Int)) = false := decide_eq_false c33
          clear c33
          simp only [Option.some.injEq, Prod.mk.injEq] at H
          obtain ⟨rfl, rfl⟩ := H
          go_wp2
          repeat (go_quiet (fail); try go_wp2)
          go_ret2
          exact ⟨_, by first | rfl | (simp [errW_none, errW_some] <;> rfl) | (simp [*, errW_none, errW_some] <;> rfl), by (with_reducible repeat (first | apply Kd.R_alloc | apply Kd.R_drewN | apply Kd.R_drew)); exact HO_6.out, by repeat (first | (with_reducible first | exact HB.out | apply below_alloc | apply pw_below_drewN | apply below_drew1) | exact HB.out)⟩

end Go.Proofs.Ytjdjcbjeklliaaa.PFnLeast
-- (flat)
-- (thin)
