-- Made by a program (the kit's print with additions of this session: wip/tools/patch_print.py, ext.py).
-- (turned)
import Derived.Test.YtmodgiingohphaaPFnTopx0
namespace Go.Proofs.Ytmodgiingohphaa.PFnTop
open Go.RowKit Go.Proofs.YtmodgiingohphaaW.PrintWords Go.Proofs.YtmodgiingohphaaW.PrintLast Go.Proofs.YtmodgiingohphaaW.PrintMore
attribute [local go_sem] max2_int min2_int max_two min_two max_three min_three max_four min_four   -- for this text's walks alone
set_option linter.unusedVariables false
set_option linter.unusedSimpArgs false

/-! ### spec_l04Table: function 86 -/
mutual
def spec_l04Table.l0 : Nat → List ByteArray → List ByteArray → List (List Int) → Int → Option ((List (List Int)))
  | 0, _, _, _, _ => none
  | k + 1, x0, x1, x5, x6 => if x6 ≥ 0 then (if 0 ≤ (wrap64 ((x1.length : Int) + 1)) then (if (wrap64 ((x1.length : Int) + 1) : Int).toNat ≤ 35184372088832 then (if 0 ≤ x6 then (if x6 < (x5.length : Int) then (spec_l04Table.l1 k x0 x1 (x5.set (x6 : Int).toNat (List.replicate (wrap64 ((x1.length : Int) + 1) : Int).toNat 0)) x6 (wrap64 ((x1.length : Int) - 1))) else (none)) else (none)) else (none)) else (none)) else (some x5)
def spec_l04Table.l1 : Nat → List ByteArray → List ByteArray → List (List Int) → Int → Int → Option ((List (List Int)))
  | 0, _, _, _, _, _ => none
  | k + 1, x0, x1, x5, x6, x7 => if x7 ≥ 0 then (spec_l04Table.j2 k x0 x1 x5 x6 x7 (decide (x6 < (x0.length : Int)))) else (spec_l04Table.j2 k x0 x1 x5 x6 x7 false)
def spec_l04Table.j2 : Nat → List ByteArray → List ByteArray → List (List Int) → Int → Int → Bool → Option ((List (List Int)))
  | 0, _, _, _, _, _, _ => none
  | k + 1, x0, x1, x5, x6, x7, x36 => if x36 = true then (if 0 ≤ (wrap64 (x6 + 1)) then (if (wrap64 (x6 + 1)) < (x5.length : Int) then (if 0 ≤ x7 then (if x7 < ((rd_L2 x5 (wrap64 (x6 + 1))).length : Int) then (if 0 ≤ x6 then (if x6 < (x5.length : Int) then (if 0 ≤ (wrap64 (x7 + 1)) then (if (wrap64 (x7 + 1)) < ((rd_L2 x5 x6).length : Int) then (if (rd (rd_L2 x5 x6) (wrap64 (x7 + 1))) > (rd (rd_L2 x5 (wrap64 (x6 + 1))) x7) then (if x6 < (x0.length : Int) then (if x7 < (x1.length : Int) then (if (rdOf ByteArray.empty x0 x6).toList = (rdOf ByteArray.empty x1 x7).toList then (if (wrap64 (x7 + 1)) < ((rd_L2 x5 (wrap64 (x6 + 1))).length : Int) then (if x7 < ((rd_L2 x5 x6).length : Int) then (spec_l04Table.l1 k x0 x1 (x5.set (x6 : Int).toNat ((rd_L2 x5 x6).set (x7 : Int).toNat (wrap64 ((rd (rd_L2 x5 (wrap64 (x6 + 1))) (wrap64 (x7 + 1))) + 1)))) x6 (wrap64 (x7 - 1))) else (none)) else (none)) else (if x7 < ((rd_L2 x5 x6).length : Int) then (spec_l04Table.l1 k x0 x1 (x5.set (x6 : Int).toNat ((rd_L2 x5 x6).set (x7 : Int).toNat (rd (rd_L2 x5 x6) (wrap64 (x7 + 1))))) x6 (wrap64 (x7 - 1))) else (none))) else (none)) else (none)) else (if x6 < (x0.length : Int) then (if x7 < (x1.length : Int) then (if (rdOf ByteArray.empty x0 x6).toList = (rdOf ByteArray.empty x1 x7).toList then (if (wrap64 (x7 + 1)) < ((rd_L2 x5 (wrap64 (x6 + 1))).length : Int) then (if x7 < ((rd_L2 x5 x6).length : Int) then (spec_l04Table.l1 k x0 x1 (x5.set (x6 : Int).toNat ((rd_L2 x5 x6).set (x7 : Int).toNat (wrap64 ((rd (rd_L2 x5 (wrap64 (x6 + 1))) (wrap64 (x7 + 1))) + 1)))) x6 (wrap64 (x7 - 1))) else (none)) else (none)) else (if x7 < ((rd_L2 x5 x6).length : Int) then (spec_l04Table.l1 k x0 x1 (x5.set (x6 : Int).toNat ((rd_L2 x5 x6).set (x7 : Int).toNat (rd (rd_L2 x5 (wrap64 (x6 + 1))) x7))) x6 (wrap64 (x7 - 1))) else (none))) else (none)) else (none))) else (none)) else (none)) else (none)) else (none)) else (none)) else (none)) else (none)) else (none)) else (spec_l04Table.l0 k x0 x1 x5 (wrap64 (x6 - 1)))
end
def spec_l04Table.f (k : Nat) (l0 : List ByteArray) (l1 : List ByteArray) : Option ((List (List Int))) := if 0 ≤ (wrap64 ((l0.length : Int) + 1)) then (if (wrap64 ((l0.length : Int) + 1) : Int).toNat ≤ 11728124029610 then (spec_l04Table.l0 k l0 l1 (List.replicate (wrap64 ((l0.length : Int) + 1) : Int).toNat []) (l0.length : Int)) else (none)) else (none)
theorem spec_l04Table.mono_l : ∀ k, (∀ y0 y1 y2 y3, LeO (spec_l04Table.l0 k y0 y1 y2 y3) (spec_l04Table.l0 (k + 1) y0 y1 y2 y3)) ∧ (∀ y0 y1 y2 y3 y4, LeO (spec_l04Table.l1 k y0 y1 y2 y3 y4) (spec_l04Table.l1 (k + 1) y0 y1 y2 y3 y4)) ∧ (∀ y0 y1 y2 y3 y4 y5, LeO (spec_l04Table.j2 k y0 y1 y2 y3 y4 y5) (spec_l04Table.j2 (k + 1) y0 y1 y2 y3 y4 y5))
  | 0 => by refine ⟨?_, ?_, ?_⟩ <;> intros <;> exact LeO.none _
  | k + 1 => by
    obtain ⟨ih0, ih1, ih2⟩ := spec_l04Table.mono_l k; refine ⟨?_, ?_, ?_⟩ <;> intros <;> (first | unfold spec_l04Table.l0 | unfold spec_l04Table.l1 | unfold spec_l04Table.j2) <;> repeat' with_reducible first | exact LeO.refl _ | exact LeO.none _ | refine LeO.ite ?_ ?_ | refine LeO.bind ?_ (fun _ => ?_) | apply ih0 | apply ih1 | apply ih2
theorem spec_l04Table.mono : ∀ a0 a1 k, LeO (spec_l04Table.f k a0 a1) (spec_l04Table.f (k + 1) a0 a1) := by
  intro a0 a1 k; obtain ⟨ih0, ih1, ih2⟩ := spec_l04Table.mono_l k; unfold spec_l04Table.f
  repeat' with_reducible first | exact LeO.refl _ | exact LeO.none _ | refine LeO.ite ?_ ?_ | refine LeO.bind ?_ (fun _ => ?_) | apply ih0 | apply ih1 | apply ih2
theorem tabAt {w0 w : World} {g n c : Nat} {t : List (List Int)} (h : Kd.S (Kd.slice 3 (Kd.int .i64)) 45 w w0.heap.size (fun _ => True) (.slice (some ⟨g, 0, none⟩) n c) t) (hb : Below w0.heap.size w0 w) (i : Int) (h0 : 0 ≤ i) (h1 : i < (n : Int)) :
  ∃ A ca, w.cell? ⟨g, i.toNat, none⟩ = some (.slice A (rd_L2 t i).length ca) ∧ ∀ j : Int, 0 ≤ j → j < ((rd_L2 t i).length : Int) → ∃ gr, A = some ⟨gr, 0, none⟩ ∧ w.cell? ⟨gr, j.toNat, none⟩ = some (.int .i64 (rd (rd_L2 t i) j)) ∧ w.frozen? ⟨gr, j.toNat, none⟩ = false ∧
   ∀ v : Int, Kd.S (Kd.slice 3 (Kd.int .i64)) 45 (w.setCell ⟨gr, j.toNat, none⟩ (.int .i64 v)) w0.heap.size (fun _ => True) (.slice (some ⟨g, 0, none⟩) n c) (t.set i.toNat ((rd_L2 t i).set j.toNat v)) ∧ Below w0.heap.size w0 (w.setCell ⟨gr, j.toNat, none⟩ (.int .i64 v)) := by
 obtain ⟨oki, ce, hcl, hM, hcc, hok, hbk⟩ := Kd.S_borrow h [] i h0 h1
 obtain ⟨v, rfl, hr⟩ := hM
 replace hr := (show Kd.R (Kd.int .i64) 3 _ _ _ _ (rd_L2 t i) from hr)
 have hx := hcc 0 _ rfl
 rw [Nat.add_zero, show ((Kd.slice 3 (Kd.int .i64))).sz = 1 from rfl, Nat.mul_one] at hx
 obtain ⟨A, ca, rfl⟩ := Kd.R_slice hr
 rw [add_at, Nat.zero_add] at hx
 refine ⟨A, ca, hx, fun j j0 j1 => ?_⟩
 obtain ⟨gr, cr, e, hb1, _⟩ := Kd.R_form hr (by omega)
 cases e
 obtain ⟨c1, f1⟩ := Kd.R_celln (0 : Int) hr j j0 j1
 exact ⟨gr, rfl, c1, f1, fun v => ⟨hbk (Kd.R_putg hr j v).2 (fun k e => by cases e; exact hr.1 _ rfl) (Kd.M_row (Kd.R_putg hr j v).1), below_set hb hb1⟩⟩
theorem tabPut {w0 w : World} {g n c : Nat} {v : Value} {row : List Int} {t : List (List Int)} (h : Kd.S (Kd.slice 3 (Kd.int .i64)) 45 w w0.heap.size (fun k => some k ≠ v.ownBlock) (.slice (some ⟨g, 0, none⟩) n c) t) (hr : Kd.R (Kd.int .i64) 3 w w0.heap.size (fun _ => True) v row) (hb : Below w0.heap.size w0 w) (i : Int) (h0 : 0 ≤ i) (h1 : i < (n : Int)) :
  (∃ u, w.cell? ⟨g, i.toNat, none⟩ = some u) ∧ w.frozen? ⟨g, i.toNat, none⟩ = false ∧ Kd.S (Kd.slice 3 (Kd.int .i64)) 45 (w.setCell ⟨g, i.toNat, none⟩ v) w0.heap.size (fun _ => True) (.slice (some ⟨g, 0, none⟩) n c) (t.set i.toNat row) ∧ Below w0.heap.size w0 (w.setCell ⟨g, i.toNat, none⟩ v) := by
 have hbg := Kd.S_base h g rfl
 have h' : Kd.S (Kd.slice 3 (Kd.int .i64)) 45 w w0.heap.size (fun k_ => ((fun _ => True)) k_ ∧ ¬ ((fun k_ => some k_ = (v : Value).ownBlock)) k_) (.slice (some ⟨g, 0, none⟩) n c) t := Kd.S_mono h (fun k hk => ⟨trivial, hk⟩)
 obtain ⟨oki, ce, hcl, hM, hcc, hfr, hoki, hH⟩ := Kd.S_elem h' [] i h0 h1
 obtain ⟨ve, rfl, ge⟩ := hM
 have hR : Kd.R (Kd.int .i64) 3 w w0.heap.size (fun k => True ∧ k ≠ g) v row := Kd.R_mono (Kd.R_apart' hr (Kd.S_typed h) (by decide)) (fun k hk => ⟨trivial, fun e => hk.2 (by rw [e]; rfl)⟩)
 have hs := Kd.S_seg hH h0 h1 (seg := [v]) (j := 0) (show 1 ≤ 1 from by decide) (x' := row) (Kd.M_row (Kd.R_mono (Kd.R_tight rfl hR) (fun _ h_ => Or.inr h_))) (fun _ hk => hk) (fun k hk => hR.1 k hk.symm)
 have hx := hcc 0 _ rfl
 have hf := hfr 0
 simp only [show ((Kd.slice 3 (Kd.int .i64))).sz = 1 from rfl, Nat.mul_one, Nat.add_zero] at hx hf hs
 exact ⟨⟨_, hx⟩, hf, hs.1, below_set hb hbg⟩
set_option maxHeartbeats 8000000 in
set_option maxRecDepth 100000 in
theorem spec_l04Table.calls (k : Nat) (A0 : Option Addr) (c0 : Nat) (l0 : List ByteArray) (A1 : Option Addr) (c1 : Nat) (l1 : List ByteArray) (r : List (List Int)) (w : World) (hr0 : Kd.C Kd.string w A0 l0.length l0) (hc0 : l0.length ≤ c0) (hr1 : Kd.C Kd.string w A1 l1.length l1) (hc1 : l1.length ≤ c1) (h : spec_l04Table.f k l0 l1 = some r) :
  Calls Try.prog 86 #[.slice A0 l0.length c0, .slice A1 l1.length c1] w fun e w' => ∃ v0_ : Value, e = .returned (v0_) ∧ Kd.S (Kd.slice 3 (Kd.int .i64)) 45 w' w.heap.size (fun _ => True) v0_ r ∧ Below w.heap.size w w' := by
 have HR0 := Aside0.mk hr0
 have HC0 := Aside0.mk hc0
 have HR1 := Aside0.mk hr1
 have HC1 := Aside0.mk hc1
 clear hr0 hc0 hr1 hc1
 have HB := Aside0.mk (Below.refl w.heap.size w)
 unfold spec_l04Table.f at h
 obtain ⟨ji3, hji3⟩ : ∃ j_ : Int, (wrap64 ((l0.length : Int) + 1)) = j_ := ⟨_, rfl⟩
 rw [hji3] at h
 have hji3w : (IntKind.i64.wrap ((l0.length : Int) + 1)) = ji3 := (i64_w _).trans hji3
 obtain ⟨c4b0, c4b1, h⟩ := ife_ h
 obtain ⟨c5b0, c5b1, h⟩ := ife_ h
 have H' := Aside0.mk h
 clear h
 go_enter Try.func86, Try.ntmps86
 go_wp2_with (first | ((with_reducible refine gate_dst (N := 12) rfl ?_); (try (refine gate_guard (by rfl) ?_; dsimp only)); refine Kd.S_make (Kd.slice 3 (Kd.int .i64)) _ 45 rfl (N := 12) rfl 22 _ _ rfl ji3 rfl rfl Try.underlying22 (.slice none 0 0) 24 info45 rfl (by decide) (by omega) [] (ok := fun _ => True) (okp := fun _ => True) ⟨_, rfl, Kd.R_nil _ _ _ _ _⟩ (fun _ hk => hk) trivial (of_decide_eq_true q0_) (Nat.le_trans (Nat.mul_le_mul_right _ (of_decide_eq_true q0_ : ji3.toNat ≤ 11728124029610)) (by omega)) (Below.refl _ _) (Nat.le_refl _) ?_; intro v257 w6 ho7 hb hg_ hnew_; have HO := Aside0.mk (Kd.S_lower ho7 (below_size HB.out)); have HB1 := Aside0.mk (below_step HB.out hb); clear HB hb ho7 hg_ hnew_))
 go_loopg [6] k (fun kq v6 w' => ∃ (t : List (List Int)) (i : Int), v6 = .int .i64 i ∧ Aside0 (spec_l04Table.l0 kq l0 l1 t i = some r) ∧ Aside0 (kq ≤ k) ∧ Aside0 (Kd.S (Kd.slice 3 (Kd.int .i64)) 45 w' w.heap.size (fun _ => True) v257 t) ∧ Aside0 (Below w.heap.size w w'))
 case atStart => exact ⟨_, (l0.length : Int), rfl, H', ⟨Nat.le_refl _⟩, HO, HB1⟩
 case round =>
  clear H' HO HB1
  obtain ⟨t, i, rfl, HA, HK1, HO, HB⟩ := hrel
  cases gk with
  | zero => exact absurd HA.out (by simp [spec_l04Table.l0])
  | succ k1 =>
   have H := HA.out
   clear HA
   simp only [spec_l04Table.l0] at H
   by_cases c8 : i ≥ 0
   ·rw [if_pos c8] at H
    have c8b0 := decide_eq_true c8
    obtain ⟨ji9, hji9⟩ : ∃ j_ : Int, (wrap64 ((l1.length : Int) + 1)) = j_ := ⟨_, rfl⟩
    rw [hji9] at H
    have hji9w : (IntKind.i64.wrap ((l1.length : Int) + 1)) = ji9 := (i64_w _).trans hji9
    obtain ⟨c10b0, c10b1, H⟩ := ife_ H
    obtain ⟨c11b0, c11b1, H⟩ := ife_ H
    obtain ⟨c12, H⟩ := ifs_ H
    obtain ⟨c13, H⟩ := ifs_ H
    have H' := Aside0.mk H
    have q12 := eq_true c12
    have q13 := eq_true c13
    clear H c8
    obtain ⟨go14, co14, eo14, _⟩ := Kd.S_form HO.out (by omega)
    subst eo14
    go_wp2_with (first | ((with_reducible refine gate_dst (N := 24) rfl ?_); (try (refine gate_guard (by rfl) ?_; dsimp only)); refine Kd.R_make (Kd.int .i64) _ 3 rfl (N := 24) rfl 45 _ _ rfl ji9 rfl rfl Try.underlying45 (.int .i64 0) 8 info3 rfl (by decide) (by omega) 0 (ok := fun _ => True) (okp := fun _ => True) rfl (fun _ hk => hk) trivial (of_decide_eq_true q0_) (Nat.le_trans (Nat.mul_le_mul_right _ (of_decide_eq_true q0_ : ji9.toNat ≤ 35184372088832)) (by omega)) (Below.refl _ _) (Nat.le_refl _) ?_; intro v260 w15 ho16 hb hg_ hnew_; obtain ⟨⟨u14, x14⟩, f14, hs14, hb14⟩ := tabPut (Kd.S_mono (Kd.S_elder' HO.out (Kd.R_base ho16) hb) (fun k hk => hk.2)) (Kd.R_lower ho16 (below_size HB.out)) (below_step HB.out hb) i c12 c13; have HO2 := Aside0.mk hs14; have HB2 := Aside0.mk hb14; obtain ⟨A260, c260, e260⟩ := Kd.R_slice ho16; rw [List.length_replicate] at e260; subst e260; clear hb ho16 hg_ hnew_ hs14 hb14))
    generalize w15.setCell ⟨go14, i.toNat, none⟩ _ = w16 at HO2 HB2 ⊢
    clear HO HB x14 f14
    go_loopg [7] k1 (fun kq v7 w' => ∃ (t2 : List (List Int)) (j : Int), v7 = .int .i64 j ∧ Aside0 (spec_l04Table.l1 kq l0 l1 t2 i j = some r) ∧ Aside0 (kq ≤ k1) ∧ Aside0 (Kd.S (Kd.slice 3 (Kd.int .i64)) 45 w' w.heap.size (fun _ => True) (.slice (some ⟨go14, 0, none⟩) t.length co14) t2) ∧ Aside0 (Below w.heap.size w w'))
    case atStart => exact ⟨_, _, rfl, H', ⟨Nat.le_refl _⟩, HO2, HB2⟩
    case round =>
     clear H' HO2 HB2
     obtain ⟨t2, j, rfl, HA, HK2, HO, HB⟩ := hrel
     have HL5 := Aside0.mk (Kd.S_reads' HO.out).1
     cases gk with
     | zero => exact absurd HA.out (by simp [spec_l04Table.l1])
     | succ k2 =>
      have H := HA.out
      clear HA
      simp only [spec_l04Table.l1] at H
      have HC19 := Aside0.mk H
      clear H
      go_upto_region 7 with (fail)
      go_cut [36] (fun v36 wc => ∃ (kq : Nat) (b : Bool), v36 = .bool b ∧ Aside0 (spec_l04Table.j2 kq l0 l1 t2 i j b = some r) ∧ Aside0 (kq ≤ k2) ∧ Aside0 (Kd.S (Kd.slice 3 (Kd.int .i64)) 45 wc w.heap.size (fun _ => True) (.slice (some ⟨go14, 0, none⟩) t.length co14) t2) ∧ Aside0 (Below w.heap.size w wc))
      case first =>
       have H := HC19.out
       clear HC19
       by_cases c20 : j ≥ 0
       ·rw [if_pos c20] at H
        have c20b0 := decide_eq_true c20
        have H' := Aside0.mk H
        clear H
        first | rw [c20b0] | skip
        go_wp2
        go_meet
        case rel => exact ⟨_, decide (i < (l0.length : Int)), rfl, H', ⟨Nat.le_refl _⟩, HO, HB⟩
       ·rw [if_neg c20] at H
        have c20b0 := decide_eq_false c20
        have H' := Aside0.mk H
        clear H
        first | rw [c20b0] | skip
        go_wp2
        go_meet
        case rel => exact ⟨_, false, rfl, H', ⟨Nat.le_refl _⟩, HO, HB⟩
      case rest =>
       clear HC19 HO HB
       clear HL5
       obtain ⟨kq, b, rfl, HA, HJ18, HO, HB⟩ := hcut
       have HL5 := Aside0.mk (Kd.S_reads' HO.out).1
       cases kq with
       | zero => exact absurd HA.out (by simp [spec_l04Table.j2])
       | succ kj =>
        have H := HA.out
        clear HA
        simp only [spec_l04Table.j2] at H
        cases b with
        | false =>
         rw [if_neg (by decide)] at H
         have H' := Aside0.mk H
         clear H
         go_wp2
         go_roundg kj
         case measure => have := HK1.out; have := HK2.out; have := HJ18.out; omega
         case rel => exact ⟨t2, wrap64 (i - 1), rfl, H', ⟨by have := HK1.out; have := HK2.out; have := HJ18.out; omega⟩, HO, HB⟩
        | true =>
         rw [if_pos rfl] at H
         obtain ⟨i1, hi1⟩ : ∃ j_ : Int, (wrap64 (i + 1)) = j_ := ⟨_, rfl⟩
         rw [hi1] at H
         have hi1w : (IntKind.i64.wrap (i + 1)) = i1 := (i64_w _).trans hi1
         obtain ⟨c1, H⟩ := ifs_ H
         obtain ⟨c2, H⟩ := ifs_ H
         obtain ⟨c3, H⟩ := ifs_ H
         obtain ⟨c4, H⟩ := ifs_ H
         obtain ⟨c5, H⟩ := ifs_ H
         obtain ⟨c6, H⟩ := ifs_ H
         obtain ⟨j1, hj1⟩ : ∃ j_ : Int, (wrap64 (j + 1)) = j_ := ⟨_, rfl⟩
         rw [hj1] at H
         have hj1w : (IntKind.i64.wrap (j + 1)) = j1 := (i64_w _).trans hj1
         obtain ⟨c7, H⟩ := ifs_ H
         obtain ⟨c8', H⟩ := ifs_ H
         have HH := Aside0.mk H
         clear H
         obtain ⟨A1_, ca1, x1, n1⟩ := tabAt HO.out HB.out i1 c1 (by have := HL5.out; omega)
         obtain ⟨A0_, ca0, x0, n0⟩ := tabAt HO.out HB.out i c5 (by have := HL5.out; omega)
         obtain ⟨g1, e1, y10, _, _⟩ := n1 j c3 c4
         obtain ⟨g0, e0, y01, _, _⟩ := n0 j1 c7 c8'
         subst e1
         subst e0
         have q1 := eq_true c1
         have q2 := eq_true (show i1 < (t.length : Int) by have := HL5.out; omega)
         have q3 := eq_true c3
         have q4 := eq_true c4
         have q5 := eq_true c5
         have q6 := eq_true (show i < (t.length : Int) by have := HL5.out; omega)
         have q7 := eq_true c7
         have q8 := eq_true c8'
         by_cases d1 : rd (rd_L2 t2 i) j1 > rd (rd_L2 t2 i1) j
         ·have H := HH.out
          clear HH
          rw [if_pos d1] at H
          have d1b : decide (rd (rd_L2 t2 i1) j < rd (rd_L2 t2 i) j1) = true := decide_eq_true d1
          obtain ⟨c9, H⟩ := ifs_ H
          obtain ⟨c10, H⟩ := ifs_ H
          obtain ⟨al, el, sl⟩ := Kd.at_string (Kd.C_below HR0.out HB.out) i c5 c9
          cases el
          obtain ⟨am, em, sm⟩ := Kd.at_string (Kd.C_below HR1.out HB.out) j c3 c10
          cases em
          have q9 := eq_true c9
          have q10 := eq_true c10
          have HH := Aside0.mk H
          clear H d1
          go_upto_region 12 with (fail)
          go_quiet (fail)
          have HO9 := Aside0.mk (Kd.S_drewN HO.out nq)
          have HB9 := Aside0.mk (pw_below_drewN HB.out nq)
          clear HO HB x1 x0 y10 y01 sl sm
          generalize wc.drewN nq = w9 at HO9 HB9 ⊢
          obtain ⟨A1_, ca1', x1, n1⟩ := tabAt HO9.out HB9.out i1 c1 (by have := HL5.out; omega)
          obtain ⟨A0_, ca0', x0, n0⟩ := tabAt HO9.out HB9.out i c5 (by have := HL5.out; omega)
          have H := HH.out
          clear HH
          by_cases d2 : (rdOf ByteArray.empty l0 i).toList = (rdOf ByteArray.empty l1 j).toList
          ·rw [if_pos d2] at H
           have d2b : ((rdOf ByteArray.empty l0 i).toList == (rdOf ByteArray.empty l1 j).toList) = true := beq_iff_eq.mpr d2
           obtain ⟨c11, H⟩ := ifs_ H
           obtain ⟨g1', e1', y11, _, _⟩ := n1 j1 c7 c11
           subst e1'
           have q11 := eq_true c11
           obtain ⟨c12', H⟩ := ifs_ H
           obtain ⟨g0', e0', y00, f00, put⟩ := n0 j c3 c12'
           subst e0'
           have q12' := eq_true c12'
           have H' := Aside0.mk H
           obtain ⟨p1, p2⟩ := put (wrap64 (rd (rd_L2 t2 i1) j1 + 1))
           have P1 := Aside0.mk p1
           have P2 := Aside0.mk p2
           clear H n1 n0 put p1 p2 d2 HO9 HB9
           rw [d2b]
           go_wp2
           go_roundg kj
           case measure => have := HK1.out; have := HK2.out; have := HJ18.out; omega
           case rel => exact ⟨_, wrap64 (j - 1), rfl, H', ⟨by have := HK1.out; have := HK2.out; have := HJ18.out; omega⟩, P1, P2⟩
          ·rw [if_neg d2] at H
           have d2b : ((rdOf ByteArray.empty l0 i).toList == (rdOf ByteArray.empty l1 j).toList) = false := beq_eq_false_iff_ne.mpr d2
           obtain ⟨c12', H⟩ := ifs_ H
           obtain ⟨g0', e0', y00, f00, put⟩ := n0 j c3 c12'
           subst e0'
           have q12' := eq_true c12'
           have H' := Aside0.mk H
           obtain ⟨p1, p2⟩ := put (rd (rd_L2 t2 i) j1)
           have P1 := Aside0.mk p1
           have P2 := Aside0.mk p2
           clear H n1 n0 put p1 p2 d2 HO9 HB9
           rw [d2b]
           go_wp2
           go_roundg kj
           case measure => have := HK1.out; have := HK2.out; have := HJ18.out; omega
           case rel => exact ⟨_, wrap64 (j - 1), rfl, H', ⟨by have := HK1.out; have := HK2.out; have := HJ18.out; omega⟩, P1, P2⟩
         ·have H := HH.out
          clear HH
          rw [if_neg d1] at H
          have d1b : decide (rd (rd_L2 t2 i1) j < rd (rd_L2 t2 i) j1) = false := decide_eq_false d1
          obtain ⟨c9, H⟩ := ifs_ H
          obtain ⟨c10, H⟩ := ifs_ H
          obtain ⟨al, el, sl⟩ := Kd.at_string (Kd.C_below HR0.out HB.out) i c5 c9
          cases el
          obtain ⟨am, em, sm⟩ := Kd.at_string (Kd.C_below HR1.out HB.out) j c3 c10
          cases em
          have q9 := eq_true c9
          have q10 := eq_true c10
          have HH := Aside0.mk H
          clear H d1
          go_upto_region 12 with (fail)
          go_quiet (fail)
          have HO9 := Aside0.mk (Kd.S_drewN HO.out nq)
          have HB9 := Aside0.mk (pw_below_drewN HB.out nq)
          clear HO HB x1 x0 y10 y01 sl sm
          generalize wc.drewN nq = w9 at HO9 HB9 ⊢
          obtain ⟨A1_, ca1', x1, n1⟩ := tabAt HO9.out HB9.out i1 c1 (by have := HL5.out; omega)
          obtain ⟨A0_, ca0', x0, n0⟩ := tabAt HO9.out HB9.out i c5 (by have := HL5.out; omega)
          have H := HH.out
          clear HH
          by_cases d2 : (rdOf ByteArray.empty l0 i).toList = (rdOf ByteArray.empty l1 j).toList
          ·rw [if_pos d2] at H
           have d2b : ((rdOf ByteArray.empty l0 i).toList == (rdOf ByteArray.empty l1 j).toList) = true := beq_iff_eq.mpr d2
           obtain ⟨c11, H⟩ := ifs_ H
           obtain ⟨g1', e1', y11, _, _⟩ := n1 j1 c7 c11
           subst e1'
           have q11 := eq_true c11
           obtain ⟨c12', H⟩ := ifs_ H
           obtain ⟨g0', e0', y00, f00, put⟩ := n0 j c3 c12'
           subst e0'
           have q12' := eq_true c12'
           have H' := Aside0.mk H
           obtain ⟨p1, p2⟩ := put (wrap64 (rd (rd_L2 t2 i1) j1 + 1))
           have P1 := Aside0.mk p1
           have P2 := Aside0.mk p2
           clear H n1 n0 put p1 p2 d2 HO9 HB9
           rw [d2b]
           go_wp2
           go_roundg kj
           case measure => have := HK1.out; have := HK2.out; have := HJ18.out; omega
           case rel => exact ⟨_, wrap64 (j - 1), rfl, H', ⟨by have := HK1.out; have := HK2.out; have := HJ18.out; omega⟩, P1, P2⟩
          ·rw [if_neg d2] at H
           have d2b : ((rdOf ByteArray.empty l0 i).toList == (rdOf ByteArray.empty l1 j).toList) = false := beq_eq_false_iff_ne.mpr d2
           obtain ⟨c12', H⟩ := ifs_ H
           obtain ⟨g0', e0', y00, f00, put⟩ := n0 j c3 c12'
           subst e0'
           have q12' := eq_true c12'
           have H' := Aside0.mk H
           obtain ⟨p1, p2⟩ := put (rd (rd_L2 t2 i1) j)
           have P1 := Aside0.mk p1
           have P2 := Aside0.mk p2
           clear H n1 n0 put p1 p2 d2 HO9 HB9
           rw [d2b]
           go_wp2
           go_roundg kj
           case measure => have := HK1.out; have := HK2.out; have := HJ18.out; omega
           case rel => exact ⟨_, wrap64 (j - 1), rfl, H', ⟨by have := HK1.out; have := HK2.out; have := HJ18.out; omega⟩, P1, P2⟩
   ·rw [if_neg c8] at H
    have c8b0 := decide_eq_false c8
    obtain rfl := Option.some.inj H
    go_wp2
    go_ret
    exact ⟨_, rfl, HO.out, HB.out⟩
end Go.Proofs.Ytmodgiingohphaa.PFnTop
