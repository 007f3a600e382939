-- Made by a program (the kit's print with additions of this session: wip/tools/patch_print.py, ext.py).
import Derived.Test.YtmodgiingohphaaRows
import Derived.Test.YtmodgiingohphaaPFnExactWeaveTextx17
import Derived.Test.YtmodgiingohphaaPureFnExactWeaveText
import Derived.Test.YtmodgiingohphaaOpen
import Derived.WalkKit
import Derived.ProofKit
import Derived.OpenShut
import Derived.ShutString
import Derived.ChangeOld
import Derived.Below
import Derived.SizedLaws
namespace Go.Proofs.Ytmodgiingohphaa.fnExactWeaveText
open Go.ChangeShapes Go.WideShapes Go.ChangeAt Go.RowKit Go.Proofs.YtmodgiingohphaaW.PrintWords Go.Proofs.YtmodgiingohphaaO Go.Proofs.Ytmodgiingohphaa.PFnExactWeaveText
open Go.ChangeMaps (open_string shut_string)
set_option linter.unusedVariables false
theorem own : ownKnob Try.prog.godebug = none := by kernel_rfl
theorem laidOut : laidOutB Try.prog = true := by kernel_rfl
set_option maxRecDepth 100000 in
theorem lifted (os : Os) (started : os.Started) (H : Type) (enc : TypeId × Value → H) :
    ReturnsInHanded {} Try.checked os 5 .any (Rows.fnExactWeaveTextSpec.pre6 enc Try.prog Try.f5 Rows.fnExactWeaveTextRow.domain false) (Rows.fnExactWeaveTextSpec.post enc Try.prog Try.f5 false true false false) := by
  refine returnsInHanded_of_change_sized (C := Try.checked) own started (by kernel_rfl) Try.func5
    (ChangeSpec.witness6 (enc := enc) (C := Try.checked) false ⟨#[], #[.agg #[.slice none 0 0, .slice none 0 0]], []⟩ 8 (by kernel_rfl) (by kernel_rfl) (by kernel_rfl) (by kernel_rfl)) ?_
  intro W base args ds gs before hval0 hW hcnd hsz0 _
  have hsz : (DataW.weightsEach Try.prog (Try.f5.params.toList ++ Rows.fnExactWeaveTextSpec.plain.varTypes Try.prog) (ds ++ gs)).all (· ≤ reachBytes) = true := hsz0
  have hval : ∀ (j : Nat) t v, Try.f5.params[j]? = some t → args[j]? = some v → Value.okWide Try.prog W .any base t v := hval0
  have hW' := hW
  obtain ⟨p, q, hA0, hV, rfl, hfz, hnd⟩ := hW
  have hA : DataW.TrodAll enc Try.prog W 0 (fun _ => true) true Try.f5.params.toList args.toList ds p := hA0
  rw [Try.params5] at hA hval hsz
  obtain ⟨v0, vs0, d0, ds0, p0, q0, hargs, rfl, rfl, h0, r0⟩ := trodAll_cons hA
  obtain ⟨rfl, rfl, rfl⟩ := trodAll_nil r0
  obtain rfl : args = #[v0] := by cases args; simp_all
  obtain ⟨rfl, rfl⟩ := trodVars_none hV
  have k0 := h0
  have lt0 : ∀ x ∈ p0, x.block < W.heap.size := by obtain ⟨m, hm⟩ := k0; exact DataW.trod_lt m _ _ _ hm
  obtain ⟨cs0, rfl, hcs0⟩ := okWide_struct Try.underlying25 (hval 0 25 v0 rfl rfl)
  obtain ⟨z0, kz0, g0⟩ := open_arg (d := k25) (show Opens Try.prog k25 25 _ from opens_iso (f := fun x : S25 => (x.f0, x.f1)) (fun p => ⟨p.1, p.2⟩) (fun _ => rfl) (opens_struct Try.underlying25 (by kernel_rfl) (opensF_cons rfl (opens_slice (B := 24) Try.underlying22 (by kernel_rfl) (by kernel_rfl) (opens_slice (B := 8) Try.underlying45 (by kernel_rfl) (by kernel_rfl) (opens_int Try.underlying3 (by kernel_rfl)))) (opensF_one rfl (opens_slice (B := 56) Try.underlying23 (by kernel_rfl) (by kernel_rfl) (show Opens Try.prog k120 120 _ from opens_iso (f := fun x : S120 => (x.f0, x.f1, x.f2, x.f3)) (fun p => ⟨p.1, p.2.1, p.2.2.1, p.2.2.2⟩) (fun _ => rfl) (opens_struct Try.underlying120 (by kernel_rfl) (opensF_cons rfl (opens_string Try.underlying9 (by kernel_rfl)) (opensF_cons rfl (opens_int Try.underlying3 (by kernel_rfl)) (opensF_cons rfl (opens_int Try.underlying3 (by kernel_rfl)) (opensF_one rfl (opens_slice (B := 8) Try.underlying45 (by kernel_rfl) (by kernel_rfl) (opens_int Try.underlying3 (by kernel_rfl)))))))))))))) hsz (j := 0) (t := 25) rfl rfl h0
  obtain ⟨A0_0, c0_0, A0_1, c0_1, he0, hc0_0, hr0_0, hc0_1, hr0_1⟩ := k25_open kz0
  obtain rfl : cs0 = #[.slice A0_0 z0.f0.length c0_0, .slice A0_1 z0.f1.length c0_1] := by apply Array.toList_inj.1; simpa [Value.cells] using he0
  clear hA0 hval0 hsz0 hsz
  obtain ⟨k, hP⟩ := Pure.FnExactWeaveText z0.f0 z0.f1 g0.1 g0.2
  refine (PFnExactWeaveText.laws_FnExactWeaveText.calls k _ _ z0.f0 _ _ z0.f1 true W hr0_0 hc0_0 hr0_1 hc0_1 hP).mono fun e W' ⟨he, hd⟩ => ?_
  have bel : Below W.heap.size W W' := hd
  subst he
  exact ⟨_, rfl, _, _, _, [], _, [], hW', trodAll_mk1 (shut_bool Try.underlying4 _), (trodAll_cons_mk (Below.trod laidOut (by kernel_rfl) (of_decide_eq_true (by kernel_rfl)) k0 bel lt0) trodAll_mk0), rfl, bel.frame _, fun h => by cases h⟩
theorem over : Rows.fnExactWeaveTextRow.holds Try.pinned (OpenSpec.ofChange Rows.fnExactWeaveTextSpec) :=
  OpenClaim.holds_of_wide 5 Try.f5 rfl rfl rfl rfl rfl rfl rfl ⟨rfl, rfl, rfl, rfl, rfl⟩ rfl rfl rfl rfl rfl (by kernel_rfl) Try.func5 (by kernel_rfl)
    (of_decide_eq_true (by kernel_rfl)) (by unfold Func.isWrapper; first | (rw [if_pos (by decide +kernel)]; kernel_rfl) | (rw [if_neg (by decide +kernel)]; exact ⟨rfl, rfl⟩))
    (fun os started H enc _ => lifted os started H enc)
theorem proved : Rows.FnExactWeaveTextSaid := over
#print axioms proved
end Go.Proofs.Ytmodgiingohphaa.fnExactWeaveText
namespace Go.Proofs.Ytmodgiingohphaa
/-- The row, under a short name, for the claim. -/
theorem fnExactWeaveText_holds : Rows.FnExactWeaveTextSaid := fnExactWeaveText.proved
end Go.Proofs.Ytmodgiingohphaa
