/-
  No cell of these rows narrows 'for every input' (looked for: loops, veiled, ifaces, maps, wideKeys, modest, calm, conditions, laid).
  DERIVED. THE GIVEN ROWS OF THIS SEAT. 7 by the template 'for every input the law returns true; each argument reads behind the call as it read before'; 0 by the template 'total and deterministic' (their statements: YtnimljoagcokaaaTotals.lean).
  GIVEN WITH THE SEED: the statements are not yours to turn. If you find one false, say at which input.
  Laid BY PROGRAM, IN A SANDBOX (cutbox-rows.mjs): the forced cells as the released guide's own fill.sh prints them over the translation 7e681089d3f27a53… (all of the seat's roots in one cut). By AI agents, Wed Nov 11 2026. No macro, syntax, notation, axiom, sorry.
-/
import Derived.Test.YtnimljoagcokaaaChecked
import GoSem.Claim
import GoSem.ClaimJoined
import GoSem.ClaimMapViews
import Derived.JoinedTies
import Derived.KernelRfl
namespace Go.Proofs.Ytnimljoagcokaaa
/- THE CELL 'sum', in the pinned program and in every row, IS THE sha256 OF THE DUMP (.gsa) THAT YtnimljoagcokaaaProg.lean LOADS. Nothing in Lean hashes anything: it is a label: what it is worth is what the hold of that sum in a sandbox is worth. -/
noncomputable def Try.pinned : Pinned := { name := "ytnimljoagcokaaa", sum := "7e681089d3f27a530f2cce2f64f463195777dc6aff6ca143e165c047fc316174", checked := Try.checked }
namespace Rows
def none {H : Type} : Left H := { results := [], args := [] }

/-- 'laws.FnExactBack': WHATEVER THE INPUT: true; the input reads as it did. -/
def fnExactBackSpec : ChangeSpec := { name := "fnExactBack", fn := fun _ => fun
  | [d] => { results := [.lit (.bool true)], args := [d] }
  | _ => none }
def fnExactBackRow : OpenClaim := { program := "ytnimljoagcokaaa", sum := "7e681089d3f27a530f2cce2f64f463195777dc6aff6ca143e165c047fc316174", func := "loop.example/g00073/laws.FnExactBack", spec := "fnExactBack", inPlace := ["internal/bytealg.IndexByteString", "internal/bytealg.IndexString"], named := ["internal/bytealg.MaxLen"], apart := false }
def FnExactBackSaid : Prop := fnExactBackRow.holds Try.pinned (OpenSpec.ofChange fnExactBackSpec)

/-- ITS FALSE NEIGHBOUR: 'it returns false'. Refute it at one input. -/
def fnExactBackWrong : ChangeSpec := { name := "fnExactBack", fn := fun _ => fun
  | [d] => { results := [.lit (.bool false)], args := [d] }
  | _ => none }
def FnExactBackWrongFalsely : Prop := fnExactBackRow.holds Try.pinned (OpenSpec.ofChange fnExactBackWrong)

/-- 'laws.FnAligned': WHATEVER THE INPUT: true; the input reads as it did. -/
def fnAlignedSpec : ChangeSpec := { name := "fnAligned", fn := fun _ => fun
  | [d] => { results := [.lit (.bool true)], args := [d] }
  | _ => none }
def fnAlignedRow : OpenClaim := { program := "ytnimljoagcokaaa", sum := "7e681089d3f27a530f2cce2f64f463195777dc6aff6ca143e165c047fc316174", func := "loop.example/g00073/laws.FnAligned", spec := "fnAligned", inPlace := ["internal/bytealg.IndexByteString", "internal/bytealg.IndexString"], named := ["internal/bytealg.MaxLen"], apart := false }
def FnAlignedSaid : Prop := fnAlignedRow.holds Try.pinned (OpenSpec.ofChange fnAlignedSpec)

/-- ITS FALSE NEIGHBOUR: 'it returns false'. Refute it at one input. -/
def fnAlignedWrong : ChangeSpec := { name := "fnAligned", fn := fun _ => fun
  | [d] => { results := [.lit (.bool false)], args := [d] }
  | _ => none }
def FnAlignedWrongFalsely : Prop := fnAlignedRow.holds Try.pinned (OpenSpec.ofChange fnAlignedWrong)

/-- 'laws.FnExactWalk': WHATEVER THE INPUT: true; the input reads as it did. -/
def fnExactWalkSpec : ChangeSpec := { name := "fnExactWalk", fn := fun _ => fun
  | [d1, d2] => { results := [.lit (.bool true)], args := [d1, d2] }
  | _ => none }
def fnExactWalkRow : OpenClaim := { program := "ytnimljoagcokaaa", sum := "7e681089d3f27a530f2cce2f64f463195777dc6aff6ca143e165c047fc316174", func := "loop.example/g00073/laws.FnExactWalk", spec := "fnExactWalk", apart := false }
def FnExactWalkSaid : Prop := fnExactWalkRow.holds Try.pinned (OpenSpec.ofChange fnExactWalkSpec)

/-- ITS FALSE NEIGHBOUR: 'it returns false'. Refute it at one input. -/
def fnExactWalkWrong : ChangeSpec := { name := "fnExactWalk", fn := fun _ => fun
  | [d1, d2] => { results := [.lit (.bool false)], args := [d1, d2] }
  | _ => none }
def FnExactWalkWrongFalsely : Prop := fnExactWalkRow.holds Try.pinned (OpenSpec.ofChange fnExactWalkWrong)

/-- 'laws.FnExactAlign': WHATEVER THE INPUT: true; the input reads as it did. -/
def fnExactAlignSpec : ChangeSpec := { name := "fnExactAlign", fn := fun _ => fun
  | [d1, d2] => { results := [.lit (.bool true)], args := [d1, d2] }
  | _ => none }
def fnExactAlignRow : OpenClaim := { program := "ytnimljoagcokaaa", sum := "7e681089d3f27a530f2cce2f64f463195777dc6aff6ca143e165c047fc316174", func := "loop.example/g00073/laws.FnExactAlign", spec := "fnExactAlign", inPlace := ["internal/bytealg.IndexByteString", "internal/bytealg.IndexString"], named := ["internal/bytealg.MaxLen"], apart := false }
def FnExactAlignSaid : Prop := fnExactAlignRow.holds Try.pinned (OpenSpec.ofChange fnExactAlignSpec)

/-- ITS FALSE NEIGHBOUR: 'it returns false'. Refute it at one input. -/
def fnExactAlignWrong : ChangeSpec := { name := "fnExactAlign", fn := fun _ => fun
  | [d1, d2] => { results := [.lit (.bool false)], args := [d1, d2] }
  | _ => none }
def FnExactAlignWrongFalsely : Prop := fnExactAlignRow.holds Try.pinned (OpenSpec.ofChange fnExactAlignWrong)

/-- 'laws.FnExactEditsOf': WHATEVER THE INPUT: true; the input reads as it did. -/
def fnExactEditsOfSpec : ChangeSpec := { name := "fnExactEditsOf", fn := fun _ => fun
  | [d1, d2] => { results := [.lit (.bool true)], args := [d1, d2] }
  | _ => none }
def fnExactEditsOfRow : OpenClaim := { program := "ytnimljoagcokaaa", sum := "7e681089d3f27a530f2cce2f64f463195777dc6aff6ca143e165c047fc316174", func := "loop.example/g00073/laws.FnExactEditsOf", spec := "fnExactEditsOf", inPlace := ["internal/bytealg.IndexByteString", "internal/bytealg.IndexString"], named := ["internal/bytealg.MaxLen"], apart := false }
def FnExactEditsOfSaid : Prop := fnExactEditsOfRow.holds Try.pinned (OpenSpec.ofChange fnExactEditsOfSpec)

/-- ITS FALSE NEIGHBOUR: 'it returns false'. Refute it at one input. -/
def fnExactEditsOfWrong : ChangeSpec := { name := "fnExactEditsOf", fn := fun _ => fun
  | [d1, d2] => { results := [.lit (.bool false)], args := [d1, d2] }
  | _ => none }
def FnExactEditsOfWrongFalsely : Prop := fnExactEditsOfRow.holds Try.pinned (OpenSpec.ofChange fnExactEditsOfWrong)

/-- 'laws.FnExactApply': WHATEVER THE INPUT: true; the input reads as it did. -/
def fnExactApplySpec : ChangeSpec := { name := "fnExactApply", fn := fun _ => fun
  | [d1, d2] => { results := [.lit (.bool true)], args := [d1, d2] }
  | _ => none }
def fnExactApplyRow : OpenClaim := { program := "ytnimljoagcokaaa", sum := "7e681089d3f27a530f2cce2f64f463195777dc6aff6ca143e165c047fc316174", func := "loop.example/g00073/laws.FnExactApply", spec := "fnExactApply", inPlace := ["internal/bytealg.IndexByteString", "internal/bytealg.IndexString"], named := ["internal/bytealg.MaxLen"], apart := false }
def FnExactApplySaid : Prop := fnExactApplyRow.holds Try.pinned (OpenSpec.ofChange fnExactApplySpec)

/-- ITS FALSE NEIGHBOUR: 'it returns false'. Refute it at one input. -/
def fnExactApplyWrong : ChangeSpec := { name := "fnExactApply", fn := fun _ => fun
  | [d1, d2] => { results := [.lit (.bool false)], args := [d1, d2] }
  | _ => none }
def FnExactApplyWrongFalsely : Prop := fnExactApplyRow.holds Try.pinned (OpenSpec.ofChange fnExactApplyWrong)

/-- 'laws.FnEdits': WHATEVER THE INPUT: true; the input reads as it did. -/
def fnEditsSpec : ChangeSpec := { name := "fnEdits", fn := fun _ => fun
  | [d] => { results := [.lit (.bool true)], args := [d] }
  | _ => none }
def fnEditsRow : OpenClaim := { program := "ytnimljoagcokaaa", sum := "7e681089d3f27a530f2cce2f64f463195777dc6aff6ca143e165c047fc316174", func := "loop.example/g00073/laws.FnEdits", spec := "fnEdits", inPlace := ["internal/bytealg.IndexByteString", "internal/bytealg.IndexString"], named := ["internal/bytealg.MaxLen"], apart := false }
def FnEditsSaid : Prop := fnEditsRow.holds Try.pinned (OpenSpec.ofChange fnEditsSpec)

/-- ITS FALSE NEIGHBOUR: 'it returns false'. Refute it at one input. -/
def fnEditsWrong : ChangeSpec := { name := "fnEdits", fn := fun _ => fun
  | [d] => { results := [.lit (.bool false)], args := [d] }
  | _ => none }
def FnEditsWrongFalsely : Prop := fnEditsRow.holds Try.pinned (OpenSpec.ofChange fnEditsWrong)

/- THE SECOND FORM. 'bulk': how many values and letters a reading holds, each counted each time it is reached (what is shared counts as often as it is met; a slice's spare places count too). A statement '..UptoSaid' is the law's where the arguments, and the package variables that the reading takes, are together of bulk at most 1048576: NARROWER than '..Said'. Prove '..Said' where nothing that the law and all that it calls make is longer than what came in: it says more and counts as full. Else prove '..UptoSaid'. A law counts once. -/
mutual
def uptoBulk {H : Type} : DataW H → Nat
  | .lit (.string bytes) => bytes.length + 1
  | .lit _ => 1
  | .nil => 1
  | .ptr d => uptoBulk d + 1
  | .slice elems spare => uptoBulkAll elems + uptoBulkAll spare + 1
  | .agg parts => uptoBulkAll parts + 1
  | .iface _ d => uptoBulk d + 1
  | .map entries => uptoBulkEntries entries + 1
  | .held _ => 1
def uptoBulkAll {H : Type} : List (DataW H) → Nat
  | [] => 0
  | d :: r => uptoBulk d + uptoBulkAll r
def uptoBulkEntries {H : Type} : List (Lit × DataW H) → Nat
  | [] => 0
  | x :: r => uptoBulkEntry x + uptoBulkEntries r
def uptoBulkEntry {H : Type} : Lit × DataW H → Nat
  | (.string bytes, d) => bytes.length + uptoBulk d + 1
  | (_, d) => uptoBulk d + 1
 end
def uptoSmall : (H : Type) → List (DataW H) → Bool := fun _ ds => decide (uptoBulkAll ds ≤ 1048576)
def OpenSpec.upto (s : _root_.Go.ChangeSpec) : _root_.Go.OpenSpec := { _root_.Go.OpenSpec.ofChange s with cond := some uptoSmall }

/-- 'laws.FnExactBack', WHERE WHAT IT READS IS OF BULK AT MOST 1048576: true; the input reads as it did. -/
def fnExactBackUptoRow : OpenClaim := { program := "ytnimljoagcokaaa", sum := "7e681089d3f27a530f2cce2f64f463195777dc6aff6ca143e165c047fc316174", func := "loop.example/g00073/laws.FnExactBack", spec := "fnExactBack", inPlace := ["internal/bytealg.IndexByteString", "internal/bytealg.IndexString"], named := ["internal/bytealg.MaxLen"], apart := false, narrowed := true }
def FnExactBackUptoSaid : Prop := fnExactBackUptoRow.holds Try.pinned (OpenSpec.upto fnExactBackSpec)

/-- 'laws.FnAligned', WHERE WHAT IT READS IS OF BULK AT MOST 1048576: true; the input reads as it did. -/
def fnAlignedUptoRow : OpenClaim := { program := "ytnimljoagcokaaa", sum := "7e681089d3f27a530f2cce2f64f463195777dc6aff6ca143e165c047fc316174", func := "loop.example/g00073/laws.FnAligned", spec := "fnAligned", inPlace := ["internal/bytealg.IndexByteString", "internal/bytealg.IndexString"], named := ["internal/bytealg.MaxLen"], apart := false, narrowed := true }
def FnAlignedUptoSaid : Prop := fnAlignedUptoRow.holds Try.pinned (OpenSpec.upto fnAlignedSpec)

/-- 'laws.FnExactWalk', WHERE WHAT IT READS IS OF BULK AT MOST 1048576: true; the input reads as it did. -/
def fnExactWalkUptoRow : OpenClaim := { program := "ytnimljoagcokaaa", sum := "7e681089d3f27a530f2cce2f64f463195777dc6aff6ca143e165c047fc316174", func := "loop.example/g00073/laws.FnExactWalk", spec := "fnExactWalk", apart := false, narrowed := true }
def FnExactWalkUptoSaid : Prop := fnExactWalkUptoRow.holds Try.pinned (OpenSpec.upto fnExactWalkSpec)

/-- 'laws.FnExactAlign', WHERE WHAT IT READS IS OF BULK AT MOST 1048576: true; the input reads as it did. -/
def fnExactAlignUptoRow : OpenClaim := { program := "ytnimljoagcokaaa", sum := "7e681089d3f27a530f2cce2f64f463195777dc6aff6ca143e165c047fc316174", func := "loop.example/g00073/laws.FnExactAlign", spec := "fnExactAlign", inPlace := ["internal/bytealg.IndexByteString", "internal/bytealg.IndexString"], named := ["internal/bytealg.MaxLen"], apart := false, narrowed := true }
def FnExactAlignUptoSaid : Prop := fnExactAlignUptoRow.holds Try.pinned (OpenSpec.upto fnExactAlignSpec)

/-- 'laws.FnExactEditsOf', WHERE WHAT IT READS IS OF BULK AT MOST 1048576: true; the input reads as it did. -/
def fnExactEditsOfUptoRow : OpenClaim := { program := "ytnimljoagcokaaa", sum := "7e681089d3f27a530f2cce2f64f463195777dc6aff6ca143e165c047fc316174", func := "loop.example/g00073/laws.FnExactEditsOf", spec := "fnExactEditsOf", inPlace := ["internal/bytealg.IndexByteString", "internal/bytealg.IndexString"], named := ["internal/bytealg.MaxLen"], apart := false, narrowed := true }
def FnExactEditsOfUptoSaid : Prop := fnExactEditsOfUptoRow.holds Try.pinned (OpenSpec.upto fnExactEditsOfSpec)

/-- 'laws.FnExactApply', WHERE WHAT IT READS IS OF BULK AT MOST 1048576: true; the input reads as it did. -/
def fnExactApplyUptoRow : OpenClaim := { program := "ytnimljoagcokaaa", sum := "7e681089d3f27a530f2cce2f64f463195777dc6aff6ca143e165c047fc316174", func := "loop.example/g00073/laws.FnExactApply", spec := "fnExactApply", inPlace := ["internal/bytealg.IndexByteString", "internal/bytealg.IndexString"], named := ["internal/bytealg.MaxLen"], apart := false, narrowed := true }
def FnExactApplyUptoSaid : Prop := fnExactApplyUptoRow.holds Try.pinned (OpenSpec.upto fnExactApplySpec)

/-- 'laws.FnEdits', WHERE WHAT IT READS IS OF BULK AT MOST 1048576: true; the input reads as it did. -/
def fnEditsUptoRow : OpenClaim := { program := "ytnimljoagcokaaa", sum := "7e681089d3f27a530f2cce2f64f463195777dc6aff6ca143e165c047fc316174", func := "loop.example/g00073/laws.FnEdits", spec := "fnEdits", inPlace := ["internal/bytealg.IndexByteString", "internal/bytealg.IndexString"], named := ["internal/bytealg.MaxLen"], apart := false, narrowed := true }
def FnEditsUptoSaid : Prop := fnEditsUptoRow.holds Try.pinned (OpenSpec.upto fnEditsSpec)

end Rows
end Go.Proofs.Ytnimljoagcokaaa
