/-
  No cell of these rows narrows 'for every input' (looked for: loops, veiled, ifaces, maps, wideKeys, modest, calm, conditions, laid).
  DERIVED. THE GIVEN ROWS OF THIS SEAT. 11 by the template 'for every input the law returns true; each argument reads behind the call as it read before'; 0 by the template 'total and deterministic' (their statements: YtcgelllmdcnmfaaTotals.lean).
  GIVEN WITH THE SEED: the statements are not yours to turn. If you find one false, say at which input.
  Laid BY PROGRAM, IN A SANDBOX (cutbox-rows.mjs): the forced cells as the released guide's own fill.sh prints them over the translation 71570ecfd5efc445… (all of the seat's roots in one cut). By AI agents, Wed Nov 11 2026. No macro, syntax, notation, axiom, sorry.
-/
import Derived.Test.YtcgelllmdcnmfaaChecked
import GoSem.Claim
import GoSem.ClaimJoined
import GoSem.ClaimMapViews
import Derived.JoinedTies
import Derived.KernelRfl
namespace Go.Proofs.Ytcgelllmdcnmfaa
/- THE CELL 'sum', in the pinned program and in every row, IS THE sha256 OF THE DUMP (.gsa) THAT YtcgelllmdcnmfaaProg.lean LOADS. Nothing in Lean hashes anything: it is a label: what it is worth is what the hold of that sum in a sandbox is worth. -/
noncomputable def Try.pinned : Pinned := { name := "ytcgelllmdcnmfaa", sum := "71570ecfd5efc445f45d40069ce06e87cf6bc704da78fbb2a89705d8a270b7eb", checked := Try.checked }
namespace Rows
def none {H : Type} : Left H := { results := [], args := [] }

/-- 'laws.FnExactWeaveOk': WHATEVER THE INPUT: true; the input reads as it did. -/
def fnExactWeaveOkSpec : ChangeSpec := { name := "fnExactWeaveOk", fn := fun _ => fun
  | [d] => { results := [.lit (.bool true)], args := [d] }
  | _ => none }
def fnExactWeaveOkRow : OpenClaim := { program := "ytcgelllmdcnmfaa", sum := "71570ecfd5efc445f45d40069ce06e87cf6bc704da78fbb2a89705d8a270b7eb", func := "loop.example/g00073/laws.FnExactWeaveOk", spec := "fnExactWeaveOk", inPlace := ["internal/bytealg.IndexByteString", "internal/bytealg.IndexString"], named := ["internal/bytealg.MaxLen"], apart := false }
def FnExactWeaveOkSaid : Prop := fnExactWeaveOkRow.holds Try.pinned (OpenSpec.ofChange fnExactWeaveOkSpec)

/-- ITS FALSE NEIGHBOUR: 'it returns false'. Refute it at one input. -/
def fnExactWeaveOkWrong : ChangeSpec := { name := "fnExactWeaveOk", fn := fun _ => fun
  | [d] => { results := [.lit (.bool false)], args := [d] }
  | _ => none }
def FnExactWeaveOkWrongFalsely : Prop := fnExactWeaveOkRow.holds Try.pinned (OpenSpec.ofChange fnExactWeaveOkWrong)

/-- 'laws.FnExactShared': WHATEVER THE INPUT: true; the input reads as it did. -/
def fnExactSharedSpec : ChangeSpec := { name := "fnExactShared", fn := fun _ => fun
  | [d1, d2, d3] => { results := [.lit (.bool true)], args := [d1, d2, d3] }
  | _ => none }
def fnExactSharedRow : OpenClaim := { program := "ytcgelllmdcnmfaa", sum := "71570ecfd5efc445f45d40069ce06e87cf6bc704da78fbb2a89705d8a270b7eb", func := "loop.example/g00073/laws.FnExactShared", spec := "fnExactShared", inPlace := ["internal/bytealg.IndexByteString", "internal/bytealg.IndexString"], named := ["internal/bytealg.MaxLen"], apart := false }
def FnExactSharedSaid : Prop := fnExactSharedRow.holds Try.pinned (OpenSpec.ofChange fnExactSharedSpec)

/-- ITS FALSE NEIGHBOUR: 'it returns false'. Refute it at one input. -/
def fnExactSharedWrong : ChangeSpec := { name := "fnExactShared", fn := fun _ => fun
  | [d1, d2, d3] => { results := [.lit (.bool false)], args := [d1, d2, d3] }
  | _ => none }
def FnExactSharedWrongFalsely : Prop := fnExactSharedRow.holds Try.pinned (OpenSpec.ofChange fnExactSharedWrong)

/-- 'laws.FnExactLiveIn': WHATEVER THE INPUT: true; the input reads as it did. -/
def fnExactLiveInSpec : ChangeSpec := { name := "fnExactLiveIn", fn := fun _ => fun
  | [d1, d2] => { results := [.lit (.bool true)], args := [d1, d2] }
  | _ => none }
def fnExactLiveInRow : OpenClaim := { program := "ytcgelllmdcnmfaa", sum := "71570ecfd5efc445f45d40069ce06e87cf6bc704da78fbb2a89705d8a270b7eb", func := "loop.example/g00073/laws.FnExactLiveIn", spec := "fnExactLiveIn", inPlace := ["internal/bytealg.IndexByteString", "internal/bytealg.IndexString"], named := ["internal/bytealg.MaxLen"], apart := false }
def FnExactLiveInSaid : Prop := fnExactLiveInRow.holds Try.pinned (OpenSpec.ofChange fnExactLiveInSpec)

/-- ITS FALSE NEIGHBOUR: 'it returns false'. Refute it at one input. -/
def fnExactLiveInWrong : ChangeSpec := { name := "fnExactLiveIn", fn := fun _ => fun
  | [d1, d2] => { results := [.lit (.bool false)], args := [d1, d2] }
  | _ => none }
def FnExactLiveInWrongFalsely : Prop := fnExactLiveInRow.holds Try.pinned (OpenSpec.ofChange fnExactLiveInWrong)

/-- 'laws.FnExactOldest': WHATEVER THE INPUT: true; the input reads as it did. -/
def fnExactOldestSpec : ChangeSpec := { name := "fnExactOldest", fn := fun _ => fun
  | [d1, d2] => { results := [.lit (.bool true)], args := [d1, d2] }
  | _ => none }
def fnExactOldestRow : OpenClaim := { program := "ytcgelllmdcnmfaa", sum := "71570ecfd5efc445f45d40069ce06e87cf6bc704da78fbb2a89705d8a270b7eb", func := "loop.example/g00073/laws.FnExactOldest", spec := "fnExactOldest", inPlace := ["internal/bytealg.IndexByteString", "internal/bytealg.IndexString"], named := ["internal/bytealg.MaxLen"], apart := false }
def FnExactOldestSaid : Prop := fnExactOldestRow.holds Try.pinned (OpenSpec.ofChange fnExactOldestSpec)

/-- ITS FALSE NEIGHBOUR: 'it returns false'. Refute it at one input. -/
def fnExactOldestWrong : ChangeSpec := { name := "fnExactOldest", fn := fun _ => fun
  | [d1, d2] => { results := [.lit (.bool false)], args := [d1, d2] }
  | _ => none }
def FnExactOldestWrongFalsely : Prop := fnExactOldestRow.holds Try.pinned (OpenSpec.ofChange fnExactOldestWrong)

/-- 'laws.FnExactLivesIn': WHATEVER THE INPUT: true; the input reads as it did. -/
def fnExactLivesInSpec : ChangeSpec := { name := "fnExactLivesIn", fn := fun _ => fun
  | [d1, d2] => { results := [.lit (.bool true)], args := [d1, d2] }
  | _ => none }
def fnExactLivesInRow : OpenClaim := { program := "ytcgelllmdcnmfaa", sum := "71570ecfd5efc445f45d40069ce06e87cf6bc704da78fbb2a89705d8a270b7eb", func := "loop.example/g00073/laws.FnExactLivesIn", spec := "fnExactLivesIn", inPlace := ["internal/bytealg.IndexByteString", "internal/bytealg.IndexString"], named := ["internal/bytealg.MaxLen"], apart := false }
def FnExactLivesInSaid : Prop := fnExactLivesInRow.holds Try.pinned (OpenSpec.ofChange fnExactLivesInSpec)

/-- ITS FALSE NEIGHBOUR: 'it returns false'. Refute it at one input. -/
def fnExactLivesInWrong : ChangeSpec := { name := "fnExactLivesIn", fn := fun _ => fun
  | [d1, d2] => { results := [.lit (.bool false)], args := [d1, d2] }
  | _ => none }
def FnExactLivesInWrongFalsely : Prop := fnExactLivesInRow.holds Try.pinned (OpenSpec.ofChange fnExactLivesInWrong)

/-- 'laws.FnExactBornIn': WHATEVER THE INPUT: true; the input reads as it did. -/
def fnExactBornInSpec : ChangeSpec := { name := "fnExactBornIn", fn := fun _ => fun
  | [d1, d2] => { results := [.lit (.bool true)], args := [d1, d2] }
  | _ => none }
def fnExactBornInRow : OpenClaim := { program := "ytcgelllmdcnmfaa", sum := "71570ecfd5efc445f45d40069ce06e87cf6bc704da78fbb2a89705d8a270b7eb", func := "loop.example/g00073/laws.FnExactBornIn", spec := "fnExactBornIn", inPlace := ["internal/bytealg.IndexByteString", "internal/bytealg.IndexString"], unfollowed := true, recurses := true, named := ["internal/bytealg.MaxLen"], apart := false }
def FnExactBornInSaid : Prop := fnExactBornInRow.holds Try.pinned (OpenSpec.ofChange fnExactBornInSpec)

/-- ITS FALSE NEIGHBOUR: 'it returns false'. Refute it at one input. -/
def fnExactBornInWrong : ChangeSpec := { name := "fnExactBornIn", fn := fun _ => fun
  | [d1, d2] => { results := [.lit (.bool false)], args := [d1, d2] }
  | _ => none }
def FnExactBornInWrongFalsely : Prop := fnExactBornInRow.holds Try.pinned (OpenSpec.ofChange fnExactBornInWrong)

/-- 'laws.FnExactKilledIn': WHATEVER THE INPUT: true; the input reads as it did. -/
def fnExactKilledInSpec : ChangeSpec := { name := "fnExactKilledIn", fn := fun _ => fun
  | [d1, d2] => { results := [.lit (.bool true)], args := [d1, d2] }
  | _ => none }
def fnExactKilledInRow : OpenClaim := { program := "ytcgelllmdcnmfaa", sum := "71570ecfd5efc445f45d40069ce06e87cf6bc704da78fbb2a89705d8a270b7eb", func := "loop.example/g00073/laws.FnExactKilledIn", spec := "fnExactKilledIn", inPlace := ["internal/bytealg.IndexByteString", "internal/bytealg.IndexString"], unfollowed := true, recurses := true, named := ["internal/bytealg.MaxLen"], apart := false }
def FnExactKilledInSaid : Prop := fnExactKilledInRow.holds Try.pinned (OpenSpec.ofChange fnExactKilledInSpec)

/-- ITS FALSE NEIGHBOUR: 'it returns false'. Refute it at one input. -/
def fnExactKilledInWrong : ChangeSpec := { name := "fnExactKilledIn", fn := fun _ => fun
  | [d1, d2] => { results := [.lit (.bool false)], args := [d1, d2] }
  | _ => none }
def FnExactKilledInWrongFalsely : Prop := fnExactKilledInRow.holds Try.pinned (OpenSpec.ofChange fnExactKilledInWrong)

/-- 'laws.FnExactSeenBy': WHATEVER THE INPUT: true; the input reads as it did. -/
def fnExactSeenBySpec : ChangeSpec := { name := "fnExactSeenBy", fn := fun _ => fun
  | [d1, d2] => { results := [.lit (.bool true)], args := [d1, d2] }
  | _ => none }
def fnExactSeenByRow : OpenClaim := { program := "ytcgelllmdcnmfaa", sum := "71570ecfd5efc445f45d40069ce06e87cf6bc704da78fbb2a89705d8a270b7eb", func := "loop.example/g00073/laws.FnExactSeenBy", spec := "fnExactSeenBy", inPlace := ["internal/bytealg.IndexByteString", "internal/bytealg.IndexString"], named := ["internal/bytealg.MaxLen"], apart := false }
def FnExactSeenBySaid : Prop := fnExactSeenByRow.holds Try.pinned (OpenSpec.ofChange fnExactSeenBySpec)

/-- ITS FALSE NEIGHBOUR: 'it returns false'. Refute it at one input. -/
def fnExactSeenByWrong : ChangeSpec := { name := "fnExactSeenBy", fn := fun _ => fun
  | [d1, d2] => { results := [.lit (.bool false)], args := [d1, d2] }
  | _ => none }
def FnExactSeenByWrongFalsely : Prop := fnExactSeenByRow.holds Try.pinned (OpenSpec.ofChange fnExactSeenByWrong)

/-- 'laws.FnExactExtract': WHATEVER THE INPUT: true; the input reads as it did. -/
def fnExactExtractSpec : ChangeSpec := { name := "fnExactExtract", fn := fun _ => fun
  | [d1, d2] => { results := [.lit (.bool true)], args := [d1, d2] }
  | _ => none }
def fnExactExtractRow : OpenClaim := { program := "ytcgelllmdcnmfaa", sum := "71570ecfd5efc445f45d40069ce06e87cf6bc704da78fbb2a89705d8a270b7eb", func := "loop.example/g00073/laws.FnExactExtract", spec := "fnExactExtract", inPlace := ["internal/bytealg.IndexByteString", "internal/bytealg.IndexString"], named := ["internal/bytealg.MaxLen"], apart := false }
def FnExactExtractSaid : Prop := fnExactExtractRow.holds Try.pinned (OpenSpec.ofChange fnExactExtractSpec)

/-- ITS FALSE NEIGHBOUR: 'it returns false'. Refute it at one input. -/
def fnExactExtractWrong : ChangeSpec := { name := "fnExactExtract", fn := fun _ => fun
  | [d1, d2] => { results := [.lit (.bool false)], args := [d1, d2] }
  | _ => none }
def FnExactExtractWrongFalsely : Prop := fnExactExtractRow.holds Try.pinned (OpenSpec.ofChange fnExactExtractWrong)

/-- 'laws.FnExactCounts': WHATEVER THE INPUT: true; the input reads as it did. -/
def fnExactCountsSpec : ChangeSpec := { name := "fnExactCounts", fn := fun _ => fun
  | [d1, d2] => { results := [.lit (.bool true)], args := [d1, d2] }
  | _ => none }
def fnExactCountsRow : OpenClaim := { program := "ytcgelllmdcnmfaa", sum := "71570ecfd5efc445f45d40069ce06e87cf6bc704da78fbb2a89705d8a270b7eb", func := "loop.example/g00073/laws.FnExactCounts", spec := "fnExactCounts", inPlace := ["internal/bytealg.IndexByteString", "internal/bytealg.IndexString"], named := ["internal/bytealg.MaxLen"], apart := false }
def FnExactCountsSaid : Prop := fnExactCountsRow.holds Try.pinned (OpenSpec.ofChange fnExactCountsSpec)

/-- ITS FALSE NEIGHBOUR: 'it returns false'. Refute it at one input. -/
def fnExactCountsWrong : ChangeSpec := { name := "fnExactCounts", fn := fun _ => fun
  | [d1, d2] => { results := [.lit (.bool false)], args := [d1, d2] }
  | _ => none }
def FnExactCountsWrongFalsely : Prop := fnExactCountsRow.holds Try.pinned (OpenSpec.ofChange fnExactCountsWrong)

/-- 'laws.FnNotes': WHATEVER THE INPUT: true; the input reads as it did. -/
def fnNotesSpec : ChangeSpec := { name := "fnNotes", fn := fun _ => fun
  | [d] => { results := [.lit (.bool true)], args := [d] }
  | _ => none }
def fnNotesRow : OpenClaim := { program := "ytcgelllmdcnmfaa", sum := "71570ecfd5efc445f45d40069ce06e87cf6bc704da78fbb2a89705d8a270b7eb", func := "loop.example/g00073/laws.FnNotes", spec := "fnNotes", inPlace := ["internal/bytealg.IndexByteString", "internal/bytealg.IndexString"], named := ["internal/bytealg.MaxLen"], apart := false }
def FnNotesSaid : Prop := fnNotesRow.holds Try.pinned (OpenSpec.ofChange fnNotesSpec)

/-- ITS FALSE NEIGHBOUR: 'it returns false'. Refute it at one input. -/
def fnNotesWrong : ChangeSpec := { name := "fnNotes", fn := fun _ => fun
  | [d] => { results := [.lit (.bool false)], args := [d] }
  | _ => none }
def FnNotesWrongFalsely : Prop := fnNotesRow.holds Try.pinned (OpenSpec.ofChange fnNotesWrong)

/- THE SECOND FORM. 'bulk': how many values and letters a reading holds, each counted each time it is reached (what is shared counts as often as it is met; a slice's spare places count too). A statement '..UptoSaid' is the law's where the arguments, and the package variables that the reading takes, are together of bulk at most 1048576: NARROWER than '..Said'. Prove '..Said' where nothing that the law and all that it calls make is longer than what came in: it says more and counts as full. Else prove '..UptoSaid'. A law counts once. -/
mutual
def uptoBulk {H : Type} : DataW H → Nat
  | .lit (.string bytes) => bytes.length + 1
  | .lit _ => 1
  | .nil => 1
  | .ptr d => uptoBulk d + 1
  | .slice elems spare => uptoBulkAll elems + uptoBulkAll spare + 1
  | .agg parts => uptoBulkAll parts + 1
  | .iface _ d => uptoBulk d + 1
  | .map entries => uptoBulkEntries entries + 1
  | .held _ => 1
def uptoBulkAll {H : Type} : List (DataW H) → Nat
  | [] => 0
  | d :: r => uptoBulk d + uptoBulkAll r
def uptoBulkEntries {H : Type} : List (Lit × DataW H) → Nat
  | [] => 0
  | x :: r => uptoBulkEntry x + uptoBulkEntries r
def uptoBulkEntry {H : Type} : Lit × DataW H → Nat
  | (.string bytes, d) => bytes.length + uptoBulk d + 1
  | (_, d) => uptoBulk d + 1
 end
def uptoSmall : (H : Type) → List (DataW H) → Bool := fun _ ds => decide (uptoBulkAll ds ≤ 1048576)
def OpenSpec.upto (s : _root_.Go.ChangeSpec) : _root_.Go.OpenSpec := { _root_.Go.OpenSpec.ofChange s with cond := some uptoSmall }

/-- 'laws.FnExactWeaveOk', WHERE WHAT IT READS IS OF BULK AT MOST 1048576: true; the input reads as it did. -/
def fnExactWeaveOkUptoRow : OpenClaim := { program := "ytcgelllmdcnmfaa", sum := "71570ecfd5efc445f45d40069ce06e87cf6bc704da78fbb2a89705d8a270b7eb", func := "loop.example/g00073/laws.FnExactWeaveOk", spec := "fnExactWeaveOk", inPlace := ["internal/bytealg.IndexByteString", "internal/bytealg.IndexString"], named := ["internal/bytealg.MaxLen"], apart := false, narrowed := true }
def FnExactWeaveOkUptoSaid : Prop := fnExactWeaveOkUptoRow.holds Try.pinned (OpenSpec.upto fnExactWeaveOkSpec)

/-- 'laws.FnExactShared', WHERE WHAT IT READS IS OF BULK AT MOST 1048576: true; the input reads as it did. -/
def fnExactSharedUptoRow : OpenClaim := { program := "ytcgelllmdcnmfaa", sum := "71570ecfd5efc445f45d40069ce06e87cf6bc704da78fbb2a89705d8a270b7eb", func := "loop.example/g00073/laws.FnExactShared", spec := "fnExactShared", inPlace := ["internal/bytealg.IndexByteString", "internal/bytealg.IndexString"], named := ["internal/bytealg.MaxLen"], apart := false, narrowed := true }
def FnExactSharedUptoSaid : Prop := fnExactSharedUptoRow.holds Try.pinned (OpenSpec.upto fnExactSharedSpec)

/-- 'laws.FnExactLiveIn', WHERE WHAT IT READS IS OF BULK AT MOST 1048576: true; the input reads as it did. -/
def fnExactLiveInUptoRow : OpenClaim := { program := "ytcgelllmdcnmfaa", sum := "71570ecfd5efc445f45d40069ce06e87cf6bc704da78fbb2a89705d8a270b7eb", func := "loop.example/g00073/laws.FnExactLiveIn", spec := "fnExactLiveIn", inPlace := ["internal/bytealg.IndexByteString", "internal/bytealg.IndexString"], named := ["internal/bytealg.MaxLen"], apart := false, narrowed := true }
def FnExactLiveInUptoSaid : Prop := fnExactLiveInUptoRow.holds Try.pinned (OpenSpec.upto fnExactLiveInSpec)

/-- 'laws.FnExactOldest', WHERE WHAT IT READS IS OF BULK AT MOST 1048576: true; the input reads as it did. -/
def fnExactOldestUptoRow : OpenClaim := { program := "ytcgelllmdcnmfaa", sum := "71570ecfd5efc445f45d40069ce06e87cf6bc704da78fbb2a89705d8a270b7eb", func := "loop.example/g00073/laws.FnExactOldest", spec := "fnExactOldest", inPlace := ["internal/bytealg.IndexByteString", "internal/bytealg.IndexString"], named := ["internal/bytealg.MaxLen"], apart := false, narrowed := true }
def FnExactOldestUptoSaid : Prop := fnExactOldestUptoRow.holds Try.pinned (OpenSpec.upto fnExactOldestSpec)

/-- 'laws.FnExactLivesIn', WHERE WHAT IT READS IS OF BULK AT MOST 1048576: true; the input reads as it did. -/
def fnExactLivesInUptoRow : OpenClaim := { program := "ytcgelllmdcnmfaa", sum := "71570ecfd5efc445f45d40069ce06e87cf6bc704da78fbb2a89705d8a270b7eb", func := "loop.example/g00073/laws.FnExactLivesIn", spec := "fnExactLivesIn", inPlace := ["internal/bytealg.IndexByteString", "internal/bytealg.IndexString"], named := ["internal/bytealg.MaxLen"], apart := false, narrowed := true }
def FnExactLivesInUptoSaid : Prop := fnExactLivesInUptoRow.holds Try.pinned (OpenSpec.upto fnExactLivesInSpec)

/-- 'laws.FnExactBornIn', WHERE WHAT IT READS IS OF BULK AT MOST 1048576: true; the input reads as it did. -/
def fnExactBornInUptoRow : OpenClaim := { program := "ytcgelllmdcnmfaa", sum := "71570ecfd5efc445f45d40069ce06e87cf6bc704da78fbb2a89705d8a270b7eb", func := "loop.example/g00073/laws.FnExactBornIn", spec := "fnExactBornIn", inPlace := ["internal/bytealg.IndexByteString", "internal/bytealg.IndexString"], unfollowed := true, recurses := true, named := ["internal/bytealg.MaxLen"], apart := false, narrowed := true }
def FnExactBornInUptoSaid : Prop := fnExactBornInUptoRow.holds Try.pinned (OpenSpec.upto fnExactBornInSpec)

/-- 'laws.FnExactKilledIn', WHERE WHAT IT READS IS OF BULK AT MOST 1048576: true; the input reads as it did. -/
def fnExactKilledInUptoRow : OpenClaim := { program := "ytcgelllmdcnmfaa", sum := "71570ecfd5efc445f45d40069ce06e87cf6bc704da78fbb2a89705d8a270b7eb", func := "loop.example/g00073/laws.FnExactKilledIn", spec := "fnExactKilledIn", inPlace := ["internal/bytealg.IndexByteString", "internal/bytealg.IndexString"], unfollowed := true, recurses := true, named := ["internal/bytealg.MaxLen"], apart := false, narrowed := true }
def FnExactKilledInUptoSaid : Prop := fnExactKilledInUptoRow.holds Try.pinned (OpenSpec.upto fnExactKilledInSpec)

/-- 'laws.FnExactSeenBy', WHERE WHAT IT READS IS OF BULK AT MOST 1048576: true; the input reads as it did. -/
def fnExactSeenByUptoRow : OpenClaim := { program := "ytcgelllmdcnmfaa", sum := "71570ecfd5efc445f45d40069ce06e87cf6bc704da78fbb2a89705d8a270b7eb", func := "loop.example/g00073/laws.FnExactSeenBy", spec := "fnExactSeenBy", inPlace := ["internal/bytealg.IndexByteString", "internal/bytealg.IndexString"], named := ["internal/bytealg.MaxLen"], apart := false, narrowed := true }
def FnExactSeenByUptoSaid : Prop := fnExactSeenByUptoRow.holds Try.pinned (OpenSpec.upto fnExactSeenBySpec)

/-- 'laws.FnExactExtract', WHERE WHAT IT READS IS OF BULK AT MOST 1048576: true; the input reads as it did. -/
def fnExactExtractUptoRow : OpenClaim := { program := "ytcgelllmdcnmfaa", sum := "71570ecfd5efc445f45d40069ce06e87cf6bc704da78fbb2a89705d8a270b7eb", func := "loop.example/g00073/laws.FnExactExtract", spec := "fnExactExtract", inPlace := ["internal/bytealg.IndexByteString", "internal/bytealg.IndexString"], named := ["internal/bytealg.MaxLen"], apart := false, narrowed := true }
def FnExactExtractUptoSaid : Prop := fnExactExtractUptoRow.holds Try.pinned (OpenSpec.upto fnExactExtractSpec)

/-- 'laws.FnExactCounts', WHERE WHAT IT READS IS OF BULK AT MOST 1048576: true; the input reads as it did. -/
def fnExactCountsUptoRow : OpenClaim := { program := "ytcgelllmdcnmfaa", sum := "71570ecfd5efc445f45d40069ce06e87cf6bc704da78fbb2a89705d8a270b7eb", func := "loop.example/g00073/laws.FnExactCounts", spec := "fnExactCounts", inPlace := ["internal/bytealg.IndexByteString", "internal/bytealg.IndexString"], named := ["internal/bytealg.MaxLen"], apart := false, narrowed := true }
def FnExactCountsUptoSaid : Prop := fnExactCountsUptoRow.holds Try.pinned (OpenSpec.upto fnExactCountsSpec)

/-- 'laws.FnNotes', WHERE WHAT IT READS IS OF BULK AT MOST 1048576: true; the input reads as it did. -/
def fnNotesUptoRow : OpenClaim := { program := "ytcgelllmdcnmfaa", sum := "71570ecfd5efc445f45d40069ce06e87cf6bc704da78fbb2a89705d8a270b7eb", func := "loop.example/g00073/laws.FnNotes", spec := "fnNotes", inPlace := ["internal/bytealg.IndexByteString", "internal/bytealg.IndexString"], named := ["internal/bytealg.MaxLen"], apart := false, narrowed := true }
def FnNotesUptoSaid : Prop := fnNotesUptoRow.holds Try.pinned (OpenSpec.upto fnNotesSpec)

end Rows
end Go.Proofs.Ytcgelllmdcnmfaa
