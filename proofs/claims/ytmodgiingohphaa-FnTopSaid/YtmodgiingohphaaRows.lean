/-
  No cell of these rows narrows 'for every input' (looked for: loops, veiled, ifaces, maps, wideKeys, modest, calm, conditions, laid).
  DERIVED. THE GIVEN ROWS OF THIS SEAT. 5 by the template 'for every input the law returns true; each argument reads behind the call as it read before'; 0 by the template 'total and deterministic' (their statements: YtmodgiingohphaaTotals.lean).
  GIVEN WITH THE SEED: the statements are not yours to turn. If you find one false, say at which input.
  Laid BY PROGRAM, IN A SANDBOX (cutbox-rows.mjs): the forced cells as the released guide's own fill.sh prints them over the translation f110327f200c2c4a… (all of the seat's roots in one cut). By AI agents, Wed Nov 11 2026. No macro, syntax, notation, axiom, sorry.
-/
import Derived.Test.YtmodgiingohphaaChecked
import GoSem.Claim
import GoSem.ClaimJoined
import GoSem.ClaimMapViews
import Derived.JoinedTies
import Derived.KernelRfl
namespace Go.Proofs.Ytmodgiingohphaa
/- THE CELL 'sum', in the pinned program and in every row, IS THE sha256 OF THE DUMP (.gsa) THAT YtmodgiingohphaaProg.lean LOADS. Nothing in Lean hashes anything: it is a label: what it is worth is what the hold of that sum in a sandbox is worth. -/
noncomputable def Try.pinned : Pinned := { name := "ytmodgiingohphaa", sum := "f110327f200c2c4a48fe32149803fec93ca7b93ddd15c7da4c05d46ad73dc71c", checked := Try.checked }
namespace Rows
def none {H : Type} : Left H := { results := [], args := [] }

/-- 'laws.FnExactVersionSum': WHATEVER THE INPUT: true; the input reads as it did. -/
def fnExactVersionSumSpec : ChangeSpec := { name := "fnExactVersionSum", fn := fun _ => fun
  | [d1, d2] => { results := [.lit (.bool true)], args := [d1, d2] }
  | _ => none }
def fnExactVersionSumRow : OpenClaim := { program := "ytmodgiingohphaa", sum := "f110327f200c2c4a48fe32149803fec93ca7b93ddd15c7da4c05d46ad73dc71c", func := "loop.example/g00073/laws.FnExactVersionSum", spec := "fnExactVersionSum", inPlace := ["internal/bytealg.IndexByteString", "internal/bytealg.IndexString", "internal/abi.NoEscape"], named := ["internal/bytealg.MaxLen"], apart := false }
def FnExactVersionSumSaid : Prop := fnExactVersionSumRow.holds Try.pinned (OpenSpec.ofChange fnExactVersionSumSpec)

/-- ITS FALSE NEIGHBOUR: 'it returns false'. Refute it at one input. -/
def fnExactVersionSumWrong : ChangeSpec := { name := "fnExactVersionSum", fn := fun _ => fun
  | [d1, d2] => { results := [.lit (.bool false)], args := [d1, d2] }
  | _ => none }
def FnExactVersionSumWrongFalsely : Prop := fnExactVersionSumRow.holds Try.pinned (OpenSpec.ofChange fnExactVersionSumWrong)

/-- 'laws.FnExactRecords': WHATEVER THE INPUT: true; the input reads as it did. -/
def fnExactRecordsSpec : ChangeSpec := { name := "fnExactRecords", fn := fun _ => fun
  | [d] => { results := [.lit (.bool true)], args := [d] }
  | _ => none }
def fnExactRecordsRow : OpenClaim := { program := "ytmodgiingohphaa", sum := "f110327f200c2c4a48fe32149803fec93ca7b93ddd15c7da4c05d46ad73dc71c", func := "loop.example/g00073/laws.FnExactRecords", spec := "fnExactRecords", inPlace := ["internal/bytealg.IndexByteString", "internal/bytealg.IndexString"], named := ["internal/bytealg.MaxLen"], apart := false }
def FnExactRecordsSaid : Prop := fnExactRecordsRow.holds Try.pinned (OpenSpec.ofChange fnExactRecordsSpec)

/-- ITS FALSE NEIGHBOUR: 'it returns false'. Refute it at one input. -/
def fnExactRecordsWrong : ChangeSpec := { name := "fnExactRecords", fn := fun _ => fun
  | [d] => { results := [.lit (.bool false)], args := [d] }
  | _ => none }
def FnExactRecordsWrongFalsely : Prop := fnExactRecordsRow.holds Try.pinned (OpenSpec.ofChange fnExactRecordsWrong)

/-- 'laws.FnExactWeaveText': WHATEVER THE INPUT: true; the input reads as it did. -/
def fnExactWeaveTextSpec : ChangeSpec := { name := "fnExactWeaveText", fn := fun _ => fun
  | [d] => { results := [.lit (.bool true)], args := [d] }
  | _ => none }
def fnExactWeaveTextRow : OpenClaim := { program := "ytmodgiingohphaa", sum := "f110327f200c2c4a48fe32149803fec93ca7b93ddd15c7da4c05d46ad73dc71c", func := "loop.example/g00073/laws.FnExactWeaveText", spec := "fnExactWeaveText", inPlace := ["internal/bytealg.IndexByteString", "internal/bytealg.IndexString", "internal/abi.NoEscape"], named := ["internal/bytealg.MaxLen"], apart := false }
def FnExactWeaveTextSaid : Prop := fnExactWeaveTextRow.holds Try.pinned (OpenSpec.ofChange fnExactWeaveTextSpec)

/-- ITS FALSE NEIGHBOUR: 'it returns false'. Refute it at one input. -/
def fnExactWeaveTextWrong : ChangeSpec := { name := "fnExactWeaveText", fn := fun _ => fun
  | [d] => { results := [.lit (.bool false)], args := [d] }
  | _ => none }
def FnExactWeaveTextWrongFalsely : Prop := fnExactWeaveTextRow.holds Try.pinned (OpenSpec.ofChange fnExactWeaveTextWrong)

/-- 'laws.FnExactAddVersion': WHATEVER THE INPUT: true; the input reads as it did. -/
def fnExactAddVersionSpec : ChangeSpec := { name := "fnExactAddVersion", fn := fun _ => fun
  | [d1, d2, d3] => { results := [.lit (.bool true)], args := [d1, d2, d3] }
  | _ => none }
def fnExactAddVersionRow : OpenClaim := { program := "ytmodgiingohphaa", sum := "f110327f200c2c4a48fe32149803fec93ca7b93ddd15c7da4c05d46ad73dc71c", func := "loop.example/g00073/laws.FnExactAddVersion", spec := "fnExactAddVersion", inPlace := ["internal/bytealg.IndexByteString", "internal/bytealg.IndexString", "slices.overlaps[loop.example/g00073/impl.Body]"], named := ["internal/bytealg.MaxLen"], apart := false }
def FnExactAddVersionSaid : Prop := fnExactAddVersionRow.holds Try.pinned (OpenSpec.ofChange fnExactAddVersionSpec)

/-- ITS FALSE NEIGHBOUR: 'it returns false'. Refute it at one input. -/
def fnExactAddVersionWrong : ChangeSpec := { name := "fnExactAddVersion", fn := fun _ => fun
  | [d1, d2, d3] => { results := [.lit (.bool false)], args := [d1, d2, d3] }
  | _ => none }
def FnExactAddVersionWrongFalsely : Prop := fnExactAddVersionRow.holds Try.pinned (OpenSpec.ofChange fnExactAddVersionWrong)

/-- 'laws.FnTop': WHATEVER THE INPUT: true; the input reads as it did. -/
def fnTopSpec : ChangeSpec := { name := "fnTop", fn := fun _ => fun
  | [d] => { results := [.lit (.bool true)], args := [d] }
  | _ => none }
def fnTopRow : OpenClaim := { program := "ytmodgiingohphaa", sum := "f110327f200c2c4a48fe32149803fec93ca7b93ddd15c7da4c05d46ad73dc71c", func := "loop.example/g00073/laws.FnTop", spec := "fnTop", inPlace := ["internal/bytealg.IndexByteString", "internal/bytealg.IndexString", "slices.overlaps[loop.example/g00073/impl.Body]"], named := ["internal/bytealg.MaxLen"], apart := false }
def FnTopSaid : Prop := fnTopRow.holds Try.pinned (OpenSpec.ofChange fnTopSpec)

/-- ITS FALSE NEIGHBOUR: 'it returns false'. Refute it at one input. -/
def fnTopWrong : ChangeSpec := { name := "fnTop", fn := fun _ => fun
  | [d] => { results := [.lit (.bool false)], args := [d] }
  | _ => none }
def FnTopWrongFalsely : Prop := fnTopRow.holds Try.pinned (OpenSpec.ofChange fnTopWrong)

/- THE SECOND FORM. 'bulk': how many values and letters a reading holds, each counted each time it is reached (what is shared counts as often as it is met; a slice's spare places count too). A statement '..UptoSaid' is the law's where the arguments, and the package variables that the reading takes, are together of bulk at most 1048576: NARROWER than '..Said'. Prove '..Said' where nothing that the law and all that it calls make is longer than what came in: it says more and counts as full. Else prove '..UptoSaid'. A law counts once. -/
mutual
def uptoBulk {H : Type} : DataW H → Nat
  | .lit (.string bytes) => bytes.length + 1
  | .lit _ => 1
  | .nil => 1
  | .ptr d => uptoBulk d + 1
  | .slice elems spare => uptoBulkAll elems + uptoBulkAll spare + 1
  | .agg parts => uptoBulkAll parts + 1
  | .iface _ d => uptoBulk d + 1
  | .map entries => uptoBulkEntries entries + 1
  | .held _ => 1
def uptoBulkAll {H : Type} : List (DataW H) → Nat
  | [] => 0
  | d :: r => uptoBulk d + uptoBulkAll r
def uptoBulkEntries {H : Type} : List (Lit × DataW H) → Nat
  | [] => 0
  | x :: r => uptoBulkEntry x + uptoBulkEntries r
def uptoBulkEntry {H : Type} : Lit × DataW H → Nat
  | (.string bytes, d) => bytes.length + uptoBulk d + 1
  | (_, d) => uptoBulk d + 1
 end
def uptoSmall : (H : Type) → List (DataW H) → Bool := fun _ ds => decide (uptoBulkAll ds ≤ 1048576)
def OpenSpec.upto (s : _root_.Go.ChangeSpec) : _root_.Go.OpenSpec := { _root_.Go.OpenSpec.ofChange s with cond := some uptoSmall }

/-- 'laws.FnExactVersionSum', WHERE WHAT IT READS IS OF BULK AT MOST 1048576: true; the input reads as it did. -/
def fnExactVersionSumUptoRow : OpenClaim := { program := "ytmodgiingohphaa", sum := "f110327f200c2c4a48fe32149803fec93ca7b93ddd15c7da4c05d46ad73dc71c", func := "loop.example/g00073/laws.FnExactVersionSum", spec := "fnExactVersionSum", inPlace := ["internal/bytealg.IndexByteString", "internal/bytealg.IndexString", "internal/abi.NoEscape"], named := ["internal/bytealg.MaxLen"], apart := false, narrowed := true }
def FnExactVersionSumUptoSaid : Prop := fnExactVersionSumUptoRow.holds Try.pinned (OpenSpec.upto fnExactVersionSumSpec)

/-- 'laws.FnExactRecords', WHERE WHAT IT READS IS OF BULK AT MOST 1048576: true; the input reads as it did. -/
def fnExactRecordsUptoRow : OpenClaim := { program := "ytmodgiingohphaa", sum := "f110327f200c2c4a48fe32149803fec93ca7b93ddd15c7da4c05d46ad73dc71c", func := "loop.example/g00073/laws.FnExactRecords", spec := "fnExactRecords", inPlace := ["internal/bytealg.IndexByteString", "internal/bytealg.IndexString"], named := ["internal/bytealg.MaxLen"], apart := false, narrowed := true }
def FnExactRecordsUptoSaid : Prop := fnExactRecordsUptoRow.holds Try.pinned (OpenSpec.upto fnExactRecordsSpec)

/-- 'laws.FnExactWeaveText', WHERE WHAT IT READS IS OF BULK AT MOST 1048576: true; the input reads as it did. -/
def fnExactWeaveTextUptoRow : OpenClaim := { program := "ytmodgiingohphaa", sum := "f110327f200c2c4a48fe32149803fec93ca7b93ddd15c7da4c05d46ad73dc71c", func := "loop.example/g00073/laws.FnExactWeaveText", spec := "fnExactWeaveText", inPlace := ["internal/bytealg.IndexByteString", "internal/bytealg.IndexString", "internal/abi.NoEscape"], named := ["internal/bytealg.MaxLen"], apart := false, narrowed := true }
def FnExactWeaveTextUptoSaid : Prop := fnExactWeaveTextUptoRow.holds Try.pinned (OpenSpec.upto fnExactWeaveTextSpec)

/-- 'laws.FnExactAddVersion', WHERE WHAT IT READS IS OF BULK AT MOST 1048576: true; the input reads as it did. -/
def fnExactAddVersionUptoRow : OpenClaim := { program := "ytmodgiingohphaa", sum := "f110327f200c2c4a48fe32149803fec93ca7b93ddd15c7da4c05d46ad73dc71c", func := "loop.example/g00073/laws.FnExactAddVersion", spec := "fnExactAddVersion", inPlace := ["internal/bytealg.IndexByteString", "internal/bytealg.IndexString", "slices.overlaps[loop.example/g00073/impl.Body]"], named := ["internal/bytealg.MaxLen"], apart := false, narrowed := true }
def FnExactAddVersionUptoSaid : Prop := fnExactAddVersionUptoRow.holds Try.pinned (OpenSpec.upto fnExactAddVersionSpec)

/-- 'laws.FnTop', WHERE WHAT IT READS IS OF BULK AT MOST 1048576: true; the input reads as it did. -/
def fnTopUptoRow : OpenClaim := { program := "ytmodgiingohphaa", sum := "f110327f200c2c4a48fe32149803fec93ca7b93ddd15c7da4c05d46ad73dc71c", func := "loop.example/g00073/laws.FnTop", spec := "fnTop", inPlace := ["internal/bytealg.IndexByteString", "internal/bytealg.IndexString", "slices.overlaps[loop.example/g00073/impl.Body]"], named := ["internal/bytealg.MaxLen"], apart := false, narrowed := true }
def FnTopUptoSaid : Prop := fnTopUptoRow.holds Try.pinned (OpenSpec.upto fnTopSpec)

end Rows
end Go.Proofs.Ytmodgiingohphaa
