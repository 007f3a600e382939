/-
  No cell of these rows narrows 'for every input' (looked for: loops, veiled, ifaces, maps, wideKeys, modest, calm, conditions, laid).
  DERIVED. THE GIVEN ROWS OF THIS SEAT. 12 by the template 'for every input the law returns true; each argument reads behind the call as it read before'; 0 by the template 'total and deterministic' (their statements: YtpojmcpfgllbfaaTotals.lean).
  GIVEN WITH THE SEED: the statements are not yours to turn. If you find one false, say at which input.
  Laid BY PROGRAM, IN A SANDBOX (cutbox-rows.mjs): the forced cells as the released guide's own fill.sh prints them over the translation 88e69c971c66f753… (all of the seat's roots in one cut). By AI agents, Wed Nov 11 2026. No macro, syntax, notation, axiom, sorry.
-/
import Derived.Test.YtpojmcpfgllbfaaChecked
import GoSem.Claim
import GoSem.ClaimJoined
import GoSem.ClaimMapViews
import Derived.JoinedTies
import Derived.KernelRfl
namespace Go.Proofs.Ytpojmcpfgllbfaa
/- THE CELL 'sum', in the pinned program and in every row, IS THE sha256 OF THE DUMP (.gsa) THAT YtpojmcpfgllbfaaProg.lean LOADS. Nothing in Lean hashes anything: it is a label: what it is worth is what the hold of that sum in a sandbox is worth. -/
noncomputable def Try.pinned : Pinned := { name := "ytpojmcpfgllbfaa", sum := "88e69c971c66f7530a27530424c5e3864c0ee22d579bab887514da2e899b0ddc", checked := Try.checked }
namespace Rows
def none {H : Type} : Left H := { results := [], args := [] }

/-- 'laws.FnTurned': WHATEVER THE INPUT: true; the input reads as it did. -/
def fnTurnedSpec : ChangeSpec := { name := "fnTurned", fn := fun _ => fun
  | [d] => { results := [.lit (.bool true)], args := [d] }
  | _ => none }
def fnTurnedRow : OpenClaim := { program := "ytpojmcpfgllbfaa", sum := "88e69c971c66f7530a27530424c5e3864c0ee22d579bab887514da2e899b0ddc", func := "loop.example/g00073/laws.FnTurned", spec := "fnTurned", apart := false }
def FnTurnedSaid : Prop := fnTurnedRow.holds Try.pinned (OpenSpec.ofChange fnTurnedSpec)

/-- ITS FALSE NEIGHBOUR: 'it returns false'. Refute it at one input. -/
def fnTurnedWrong : ChangeSpec := { name := "fnTurned", fn := fun _ => fun
  | [d] => { results := [.lit (.bool false)], args := [d] }
  | _ => none }
def FnTurnedWrongFalsely : Prop := fnTurnedRow.holds Try.pinned (OpenSpec.ofChange fnTurnedWrong)

/-- 'laws.FnExactGraphOk': WHATEVER THE INPUT: true; the input reads as it did. -/
def fnExactGraphOkSpec : ChangeSpec := { name := "fnExactGraphOk", fn := fun _ => fun
  | [d] => { results := [.lit (.bool true)], args := [d] }
  | _ => none }
def fnExactGraphOkRow : OpenClaim := { program := "ytpojmcpfgllbfaa", sum := "88e69c971c66f7530a27530424c5e3864c0ee22d579bab887514da2e899b0ddc", func := "loop.example/g00073/laws.FnExactGraphOk", spec := "fnExactGraphOk", apart := false }
def FnExactGraphOkSaid : Prop := fnExactGraphOkRow.holds Try.pinned (OpenSpec.ofChange fnExactGraphOkSpec)

/-- ITS FALSE NEIGHBOUR: 'it returns false'. Refute it at one input. -/
def fnExactGraphOkWrong : ChangeSpec := { name := "fnExactGraphOk", fn := fun _ => fun
  | [d] => { results := [.lit (.bool false)], args := [d] }
  | _ => none }
def FnExactGraphOkWrongFalsely : Prop := fnExactGraphOkRow.holds Try.pinned (OpenSpec.ofChange fnExactGraphOkWrong)

/-- 'laws.FnExactLineOk': WHATEVER THE INPUT: true; the input reads as it did. -/
def fnExactLineOkSpec : ChangeSpec := { name := "fnExactLineOk", fn := fun _ => fun
  | [d] => { results := [.lit (.bool true)], args := [d] }
  | _ => none }
def fnExactLineOkRow : OpenClaim := { program := "ytpojmcpfgllbfaa", sum := "88e69c971c66f7530a27530424c5e3864c0ee22d579bab887514da2e899b0ddc", func := "loop.example/g00073/laws.FnExactLineOk", spec := "fnExactLineOk", inPlace := ["internal/bytealg.IndexByteString", "internal/bytealg.IndexString"], named := ["internal/bytealg.MaxLen"], apart := false }
def FnExactLineOkSaid : Prop := fnExactLineOkRow.holds Try.pinned (OpenSpec.ofChange fnExactLineOkSpec)

/-- ITS FALSE NEIGHBOUR: 'it returns false'. Refute it at one input. -/
def fnExactLineOkWrong : ChangeSpec := { name := "fnExactLineOk", fn := fun _ => fun
  | [d] => { results := [.lit (.bool false)], args := [d] }
  | _ => none }
def FnExactLineOkWrongFalsely : Prop := fnExactLineOkRow.holds Try.pinned (OpenSpec.ofChange fnExactLineOkWrong)

/-- 'laws.FnExactIsAncestor': WHATEVER THE INPUT: true; the input reads as it did. -/
def fnExactIsAncestorSpec : ChangeSpec := { name := "fnExactIsAncestor", fn := fun _ => fun
  | [d1, d2, d3] => { results := [.lit (.bool true)], args := [d1, d2, d3] }
  | _ => none }
def fnExactIsAncestorRow : OpenClaim := { program := "ytpojmcpfgllbfaa", sum := "88e69c971c66f7530a27530424c5e3864c0ee22d579bab887514da2e899b0ddc", func := "loop.example/g00073/laws.FnExactIsAncestor", spec := "fnExactIsAncestor", apart := false }
def FnExactIsAncestorSaid : Prop := fnExactIsAncestorRow.holds Try.pinned (OpenSpec.ofChange fnExactIsAncestorSpec)

/-- ITS FALSE NEIGHBOUR: 'it returns false'. Refute it at one input. -/
def fnExactIsAncestorWrong : ChangeSpec := { name := "fnExactIsAncestor", fn := fun _ => fun
  | [d1, d2, d3] => { results := [.lit (.bool false)], args := [d1, d2, d3] }
  | _ => none }
def FnExactIsAncestorWrongFalsely : Prop := fnExactIsAncestorRow.holds Try.pinned (OpenSpec.ofChange fnExactIsAncestorWrong)

/-- 'laws.FnExactLevels': WHATEVER THE INPUT: true; the input reads as it did. -/
def fnExactLevelsSpec : ChangeSpec := { name := "fnExactLevels", fn := fun _ => fun
  | [d] => { results := [.lit (.bool true)], args := [d] }
  | _ => none }
def fnExactLevelsRow : OpenClaim := { program := "ytpojmcpfgllbfaa", sum := "88e69c971c66f7530a27530424c5e3864c0ee22d579bab887514da2e899b0ddc", func := "loop.example/g00073/laws.FnExactLevels", spec := "fnExactLevels", apart := false }
def FnExactLevelsSaid : Prop := fnExactLevelsRow.holds Try.pinned (OpenSpec.ofChange fnExactLevelsSpec)

/-- ITS FALSE NEIGHBOUR: 'it returns false'. Refute it at one input. -/
def fnExactLevelsWrong : ChangeSpec := { name := "fnExactLevels", fn := fun _ => fun
  | [d] => { results := [.lit (.bool false)], args := [d] }
  | _ => none }
def FnExactLevelsWrongFalsely : Prop := fnExactLevelsRow.holds Try.pinned (OpenSpec.ofChange fnExactLevelsWrong)

/-- 'laws.FnTexts': WHATEVER THE INPUT: true; the input reads as it did. -/
def fnTextsSpec : ChangeSpec := { name := "fnTexts", fn := fun _ => fun
  | [d] => { results := [.lit (.bool true)], args := [d] }
  | _ => none }
def fnTextsRow : OpenClaim := { program := "ytpojmcpfgllbfaa", sum := "88e69c971c66f7530a27530424c5e3864c0ee22d579bab887514da2e899b0ddc", func := "loop.example/g00073/laws.FnTexts", spec := "fnTexts", inPlace := ["internal/bytealg.IndexByteString"], apart := false }
def FnTextsSaid : Prop := fnTextsRow.holds Try.pinned (OpenSpec.ofChange fnTextsSpec)

/-- ITS FALSE NEIGHBOUR: 'it returns false'. Refute it at one input. -/
def fnTextsWrong : ChangeSpec := { name := "fnTexts", fn := fun _ => fun
  | [d] => { results := [.lit (.bool false)], args := [d] }
  | _ => none }
def FnTextsWrongFalsely : Prop := fnTextsRow.holds Try.pinned (OpenSpec.ofChange fnTextsWrong)

/-- 'laws.FnExactTips': WHATEVER THE INPUT: true; the input reads as it did. -/
def fnExactTipsSpec : ChangeSpec := { name := "fnExactTips", fn := fun _ => fun
  | [d] => { results := [.lit (.bool true)], args := [d] }
  | _ => none }
def fnExactTipsRow : OpenClaim := { program := "ytpojmcpfgllbfaa", sum := "88e69c971c66f7530a27530424c5e3864c0ee22d579bab887514da2e899b0ddc", func := "loop.example/g00073/laws.FnExactTips", spec := "fnExactTips", apart := false }
def FnExactTipsSaid : Prop := fnExactTipsRow.holds Try.pinned (OpenSpec.ofChange fnExactTipsSpec)

/-- ITS FALSE NEIGHBOUR: 'it returns false'. Refute it at one input. -/
def fnExactTipsWrong : ChangeSpec := { name := "fnExactTips", fn := fun _ => fun
  | [d] => { results := [.lit (.bool false)], args := [d] }
  | _ => none }
def FnExactTipsWrongFalsely : Prop := fnExactTipsRow.holds Try.pinned (OpenSpec.ofChange fnExactTipsWrong)

/-- 'laws.FnExactLinesOk': WHATEVER THE INPUT: true; the input reads as it did. -/
def fnExactLinesOkSpec : ChangeSpec := { name := "fnExactLinesOk", fn := fun _ => fun
  | [d] => { results := [.lit (.bool true)], args := [d] }
  | _ => none }
def fnExactLinesOkRow : OpenClaim := { program := "ytpojmcpfgllbfaa", sum := "88e69c971c66f7530a27530424c5e3864c0ee22d579bab887514da2e899b0ddc", func := "loop.example/g00073/laws.FnExactLinesOk", spec := "fnExactLinesOk", inPlace := ["internal/bytealg.IndexByteString", "internal/bytealg.IndexString"], named := ["internal/bytealg.MaxLen"], apart := false }
def FnExactLinesOkSaid : Prop := fnExactLinesOkRow.holds Try.pinned (OpenSpec.ofChange fnExactLinesOkSpec)

/-- ITS FALSE NEIGHBOUR: 'it returns false'. Refute it at one input. -/
def fnExactLinesOkWrong : ChangeSpec := { name := "fnExactLinesOk", fn := fun _ => fun
  | [d] => { results := [.lit (.bool false)], args := [d] }
  | _ => none }
def FnExactLinesOkWrongFalsely : Prop := fnExactLinesOkRow.holds Try.pinned (OpenSpec.ofChange fnExactLinesOkWrong)

/-- 'laws.FnExactEditsOk': WHATEVER THE INPUT: true; the input reads as it did. -/
def fnExactEditsOkSpec : ChangeSpec := { name := "fnExactEditsOk", fn := fun _ => fun
  | [d] => { results := [.lit (.bool true)], args := [d] }
  | _ => none }
def fnExactEditsOkRow : OpenClaim := { program := "ytpojmcpfgllbfaa", sum := "88e69c971c66f7530a27530424c5e3864c0ee22d579bab887514da2e899b0ddc", func := "loop.example/g00073/laws.FnExactEditsOk", spec := "fnExactEditsOk", inPlace := ["internal/bytealg.IndexByteString", "internal/bytealg.IndexString"], named := ["internal/bytealg.MaxLen"], apart := false }
def FnExactEditsOkSaid : Prop := fnExactEditsOkRow.holds Try.pinned (OpenSpec.ofChange fnExactEditsOkSpec)

/-- ITS FALSE NEIGHBOUR: 'it returns false'. Refute it at one input. -/
def fnExactEditsOkWrong : ChangeSpec := { name := "fnExactEditsOk", fn := fun _ => fun
  | [d] => { results := [.lit (.bool false)], args := [d] }
  | _ => none }
def FnExactEditsOkWrongFalsely : Prop := fnExactEditsOkRow.holds Try.pinned (OpenSpec.ofChange fnExactEditsOkWrong)

/-- 'laws.FnExactLcsLen': WHATEVER THE INPUT: true; the input reads as it did. -/
def fnExactLcsLenSpec : ChangeSpec := { name := "fnExactLcsLen", fn := fun _ => fun
  | [d1, d2] => { results := [.lit (.bool true)], args := [d1, d2] }
  | _ => none }
def fnExactLcsLenRow : OpenClaim := { program := "ytpojmcpfgllbfaa", sum := "88e69c971c66f7530a27530424c5e3864c0ee22d579bab887514da2e899b0ddc", func := "loop.example/g00073/laws.FnExactLcsLen", spec := "fnExactLcsLen", inPlace := ["internal/bytealg.IndexByteString", "internal/bytealg.IndexString"], named := ["internal/bytealg.MaxLen"], apart := false }
def FnExactLcsLenSaid : Prop := fnExactLcsLenRow.holds Try.pinned (OpenSpec.ofChange fnExactLcsLenSpec)

/-- ITS FALSE NEIGHBOUR: 'it returns false'. Refute it at one input. -/
def fnExactLcsLenWrong : ChangeSpec := { name := "fnExactLcsLen", fn := fun _ => fun
  | [d1, d2] => { results := [.lit (.bool false)], args := [d1, d2] }
  | _ => none }
def FnExactLcsLenWrongFalsely : Prop := fnExactLcsLenRow.holds Try.pinned (OpenSpec.ofChange fnExactLcsLenWrong)

/-- 'laws.FnExactJoinLines': WHATEVER THE INPUT: true; the input reads as it did. -/
def fnExactJoinLinesSpec : ChangeSpec := { name := "fnExactJoinLines", fn := fun _ => fun
  | [d] => { results := [.lit (.bool true)], args := [d] }
  | _ => none }
def fnExactJoinLinesRow : OpenClaim := { program := "ytpojmcpfgllbfaa", sum := "88e69c971c66f7530a27530424c5e3864c0ee22d579bab887514da2e899b0ddc", func := "loop.example/g00073/laws.FnExactJoinLines", spec := "fnExactJoinLines", inPlace := ["internal/bytealg.IndexByteString", "internal/bytealg.IndexString", "internal/abi.NoEscape"], named := ["internal/bytealg.MaxLen"], apart := false }
def FnExactJoinLinesSaid : Prop := fnExactJoinLinesRow.holds Try.pinned (OpenSpec.ofChange fnExactJoinLinesSpec)

/-- ITS FALSE NEIGHBOUR: 'it returns false'. Refute it at one input. -/
def fnExactJoinLinesWrong : ChangeSpec := { name := "fnExactJoinLines", fn := fun _ => fun
  | [d] => { results := [.lit (.bool false)], args := [d] }
  | _ => none }
def FnExactJoinLinesWrongFalsely : Prop := fnExactJoinLinesRow.holds Try.pinned (OpenSpec.ofChange fnExactJoinLinesWrong)

/-- 'laws.FnExactDistance': WHATEVER THE INPUT: true; the input reads as it did. -/
def fnExactDistanceSpec : ChangeSpec := { name := "fnExactDistance", fn := fun _ => fun
  | [d1, d2] => { results := [.lit (.bool true)], args := [d1, d2] }
  | _ => none }
def fnExactDistanceRow : OpenClaim := { program := "ytpojmcpfgllbfaa", sum := "88e69c971c66f7530a27530424c5e3864c0ee22d579bab887514da2e899b0ddc", func := "loop.example/g00073/laws.FnExactDistance", spec := "fnExactDistance", inPlace := ["internal/bytealg.IndexByteString", "internal/bytealg.IndexString"], named := ["internal/bytealg.MaxLen"], apart := false }
def FnExactDistanceSaid : Prop := fnExactDistanceRow.holds Try.pinned (OpenSpec.ofChange fnExactDistanceSpec)

/-- ITS FALSE NEIGHBOUR: 'it returns false'. Refute it at one input. -/
def fnExactDistanceWrong : ChangeSpec := { name := "fnExactDistance", fn := fun _ => fun
  | [d1, d2] => { results := [.lit (.bool false)], args := [d1, d2] }
  | _ => none }
def FnExactDistanceWrongFalsely : Prop := fnExactDistanceRow.holds Try.pinned (OpenSpec.ofChange fnExactDistanceWrong)

/- THE SECOND FORM. 'bulk': how many values and letters a reading holds, each counted each time it is reached (what is shared counts as often as it is met; a slice's spare places count too). A statement '..UptoSaid' is the law's where the arguments, and the package variables that the reading takes, are together of bulk at most 1048576: NARROWER than '..Said'. Prove '..Said' where nothing that the law and all that it calls make is longer than what came in: it says more and counts as full. Else prove '..UptoSaid'. A law counts once. -/
mutual
def uptoBulk {H : Type} : DataW H → Nat
  | .lit (.string bytes) => bytes.length + 1
  | .lit _ => 1
  | .nil => 1
  | .ptr d => uptoBulk d + 1
  | .slice elems spare => uptoBulkAll elems + uptoBulkAll spare + 1
  | .agg parts => uptoBulkAll parts + 1
  | .iface _ d => uptoBulk d + 1
  | .map entries => uptoBulkEntries entries + 1
  | .held _ => 1
def uptoBulkAll {H : Type} : List (DataW H) → Nat
  | [] => 0
  | d :: r => uptoBulk d + uptoBulkAll r
def uptoBulkEntries {H : Type} : List (Lit × DataW H) → Nat
  | [] => 0
  | x :: r => uptoBulkEntry x + uptoBulkEntries r
def uptoBulkEntry {H : Type} : Lit × DataW H → Nat
  | (.string bytes, d) => bytes.length + uptoBulk d + 1
  | (_, d) => uptoBulk d + 1
 end
def uptoSmall : (H : Type) → List (DataW H) → Bool := fun _ ds => decide (uptoBulkAll ds ≤ 1048576)
def OpenSpec.upto (s : _root_.Go.ChangeSpec) : _root_.Go.OpenSpec := { _root_.Go.OpenSpec.ofChange s with cond := some uptoSmall }

/-- 'laws.FnTurned', WHERE WHAT IT READS IS OF BULK AT MOST 1048576: true; the input reads as it did. -/
def fnTurnedUptoRow : OpenClaim := { program := "ytpojmcpfgllbfaa", sum := "88e69c971c66f7530a27530424c5e3864c0ee22d579bab887514da2e899b0ddc", func := "loop.example/g00073/laws.FnTurned", spec := "fnTurned", apart := false, narrowed := true }
def FnTurnedUptoSaid : Prop := fnTurnedUptoRow.holds Try.pinned (OpenSpec.upto fnTurnedSpec)

/-- 'laws.FnExactGraphOk', WHERE WHAT IT READS IS OF BULK AT MOST 1048576: true; the input reads as it did. -/
def fnExactGraphOkUptoRow : OpenClaim := { program := "ytpojmcpfgllbfaa", sum := "88e69c971c66f7530a27530424c5e3864c0ee22d579bab887514da2e899b0ddc", func := "loop.example/g00073/laws.FnExactGraphOk", spec := "fnExactGraphOk", apart := false, narrowed := true }
def FnExactGraphOkUptoSaid : Prop := fnExactGraphOkUptoRow.holds Try.pinned (OpenSpec.upto fnExactGraphOkSpec)

/-- 'laws.FnExactLineOk', WHERE WHAT IT READS IS OF BULK AT MOST 1048576: true; the input reads as it did. -/
def fnExactLineOkUptoRow : OpenClaim := { program := "ytpojmcpfgllbfaa", sum := "88e69c971c66f7530a27530424c5e3864c0ee22d579bab887514da2e899b0ddc", func := "loop.example/g00073/laws.FnExactLineOk", spec := "fnExactLineOk", inPlace := ["internal/bytealg.IndexByteString", "internal/bytealg.IndexString"], named := ["internal/bytealg.MaxLen"], apart := false, narrowed := true }
def FnExactLineOkUptoSaid : Prop := fnExactLineOkUptoRow.holds Try.pinned (OpenSpec.upto fnExactLineOkSpec)

/-- 'laws.FnExactIsAncestor', WHERE WHAT IT READS IS OF BULK AT MOST 1048576: true; the input reads as it did. -/
def fnExactIsAncestorUptoRow : OpenClaim := { program := "ytpojmcpfgllbfaa", sum := "88e69c971c66f7530a27530424c5e3864c0ee22d579bab887514da2e899b0ddc", func := "loop.example/g00073/laws.FnExactIsAncestor", spec := "fnExactIsAncestor", apart := false, narrowed := true }
def FnExactIsAncestorUptoSaid : Prop := fnExactIsAncestorUptoRow.holds Try.pinned (OpenSpec.upto fnExactIsAncestorSpec)

/-- 'laws.FnExactLevels', WHERE WHAT IT READS IS OF BULK AT MOST 1048576: true; the input reads as it did. -/
def fnExactLevelsUptoRow : OpenClaim := { program := "ytpojmcpfgllbfaa", sum := "88e69c971c66f7530a27530424c5e3864c0ee22d579bab887514da2e899b0ddc", func := "loop.example/g00073/laws.FnExactLevels", spec := "fnExactLevels", apart := false, narrowed := true }
def FnExactLevelsUptoSaid : Prop := fnExactLevelsUptoRow.holds Try.pinned (OpenSpec.upto fnExactLevelsSpec)

/-- 'laws.FnTexts', WHERE WHAT IT READS IS OF BULK AT MOST 1048576: true; the input reads as it did. -/
def fnTextsUptoRow : OpenClaim := { program := "ytpojmcpfgllbfaa", sum := "88e69c971c66f7530a27530424c5e3864c0ee22d579bab887514da2e899b0ddc", func := "loop.example/g00073/laws.FnTexts", spec := "fnTexts", inPlace := ["internal/bytealg.IndexByteString"], apart := false, narrowed := true }
def FnTextsUptoSaid : Prop := fnTextsUptoRow.holds Try.pinned (OpenSpec.upto fnTextsSpec)

/-- 'laws.FnExactTips', WHERE WHAT IT READS IS OF BULK AT MOST 1048576: true; the input reads as it did. -/
def fnExactTipsUptoRow : OpenClaim := { program := "ytpojmcpfgllbfaa", sum := "88e69c971c66f7530a27530424c5e3864c0ee22d579bab887514da2e899b0ddc", func := "loop.example/g00073/laws.FnExactTips", spec := "fnExactTips", apart := false, narrowed := true }
def FnExactTipsUptoSaid : Prop := fnExactTipsUptoRow.holds Try.pinned (OpenSpec.upto fnExactTipsSpec)

/-- 'laws.FnExactLinesOk', WHERE WHAT IT READS IS OF BULK AT MOST 1048576: true; the input reads as it did. -/
def fnExactLinesOkUptoRow : OpenClaim := { program := "ytpojmcpfgllbfaa", sum := "88e69c971c66f7530a27530424c5e3864c0ee22d579bab887514da2e899b0ddc", func := "loop.example/g00073/laws.FnExactLinesOk", spec := "fnExactLinesOk", inPlace := ["internal/bytealg.IndexByteString", "internal/bytealg.IndexString"], named := ["internal/bytealg.MaxLen"], apart := false, narrowed := true }
def FnExactLinesOkUptoSaid : Prop := fnExactLinesOkUptoRow.holds Try.pinned (OpenSpec.upto fnExactLinesOkSpec)

/-- 'laws.FnExactEditsOk', WHERE WHAT IT READS IS OF BULK AT MOST 1048576: true; the input reads as it did. -/
def fnExactEditsOkUptoRow : OpenClaim := { program := "ytpojmcpfgllbfaa", sum := "88e69c971c66f7530a27530424c5e3864c0ee22d579bab887514da2e899b0ddc", func := "loop.example/g00073/laws.FnExactEditsOk", spec := "fnExactEditsOk", inPlace := ["internal/bytealg.IndexByteString", "internal/bytealg.IndexString"], named := ["internal/bytealg.MaxLen"], apart := false, narrowed := true }
def FnExactEditsOkUptoSaid : Prop := fnExactEditsOkUptoRow.holds Try.pinned (OpenSpec.upto fnExactEditsOkSpec)

/-- 'laws.FnExactLcsLen', WHERE WHAT IT READS IS OF BULK AT MOST 1048576: true; the input reads as it did. -/
def fnExactLcsLenUptoRow : OpenClaim := { program := "ytpojmcpfgllbfaa", sum := "88e69c971c66f7530a27530424c5e3864c0ee22d579bab887514da2e899b0ddc", func := "loop.example/g00073/laws.FnExactLcsLen", spec := "fnExactLcsLen", inPlace := ["internal/bytealg.IndexByteString", "internal/bytealg.IndexString"], named := ["internal/bytealg.MaxLen"], apart := false, narrowed := true }
def FnExactLcsLenUptoSaid : Prop := fnExactLcsLenUptoRow.holds Try.pinned (OpenSpec.upto fnExactLcsLenSpec)

/-- 'laws.FnExactJoinLines', WHERE WHAT IT READS IS OF BULK AT MOST 1048576: true; the input reads as it did. -/
def fnExactJoinLinesUptoRow : OpenClaim := { program := "ytpojmcpfgllbfaa", sum := "88e69c971c66f7530a27530424c5e3864c0ee22d579bab887514da2e899b0ddc", func := "loop.example/g00073/laws.FnExactJoinLines", spec := "fnExactJoinLines", inPlace := ["internal/bytealg.IndexByteString", "internal/bytealg.IndexString", "internal/abi.NoEscape"], named := ["internal/bytealg.MaxLen"], apart := false, narrowed := true }
def FnExactJoinLinesUptoSaid : Prop := fnExactJoinLinesUptoRow.holds Try.pinned (OpenSpec.upto fnExactJoinLinesSpec)

/-- 'laws.FnExactDistance', WHERE WHAT IT READS IS OF BULK AT MOST 1048576: true; the input reads as it did. -/
def fnExactDistanceUptoRow : OpenClaim := { program := "ytpojmcpfgllbfaa", sum := "88e69c971c66f7530a27530424c5e3864c0ee22d579bab887514da2e899b0ddc", func := "loop.example/g00073/laws.FnExactDistance", spec := "fnExactDistance", inPlace := ["internal/bytealg.IndexByteString", "internal/bytealg.IndexString"], named := ["internal/bytealg.MaxLen"], apart := false, narrowed := true }
def FnExactDistanceUptoSaid : Prop := fnExactDistanceUptoRow.holds Try.pinned (OpenSpec.upto fnExactDistanceSpec)

end Rows
end Go.Proofs.Ytpojmcpfgllbfaa
