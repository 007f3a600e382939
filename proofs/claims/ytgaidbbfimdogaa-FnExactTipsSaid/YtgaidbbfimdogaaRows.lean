/-
  No cell of these rows narrows 'for every input' (looked for: loops, veiled, ifaces, maps, wideKeys, modest, calm, conditions, laid).
  DERIVED. THE GIVEN ROWS OF THIS SEAT. 5 by the template 'for every input the law returns true; each argument reads behind the call as it read before'; 0 by the template 'total and deterministic' (their statements: YtgaidbbfimdogaaTotals.lean).
  GIVEN WITH THE SEED: the statements are not yours to turn. If you find one false, say at which input.
  Laid BY PROGRAM, IN A SANDBOX (cutbox-rows.mjs): the forced cells as the released guide's own fill.sh prints them over the translation ad48aa5aee7e352a… (all of the seat's roots in one cut). By AI agents, Wed Nov 11 2026. No macro, syntax, notation, axiom, sorry.
-/
import Derived.Test.YtgaidbbfimdogaaChecked
import GoSem.Claim
import GoSem.ClaimJoined
import GoSem.ClaimMapViews
import Derived.JoinedTies
import Derived.KernelRfl
namespace Go.Proofs.Ytgaidbbfimdogaa
/- THE CELL 'sum', in the pinned program and in every row, IS THE sha256 OF THE DUMP (.gsa) THAT YtgaidbbfimdogaaProg.lean LOADS. Nothing in Lean hashes anything: it is a label: what it is worth is what the hold of that sum in a sandbox is worth. -/
noncomputable def Try.pinned : Pinned := { name := "ytgaidbbfimdogaa", sum := "ad48aa5aee7e352a59bd1eb6e5dab59d11de2a5e47c0f3da3e670a0b5a56b92c", checked := Try.checked }
namespace Rows
def none {H : Type} : Left H := { results := [], args := [] }

/-- 'laws.FnTexts': WHATEVER THE INPUT: true; the input reads as it did. -/
def fnTextsSpec : ChangeSpec := { name := "fnTexts", fn := fun _ => fun
  | [d] => { results := [.lit (.bool true)], args := [d] }
  | _ => none }
def fnTextsRow : OpenClaim := { program := "ytgaidbbfimdogaa", sum := "ad48aa5aee7e352a59bd1eb6e5dab59d11de2a5e47c0f3da3e670a0b5a56b92c", func := "loop.example/g00073/laws.FnTexts", spec := "fnTexts", inPlace := ["internal/bytealg.IndexByteString"], apart := false }
def FnTextsSaid : Prop := fnTextsRow.holds Try.pinned (OpenSpec.ofChange fnTextsSpec)

/-- ITS FALSE NEIGHBOUR: 'it returns false'. Refute it at one input. -/
def fnTextsWrong : ChangeSpec := { name := "fnTexts", fn := fun _ => fun
  | [d] => { results := [.lit (.bool false)], args := [d] }
  | _ => none }
def FnTextsWrongFalsely : Prop := fnTextsRow.holds Try.pinned (OpenSpec.ofChange fnTextsWrong)

/-- 'laws.FnTurned': WHATEVER THE INPUT: true; the input reads as it did. -/
def fnTurnedSpec : ChangeSpec := { name := "fnTurned", fn := fun _ => fun
  | [d] => { results := [.lit (.bool true)], args := [d] }
  | _ => none }
def fnTurnedRow : OpenClaim := { program := "ytgaidbbfimdogaa", sum := "ad48aa5aee7e352a59bd1eb6e5dab59d11de2a5e47c0f3da3e670a0b5a56b92c", func := "loop.example/g00073/laws.FnTurned", spec := "fnTurned", apart := false }
def FnTurnedSaid : Prop := fnTurnedRow.holds Try.pinned (OpenSpec.ofChange fnTurnedSpec)

/-- ITS FALSE NEIGHBOUR: 'it returns false'. Refute it at one input. -/
def fnTurnedWrong : ChangeSpec := { name := "fnTurned", fn := fun _ => fun
  | [d] => { results := [.lit (.bool false)], args := [d] }
  | _ => none }
def FnTurnedWrongFalsely : Prop := fnTurnedRow.holds Try.pinned (OpenSpec.ofChange fnTurnedWrong)

/-- 'laws.FnExactLevels': WHATEVER THE INPUT: true; the input reads as it did. -/
def fnExactLevelsSpec : ChangeSpec := { name := "fnExactLevels", fn := fun _ => fun
  | [d] => { results := [.lit (.bool true)], args := [d] }
  | _ => none }
def fnExactLevelsRow : OpenClaim := { program := "ytgaidbbfimdogaa", sum := "ad48aa5aee7e352a59bd1eb6e5dab59d11de2a5e47c0f3da3e670a0b5a56b92c", func := "loop.example/g00073/laws.FnExactLevels", spec := "fnExactLevels", apart := false }
def FnExactLevelsSaid : Prop := fnExactLevelsRow.holds Try.pinned (OpenSpec.ofChange fnExactLevelsSpec)

/-- ITS FALSE NEIGHBOUR: 'it returns false'. Refute it at one input. -/
def fnExactLevelsWrong : ChangeSpec := { name := "fnExactLevels", fn := fun _ => fun
  | [d] => { results := [.lit (.bool false)], args := [d] }
  | _ => none }
def FnExactLevelsWrongFalsely : Prop := fnExactLevelsRow.holds Try.pinned (OpenSpec.ofChange fnExactLevelsWrong)

/-- 'laws.FnExactTips': WHATEVER THE INPUT: true; the input reads as it did. -/
def fnExactTipsSpec : ChangeSpec := { name := "fnExactTips", fn := fun _ => fun
  | [d] => { results := [.lit (.bool true)], args := [d] }
  | _ => none }
def fnExactTipsRow : OpenClaim := { program := "ytgaidbbfimdogaa", sum := "ad48aa5aee7e352a59bd1eb6e5dab59d11de2a5e47c0f3da3e670a0b5a56b92c", func := "loop.example/g00073/laws.FnExactTips", spec := "fnExactTips", apart := false }
def FnExactTipsSaid : Prop := fnExactTipsRow.holds Try.pinned (OpenSpec.ofChange fnExactTipsSpec)

/-- ITS FALSE NEIGHBOUR: 'it returns false'. Refute it at one input. -/
def fnExactTipsWrong : ChangeSpec := { name := "fnExactTips", fn := fun _ => fun
  | [d] => { results := [.lit (.bool false)], args := [d] }
  | _ => none }
def FnExactTipsWrongFalsely : Prop := fnExactTipsRow.holds Try.pinned (OpenSpec.ofChange fnExactTipsWrong)

/-- 'laws.FnExactJoinLines': WHATEVER THE INPUT: true; the input reads as it did. -/
def fnExactJoinLinesSpec : ChangeSpec := { name := "fnExactJoinLines", fn := fun _ => fun
  | [d] => { results := [.lit (.bool true)], args := [d] }
  | _ => none }
def fnExactJoinLinesRow : OpenClaim := { program := "ytgaidbbfimdogaa", sum := "ad48aa5aee7e352a59bd1eb6e5dab59d11de2a5e47c0f3da3e670a0b5a56b92c", func := "loop.example/g00073/laws.FnExactJoinLines", spec := "fnExactJoinLines", inPlace := ["internal/bytealg.IndexByteString", "internal/bytealg.IndexString", "internal/abi.NoEscape"], named := ["internal/bytealg.MaxLen"], apart := false }
def FnExactJoinLinesSaid : Prop := fnExactJoinLinesRow.holds Try.pinned (OpenSpec.ofChange fnExactJoinLinesSpec)

/-- ITS FALSE NEIGHBOUR: 'it returns false'. Refute it at one input. -/
def fnExactJoinLinesWrong : ChangeSpec := { name := "fnExactJoinLines", fn := fun _ => fun
  | [d] => { results := [.lit (.bool false)], args := [d] }
  | _ => none }
def FnExactJoinLinesWrongFalsely : Prop := fnExactJoinLinesRow.holds Try.pinned (OpenSpec.ofChange fnExactJoinLinesWrong)

/- THE SECOND FORM. 'bulk': how many values and letters a reading holds, each counted each time it is reached (what is shared counts as often as it is met; a slice's spare places count too). A statement '..UptoSaid' is the law's where the arguments, and the package variables that the reading takes, are together of bulk at most 1048576: NARROWER than '..Said'. Prove '..Said' where nothing that the law and all that it calls make is longer than what came in: it says more and counts as full. Else prove '..UptoSaid'. A law counts once. -/
mutual
def uptoBulk {H : Type} : DataW H → Nat
  | .lit (.string bytes) => bytes.length + 1
  | .lit _ => 1
  | .nil => 1
  | .ptr d => uptoBulk d + 1
  | .slice elems spare => uptoBulkAll elems + uptoBulkAll spare + 1
  | .agg parts => uptoBulkAll parts + 1
  | .iface _ d => uptoBulk d + 1
  | .map entries => uptoBulkEntries entries + 1
  | .held _ => 1
def uptoBulkAll {H : Type} : List (DataW H) → Nat
  | [] => 0
  | d :: r => uptoBulk d + uptoBulkAll r
def uptoBulkEntries {H : Type} : List (Lit × DataW H) → Nat
  | [] => 0
  | x :: r => uptoBulkEntry x + uptoBulkEntries r
def uptoBulkEntry {H : Type} : Lit × DataW H → Nat
  | (.string bytes, d) => bytes.length + uptoBulk d + 1
  | (_, d) => uptoBulk d + 1
 end
def uptoSmall : (H : Type) → List (DataW H) → Bool := fun _ ds => decide (uptoBulkAll ds ≤ 1048576)
def OpenSpec.upto (s : _root_.Go.ChangeSpec) : _root_.Go.OpenSpec := { _root_.Go.OpenSpec.ofChange s with cond := some uptoSmall }

/-- 'laws.FnTexts', WHERE WHAT IT READS IS OF BULK AT MOST 1048576: true; the input reads as it did. -/
def fnTextsUptoRow : OpenClaim := { program := "ytgaidbbfimdogaa", sum := "ad48aa5aee7e352a59bd1eb6e5dab59d11de2a5e47c0f3da3e670a0b5a56b92c", func := "loop.example/g00073/laws.FnTexts", spec := "fnTexts", inPlace := ["internal/bytealg.IndexByteString"], apart := false, narrowed := true }
def FnTextsUptoSaid : Prop := fnTextsUptoRow.holds Try.pinned (OpenSpec.upto fnTextsSpec)

/-- 'laws.FnTurned', WHERE WHAT IT READS IS OF BULK AT MOST 1048576: true; the input reads as it did. -/
def fnTurnedUptoRow : OpenClaim := { program := "ytgaidbbfimdogaa", sum := "ad48aa5aee7e352a59bd1eb6e5dab59d11de2a5e47c0f3da3e670a0b5a56b92c", func := "loop.example/g00073/laws.FnTurned", spec := "fnTurned", apart := false, narrowed := true }
def FnTurnedUptoSaid : Prop := fnTurnedUptoRow.holds Try.pinned (OpenSpec.upto fnTurnedSpec)

/-- 'laws.FnExactLevels', WHERE WHAT IT READS IS OF BULK AT MOST 1048576: true; the input reads as it did. -/
def fnExactLevelsUptoRow : OpenClaim := { program := "ytgaidbbfimdogaa", sum := "ad48aa5aee7e352a59bd1eb6e5dab59d11de2a5e47c0f3da3e670a0b5a56b92c", func := "loop.example/g00073/laws.FnExactLevels", spec := "fnExactLevels", apart := false, narrowed := true }
def FnExactLevelsUptoSaid : Prop := fnExactLevelsUptoRow.holds Try.pinned (OpenSpec.upto fnExactLevelsSpec)

/-- 'laws.FnExactTips', WHERE WHAT IT READS IS OF BULK AT MOST 1048576: true; the input reads as it did. -/
def fnExactTipsUptoRow : OpenClaim := { program := "ytgaidbbfimdogaa", sum := "ad48aa5aee7e352a59bd1eb6e5dab59d11de2a5e47c0f3da3e670a0b5a56b92c", func := "loop.example/g00073/laws.FnExactTips", spec := "fnExactTips", apart := false, narrowed := true }
def FnExactTipsUptoSaid : Prop := fnExactTipsUptoRow.holds Try.pinned (OpenSpec.upto fnExactTipsSpec)

/-- 'laws.FnExactJoinLines', WHERE WHAT IT READS IS OF BULK AT MOST 1048576: true; the input reads as it did. -/
def fnExactJoinLinesUptoRow : OpenClaim := { program := "ytgaidbbfimdogaa", sum := "ad48aa5aee7e352a59bd1eb6e5dab59d11de2a5e47c0f3da3e670a0b5a56b92c", func := "loop.example/g00073/laws.FnExactJoinLines", spec := "fnExactJoinLines", inPlace := ["internal/bytealg.IndexByteString", "internal/bytealg.IndexString", "internal/abi.NoEscape"], named := ["internal/bytealg.MaxLen"], apart := false, narrowed := true }
def FnExactJoinLinesUptoSaid : Prop := fnExactJoinLinesUptoRow.holds Try.pinned (OpenSpec.upto fnExactJoinLinesSpec)

end Rows
end Go.Proofs.Ytgaidbbfimdogaa
