/-
  No cell of these rows narrows 'for every input' (looked for: loops, veiled, ifaces, maps, wideKeys, modest, calm, conditions, laid).
  DERIVED. THE GIVEN ROWS OF THIS SEAT. 12 by the template 'for every input the law returns true; each argument reads behind the call as it read before'; 0 by the template 'total and deterministic' (their statements: YtgojhlbhfmgkjaaTotals.lean).
  GIVEN WITH THE SEED: the statements are not yours to turn. If you find one false, say at which input.
  Laid BY PROGRAM, IN A SANDBOX (cutbox-rows.mjs): the forced cells as the released guide's own fill.sh prints them over the translation 01c00f0280e0659a… (all of the seat's roots in one cut). By AI agents, Wed Nov 11 2026. No macro, syntax, notation, axiom, sorry.
-/
import Derived.Test.YtgojhlbhfmgkjaaChecked
import GoSem.Claim
import GoSem.ClaimJoined
import GoSem.ClaimMapViews
import Derived.JoinedTies
import Derived.KernelRfl
namespace Go.Proofs.Ytgojhlbhfmgkjaa
/- THE CELL 'sum', in the pinned program and in every row, IS THE sha256 OF THE DUMP (.gsa) THAT YtgojhlbhfmgkjaaProg.lean LOADS. Nothing in Lean hashes anything: it is a label: what it is worth is what the hold of that sum in a sandbox is worth. -/
noncomputable def Try.pinned : Pinned := { name := "ytgojhlbhfmgkjaa", sum := "01c00f0280e0659a143462175b5744d3248da0dbc899ed34fcf80b0dca5ae045", checked := Try.checked }
namespace Rows
def none {H : Type} : Left H := { results := [], args := [] }

/-- 'laws.FnExactConstants': WHATEVER THE INPUT: true; the input reads as it did. -/
def fnExactConstantsSpec : ChangeSpec := { name := "fnExactConstants", fn := fun _ => fun
  | [] => { results := [.lit (.bool true)], args := [] }
  | _ => none }
def fnExactConstantsRow : OpenClaim := { program := "ytgojhlbhfmgkjaa", sum := "01c00f0280e0659a143462175b5744d3248da0dbc899ed34fcf80b0dca5ae045", func := "loop.example/g00114/laws.FnExactConstants", spec := "fnExactConstants", apart := false }
def FnExactConstantsSaid : Prop := fnExactConstantsRow.holds Try.pinned (OpenSpec.ofChange fnExactConstantsSpec)

/-- ITS FALSE NEIGHBOUR: 'it returns false'. Refute it at one input. -/
def fnExactConstantsWrong : ChangeSpec := { name := "fnExactConstants", fn := fun _ => fun
  | [] => { results := [.lit (.bool false)], args := [] }
  | _ => none }
def FnExactConstantsWrongFalsely : Prop := fnExactConstantsRow.holds Try.pinned (OpenSpec.ofChange fnExactConstantsWrong)

/-- 'laws.FnExactZig': WHATEVER THE INPUT: true; the input reads as it did. -/
def fnExactZigSpec : ChangeSpec := { name := "fnExactZig", fn := fun _ => fun
  | [d] => { results := [.lit (.bool true)], args := [d] }
  | _ => none }
def fnExactZigRow : OpenClaim := { program := "ytgojhlbhfmgkjaa", sum := "01c00f0280e0659a143462175b5744d3248da0dbc899ed34fcf80b0dca5ae045", func := "loop.example/g00114/laws.FnExactZig", spec := "fnExactZig", apart := false }
def FnExactZigSaid : Prop := fnExactZigRow.holds Try.pinned (OpenSpec.ofChange fnExactZigSpec)

/-- ITS FALSE NEIGHBOUR: 'it returns false'. Refute it at one input. -/
def fnExactZigWrong : ChangeSpec := { name := "fnExactZig", fn := fun _ => fun
  | [d] => { results := [.lit (.bool false)], args := [d] }
  | _ => none }
def FnExactZigWrongFalsely : Prop := fnExactZigRow.holds Try.pinned (OpenSpec.ofChange fnExactZigWrong)

/-- 'laws.FnExactTypeOk': WHATEVER THE INPUT: true; the input reads as it did. -/
def fnExactTypeOkSpec : ChangeSpec := { name := "fnExactTypeOk", fn := fun _ => fun
  | [d] => { results := [.lit (.bool true)], args := [d] }
  | _ => none }
def fnExactTypeOkRow : OpenClaim := { program := "ytgojhlbhfmgkjaa", sum := "01c00f0280e0659a143462175b5744d3248da0dbc899ed34fcf80b0dca5ae045", func := "loop.example/g00114/laws.FnExactTypeOk", spec := "fnExactTypeOk", apart := false }
def FnExactTypeOkSaid : Prop := fnExactTypeOkRow.holds Try.pinned (OpenSpec.ofChange fnExactTypeOkSpec)

/-- ITS FALSE NEIGHBOUR: 'it returns false'. Refute it at one input. -/
def fnExactTypeOkWrong : ChangeSpec := { name := "fnExactTypeOk", fn := fun _ => fun
  | [d] => { results := [.lit (.bool false)], args := [d] }
  | _ => none }
def FnExactTypeOkWrongFalsely : Prop := fnExactTypeOkRow.holds Try.pinned (OpenSpec.ofChange fnExactTypeOkWrong)

/-- 'laws.FnExactFloatKey': WHATEVER THE INPUT: true; the input reads as it did. -/
def fnExactFloatKeySpec : ChangeSpec := { name := "fnExactFloatKey", fn := fun _ => fun
  | [d] => { results := [.lit (.bool true)], args := [d] }
  | _ => none }
def fnExactFloatKeyRow : OpenClaim := { program := "ytgojhlbhfmgkjaa", sum := "01c00f0280e0659a143462175b5744d3248da0dbc899ed34fcf80b0dca5ae045", func := "loop.example/g00114/laws.FnExactFloatKey", spec := "fnExactFloatKey", apart := false }
def FnExactFloatKeySaid : Prop := fnExactFloatKeyRow.holds Try.pinned (OpenSpec.ofChange fnExactFloatKeySpec)

/-- ITS FALSE NEIGHBOUR: 'it returns false'. Refute it at one input. -/
def fnExactFloatKeyWrong : ChangeSpec := { name := "fnExactFloatKey", fn := fun _ => fun
  | [d] => { results := [.lit (.bool false)], args := [d] }
  | _ => none }
def FnExactFloatKeyWrongFalsely : Prop := fnExactFloatKeyRow.holds Try.pinned (OpenSpec.ofChange fnExactFloatKeyWrong)

/-- 'laws.FnExactZag': WHATEVER THE INPUT: true; the input reads as it did. -/
def fnExactZagSpec : ChangeSpec := { name := "fnExactZag", fn := fun _ => fun
  | [d] => { results := [.lit (.bool true)], args := [d] }
  | _ => none }
def fnExactZagRow : OpenClaim := { program := "ytgojhlbhfmgkjaa", sum := "01c00f0280e0659a143462175b5744d3248da0dbc899ed34fcf80b0dca5ae045", func := "loop.example/g00114/laws.FnExactZag", spec := "fnExactZag", apart := false }
def FnExactZagSaid : Prop := fnExactZagRow.holds Try.pinned (OpenSpec.ofChange fnExactZagSpec)

/-- ITS FALSE NEIGHBOUR: 'it returns false'. Refute it at one input. -/
def fnExactZagWrong : ChangeSpec := { name := "fnExactZag", fn := fun _ => fun
  | [d] => { results := [.lit (.bool false)], args := [d] }
  | _ => none }
def FnExactZagWrongFalsely : Prop := fnExactZagRow.holds Try.pinned (OpenSpec.ofChange fnExactZagWrong)

/-- 'laws.FnExactBitsSize': WHATEVER THE INPUT: true; the input reads as it did. -/
def fnExactBitsSizeSpec : ChangeSpec := { name := "fnExactBitsSize", fn := fun _ => fun
  | [d1, d2] => { results := [.lit (.bool true)], args := [d1, d2] }
  | _ => none }
def fnExactBitsSizeRow : OpenClaim := { program := "ytgojhlbhfmgkjaa", sum := "01c00f0280e0659a143462175b5744d3248da0dbc899ed34fcf80b0dca5ae045", func := "loop.example/g00114/laws.FnExactBitsSize", spec := "fnExactBitsSize", apart := false }
def FnExactBitsSizeSaid : Prop := fnExactBitsSizeRow.holds Try.pinned (OpenSpec.ofChange fnExactBitsSizeSpec)

/-- ITS FALSE NEIGHBOUR: 'it returns false'. Refute it at one input. -/
def fnExactBitsSizeWrong : ChangeSpec := { name := "fnExactBitsSize", fn := fun _ => fun
  | [d1, d2] => { results := [.lit (.bool false)], args := [d1, d2] }
  | _ => none }
def FnExactBitsSizeWrongFalsely : Prop := fnExactBitsSizeRow.holds Try.pinned (OpenSpec.ofChange fnExactBitsSizeWrong)

/-- 'laws.FnExactValSame': WHATEVER THE INPUT: true; the input reads as it did. -/
def fnExactValSameSpec : ChangeSpec := { name := "fnExactValSame", fn := fun _ => fun
  | [d1, d2] => { results := [.lit (.bool true)], args := [d1, d2] }
  | _ => none }
def fnExactValSameRow : OpenClaim := { program := "ytgojhlbhfmgkjaa", sum := "01c00f0280e0659a143462175b5744d3248da0dbc899ed34fcf80b0dca5ae045", func := "loop.example/g00114/laws.FnExactValSame", spec := "fnExactValSame", apart := false }
def FnExactValSameSaid : Prop := fnExactValSameRow.holds Try.pinned (OpenSpec.ofChange fnExactValSameSpec)

/-- ITS FALSE NEIGHBOUR: 'it returns false'. Refute it at one input. -/
def fnExactValSameWrong : ChangeSpec := { name := "fnExactValSame", fn := fun _ => fun
  | [d1, d2] => { results := [.lit (.bool false)], args := [d1, d2] }
  | _ => none }
def FnExactValSameWrongFalsely : Prop := fnExactValSameRow.holds Try.pinned (OpenSpec.ofChange fnExactValSameWrong)

/-- 'laws.FnExactBitAt': WHATEVER THE INPUT: true; the input reads as it did. -/
def fnExactBitAtSpec : ChangeSpec := { name := "fnExactBitAt", fn := fun _ => fun
  | [d1, d2] => { results := [.lit (.bool true)], args := [d1, d2] }
  | _ => none }
def fnExactBitAtRow : OpenClaim := { program := "ytgojhlbhfmgkjaa", sum := "01c00f0280e0659a143462175b5744d3248da0dbc899ed34fcf80b0dca5ae045", func := "loop.example/g00114/laws.FnExactBitAt", spec := "fnExactBitAt", apart := false }
def FnExactBitAtSaid : Prop := fnExactBitAtRow.holds Try.pinned (OpenSpec.ofChange fnExactBitAtSpec)

/-- ITS FALSE NEIGHBOUR: 'it returns false'. Refute it at one input. -/
def fnExactBitAtWrong : ChangeSpec := { name := "fnExactBitAt", fn := fun _ => fun
  | [d1, d2] => { results := [.lit (.bool false)], args := [d1, d2] }
  | _ => none }
def FnExactBitAtWrongFalsely : Prop := fnExactBitAtRow.holds Try.pinned (OpenSpec.ofChange fnExactBitAtWrong)

/-- 'laws.FnExactBitsWidth': WHATEVER THE INPUT: true; the input reads as it did. -/
def fnExactBitsWidthSpec : ChangeSpec := { name := "fnExactBitsWidth", fn := fun _ => fun
  | [d] => { results := [.lit (.bool true)], args := [d] }
  | _ => none }
def fnExactBitsWidthRow : OpenClaim := { program := "ytgojhlbhfmgkjaa", sum := "01c00f0280e0659a143462175b5744d3248da0dbc899ed34fcf80b0dca5ae045", func := "loop.example/g00114/laws.FnExactBitsWidth", spec := "fnExactBitsWidth", apart := false }
def FnExactBitsWidthSaid : Prop := fnExactBitsWidthRow.holds Try.pinned (OpenSpec.ofChange fnExactBitsWidthSpec)

/-- ITS FALSE NEIGHBOUR: 'it returns false'. Refute it at one input. -/
def fnExactBitsWidthWrong : ChangeSpec := { name := "fnExactBitsWidth", fn := fun _ => fun
  | [d] => { results := [.lit (.bool false)], args := [d] }
  | _ => none }
def FnExactBitsWidthWrongFalsely : Prop := fnExactBitsWidthRow.holds Try.pinned (OpenSpec.ofChange fnExactBitsWidthWrong)

/-- 'laws.FnExactWordGet': WHATEVER THE INPUT: true; the input reads as it did. -/
def fnExactWordGetSpec : ChangeSpec := { name := "fnExactWordGet", fn := fun _ => fun
  | [d1, d2, d3] => { results := [.lit (.bool true)], args := [d1, d2, d3] }
  | _ => none }
def fnExactWordGetRow : OpenClaim := { program := "ytgojhlbhfmgkjaa", sum := "01c00f0280e0659a143462175b5744d3248da0dbc899ed34fcf80b0dca5ae045", func := "loop.example/g00114/laws.FnExactWordGet", spec := "fnExactWordGet", apart := false }
def FnExactWordGetSaid : Prop := fnExactWordGetRow.holds Try.pinned (OpenSpec.ofChange fnExactWordGetSpec)

/-- ITS FALSE NEIGHBOUR: 'it returns false'. Refute it at one input. -/
def fnExactWordGetWrong : ChangeSpec := { name := "fnExactWordGet", fn := fun _ => fun
  | [d1, d2, d3] => { results := [.lit (.bool false)], args := [d1, d2, d3] }
  | _ => none }
def FnExactWordGetWrongFalsely : Prop := fnExactWordGetRow.holds Try.pinned (OpenSpec.ofChange fnExactWordGetWrong)

/-- 'laws.FnExactValOk': WHATEVER THE INPUT: true; the input reads as it did. -/
def fnExactValOkSpec : ChangeSpec := { name := "fnExactValOk", fn := fun _ => fun
  | [d1, d2] => { results := [.lit (.bool true)], args := [d1, d2] }
  | _ => none }
def fnExactValOkRow : OpenClaim := { program := "ytgojhlbhfmgkjaa", sum := "01c00f0280e0659a143462175b5744d3248da0dbc899ed34fcf80b0dca5ae045", func := "loop.example/g00114/laws.FnExactValOk", spec := "fnExactValOk", apart := false }
def FnExactValOkSaid : Prop := fnExactValOkRow.holds Try.pinned (OpenSpec.ofChange fnExactValOkSpec)

/-- ITS FALSE NEIGHBOUR: 'it returns false'. Refute it at one input. -/
def fnExactValOkWrong : ChangeSpec := { name := "fnExactValOk", fn := fun _ => fun
  | [d1, d2] => { results := [.lit (.bool false)], args := [d1, d2] }
  | _ => none }
def FnExactValOkWrongFalsely : Prop := fnExactValOkRow.holds Try.pinned (OpenSpec.ofChange fnExactValOkWrong)

/-- 'laws.FnExactWordPut': WHATEVER THE INPUT: true; the input reads as it did. -/
def fnExactWordPutSpec : ChangeSpec := { name := "fnExactWordPut", fn := fun _ => fun
  | [d1, d2] => { results := [.lit (.bool true)], args := [d1, d2] }
  | _ => none }
def fnExactWordPutRow : OpenClaim := { program := "ytgojhlbhfmgkjaa", sum := "01c00f0280e0659a143462175b5744d3248da0dbc899ed34fcf80b0dca5ae045", func := "loop.example/g00114/laws.FnExactWordPut", spec := "fnExactWordPut", apart := false }
def FnExactWordPutSaid : Prop := fnExactWordPutRow.holds Try.pinned (OpenSpec.ofChange fnExactWordPutSpec)

/-- ITS FALSE NEIGHBOUR: 'it returns false'. Refute it at one input. -/
def fnExactWordPutWrong : ChangeSpec := { name := "fnExactWordPut", fn := fun _ => fun
  | [d1, d2] => { results := [.lit (.bool false)], args := [d1, d2] }
  | _ => none }
def FnExactWordPutWrongFalsely : Prop := fnExactWordPutRow.holds Try.pinned (OpenSpec.ofChange fnExactWordPutWrong)

/- THE SECOND FORM. 'bulk': how many values and letters a reading holds, each counted each time it is reached (what is shared counts as often as it is met; a slice's spare places count too). A statement '..UptoSaid' is the law's where the arguments, and the package variables that the reading takes, are together of bulk at most 1048576: NARROWER than '..Said'. Prove '..Said' where nothing that the law and all that it calls make is longer than what came in: it says more and counts as full. Else prove '..UptoSaid'. A law counts once. -/
mutual
def uptoBulk {H : Type} : DataW H → Nat
  | .lit (.string bytes) => bytes.length + 1
  | .lit _ => 1
  | .nil => 1
  | .ptr d => uptoBulk d + 1
  | .slice elems spare => uptoBulkAll elems + uptoBulkAll spare + 1
  | .agg parts => uptoBulkAll parts + 1
  | .iface _ d => uptoBulk d + 1
  | .map entries => uptoBulkEntries entries + 1
  | .held _ => 1
def uptoBulkAll {H : Type} : List (DataW H) → Nat
  | [] => 0
  | d :: r => uptoBulk d + uptoBulkAll r
def uptoBulkEntries {H : Type} : List (Lit × DataW H) → Nat
  | [] => 0
  | x :: r => uptoBulkEntry x + uptoBulkEntries r
def uptoBulkEntry {H : Type} : Lit × DataW H → Nat
  | (.string bytes, d) => bytes.length + uptoBulk d + 1
  | (_, d) => uptoBulk d + 1
 end
def uptoSmall : (H : Type) → List (DataW H) → Bool := fun _ ds => decide (uptoBulkAll ds ≤ 1048576)
def OpenSpec.upto (s : _root_.Go.ChangeSpec) : _root_.Go.OpenSpec := { _root_.Go.OpenSpec.ofChange s with cond := some uptoSmall }

/-- 'laws.FnExactConstants', WHERE WHAT IT READS IS OF BULK AT MOST 1048576: true; the input reads as it did. -/
def fnExactConstantsUptoRow : OpenClaim := { program := "ytgojhlbhfmgkjaa", sum := "01c00f0280e0659a143462175b5744d3248da0dbc899ed34fcf80b0dca5ae045", func := "loop.example/g00114/laws.FnExactConstants", spec := "fnExactConstants", apart := false, narrowed := true }
def FnExactConstantsUptoSaid : Prop := fnExactConstantsUptoRow.holds Try.pinned (OpenSpec.upto fnExactConstantsSpec)

/-- 'laws.FnExactZig', WHERE WHAT IT READS IS OF BULK AT MOST 1048576: true; the input reads as it did. -/
def fnExactZigUptoRow : OpenClaim := { program := "ytgojhlbhfmgkjaa", sum := "01c00f0280e0659a143462175b5744d3248da0dbc899ed34fcf80b0dca5ae045", func := "loop.example/g00114/laws.FnExactZig", spec := "fnExactZig", apart := false, narrowed := true }
def FnExactZigUptoSaid : Prop := fnExactZigUptoRow.holds Try.pinned (OpenSpec.upto fnExactZigSpec)

/-- 'laws.FnExactTypeOk', WHERE WHAT IT READS IS OF BULK AT MOST 1048576: true; the input reads as it did. -/
def fnExactTypeOkUptoRow : OpenClaim := { program := "ytgojhlbhfmgkjaa", sum := "01c00f0280e0659a143462175b5744d3248da0dbc899ed34fcf80b0dca5ae045", func := "loop.example/g00114/laws.FnExactTypeOk", spec := "fnExactTypeOk", apart := false, narrowed := true }
def FnExactTypeOkUptoSaid : Prop := fnExactTypeOkUptoRow.holds Try.pinned (OpenSpec.upto fnExactTypeOkSpec)

/-- 'laws.FnExactFloatKey', WHERE WHAT IT READS IS OF BULK AT MOST 1048576: true; the input reads as it did. -/
def fnExactFloatKeyUptoRow : OpenClaim := { program := "ytgojhlbhfmgkjaa", sum := "01c00f0280e0659a143462175b5744d3248da0dbc899ed34fcf80b0dca5ae045", func := "loop.example/g00114/laws.FnExactFloatKey", spec := "fnExactFloatKey", apart := false, narrowed := true }
def FnExactFloatKeyUptoSaid : Prop := fnExactFloatKeyUptoRow.holds Try.pinned (OpenSpec.upto fnExactFloatKeySpec)

/-- 'laws.FnExactZag', WHERE WHAT IT READS IS OF BULK AT MOST 1048576: true; the input reads as it did. -/
def fnExactZagUptoRow : OpenClaim := { program := "ytgojhlbhfmgkjaa", sum := "01c00f0280e0659a143462175b5744d3248da0dbc899ed34fcf80b0dca5ae045", func := "loop.example/g00114/laws.FnExactZag", spec := "fnExactZag", apart := false, narrowed := true }
def FnExactZagUptoSaid : Prop := fnExactZagUptoRow.holds Try.pinned (OpenSpec.upto fnExactZagSpec)

/-- 'laws.FnExactBitsSize', WHERE WHAT IT READS IS OF BULK AT MOST 1048576: true; the input reads as it did. -/
def fnExactBitsSizeUptoRow : OpenClaim := { program := "ytgojhlbhfmgkjaa", sum := "01c00f0280e0659a143462175b5744d3248da0dbc899ed34fcf80b0dca5ae045", func := "loop.example/g00114/laws.FnExactBitsSize", spec := "fnExactBitsSize", apart := false, narrowed := true }
def FnExactBitsSizeUptoSaid : Prop := fnExactBitsSizeUptoRow.holds Try.pinned (OpenSpec.upto fnExactBitsSizeSpec)

/-- 'laws.FnExactValSame', WHERE WHAT IT READS IS OF BULK AT MOST 1048576: true; the input reads as it did. -/
def fnExactValSameUptoRow : OpenClaim := { program := "ytgojhlbhfmgkjaa", sum := "01c00f0280e0659a143462175b5744d3248da0dbc899ed34fcf80b0dca5ae045", func := "loop.example/g00114/laws.FnExactValSame", spec := "fnExactValSame", apart := false, narrowed := true }
def FnExactValSameUptoSaid : Prop := fnExactValSameUptoRow.holds Try.pinned (OpenSpec.upto fnExactValSameSpec)

/-- 'laws.FnExactBitAt', WHERE WHAT IT READS IS OF BULK AT MOST 1048576: true; the input reads as it did. -/
def fnExactBitAtUptoRow : OpenClaim := { program := "ytgojhlbhfmgkjaa", sum := "01c00f0280e0659a143462175b5744d3248da0dbc899ed34fcf80b0dca5ae045", func := "loop.example/g00114/laws.FnExactBitAt", spec := "fnExactBitAt", apart := false, narrowed := true }
def FnExactBitAtUptoSaid : Prop := fnExactBitAtUptoRow.holds Try.pinned (OpenSpec.upto fnExactBitAtSpec)

/-- 'laws.FnExactBitsWidth', WHERE WHAT IT READS IS OF BULK AT MOST 1048576: true; the input reads as it did. -/
def fnExactBitsWidthUptoRow : OpenClaim := { program := "ytgojhlbhfmgkjaa", sum := "01c00f0280e0659a143462175b5744d3248da0dbc899ed34fcf80b0dca5ae045", func := "loop.example/g00114/laws.FnExactBitsWidth", spec := "fnExactBitsWidth", apart := false, narrowed := true }
def FnExactBitsWidthUptoSaid : Prop := fnExactBitsWidthUptoRow.holds Try.pinned (OpenSpec.upto fnExactBitsWidthSpec)

/-- 'laws.FnExactWordGet', WHERE WHAT IT READS IS OF BULK AT MOST 1048576: true; the input reads as it did. -/
def fnExactWordGetUptoRow : OpenClaim := { program := "ytgojhlbhfmgkjaa", sum := "01c00f0280e0659a143462175b5744d3248da0dbc899ed34fcf80b0dca5ae045", func := "loop.example/g00114/laws.FnExactWordGet", spec := "fnExactWordGet", apart := false, narrowed := true }
def FnExactWordGetUptoSaid : Prop := fnExactWordGetUptoRow.holds Try.pinned (OpenSpec.upto fnExactWordGetSpec)

/-- 'laws.FnExactValOk', WHERE WHAT IT READS IS OF BULK AT MOST 1048576: true; the input reads as it did. -/
def fnExactValOkUptoRow : OpenClaim := { program := "ytgojhlbhfmgkjaa", sum := "01c00f0280e0659a143462175b5744d3248da0dbc899ed34fcf80b0dca5ae045", func := "loop.example/g00114/laws.FnExactValOk", spec := "fnExactValOk", apart := false, narrowed := true }
def FnExactValOkUptoSaid : Prop := fnExactValOkUptoRow.holds Try.pinned (OpenSpec.upto fnExactValOkSpec)

/-- 'laws.FnExactWordPut', WHERE WHAT IT READS IS OF BULK AT MOST 1048576: true; the input reads as it did. -/
def fnExactWordPutUptoRow : OpenClaim := { program := "ytgojhlbhfmgkjaa", sum := "01c00f0280e0659a143462175b5744d3248da0dbc899ed34fcf80b0dca5ae045", func := "loop.example/g00114/laws.FnExactWordPut", spec := "fnExactWordPut", apart := false, narrowed := true }
def FnExactWordPutUptoSaid : Prop := fnExactWordPutUptoRow.holds Try.pinned (OpenSpec.upto fnExactWordPutSpec)

end Rows
end Go.Proofs.Ytgojhlbhfmgkjaa
