/-
  No cell of these rows narrows 'for every input' (looked for: loops, veiled, ifaces, maps, wideKeys, modest, calm, conditions, laid).
  DERIVED. THE GIVEN ROWS OF THIS SEAT. 12 by the template 'for every input the law returns true; each argument reads behind the call as it read before'; 0 by the template 'total and deterministic' (their statements: YtoehjhmkeaofeaaTotals.lean).
  GIVEN WITH THE SEED: the statements are not yours to turn. If you find one false, say at which input.
  Laid BY PROGRAM, IN A SANDBOX (cutbox-rows.mjs): the forced cells as the released guide's own fill.sh prints them over the translation 9514d4f5c4869386… (all of the seat's roots in one cut). By AI agents, Wed Nov 11 2026. No macro, syntax, notation, axiom, sorry.
-/
import Derived.Test.YtoehjhmkeaofeaaChecked
import GoSem.Claim
import GoSem.ClaimJoined
import GoSem.ClaimMapViews
import Derived.JoinedTies
import Derived.KernelRfl
namespace Go.Proofs.Ytoehjhmkeaofeaa
/- THE CELL 'sum', in the pinned program and in every row, IS THE sha256 OF THE DUMP (.gsa) THAT YtoehjhmkeaofeaaProg.lean LOADS. Nothing in Lean hashes anything: it is a label: what it is worth is what the hold of that sum in a sandbox is worth. -/
noncomputable def Try.pinned : Pinned := { name := "ytoehjhmkeaofeaa", sum := "9514d4f5c48693860a4274dd3f75e712b47a90dd88e05e16d84ed4d7bd602eea", checked := Try.checked }
namespace Rows
def none {H : Type} : Left H := { results := [], args := [] }

/-- 'laws.FnFloats': WHATEVER THE INPUT: true; the input reads as it did. -/
def fnFloatsSpec : ChangeSpec := { name := "fnFloats", fn := fun _ => fun
  | [d] => { results := [.lit (.bool true)], args := [d] }
  | _ => none }
def fnFloatsRow : OpenClaim := { program := "ytoehjhmkeaofeaa", sum := "9514d4f5c48693860a4274dd3f75e712b47a90dd88e05e16d84ed4d7bd602eea", func := "loop.example/g00114/laws.FnFloats", spec := "fnFloats", apart := false }
def FnFloatsSaid : Prop := fnFloatsRow.holds Try.pinned (OpenSpec.ofChange fnFloatsSpec)

/-- ITS FALSE NEIGHBOUR: 'it returns false'. Refute it at one input. -/
def fnFloatsWrong : ChangeSpec := { name := "fnFloats", fn := fun _ => fun
  | [d] => { results := [.lit (.bool false)], args := [d] }
  | _ => none }
def FnFloatsWrongFalsely : Prop := fnFloatsRow.holds Try.pinned (OpenSpec.ofChange fnFloatsWrong)

/-- 'laws.FnExactUvarPut': WHATEVER THE INPUT: true; the input reads as it did. -/
def fnExactUvarPutSpec : ChangeSpec := { name := "fnExactUvarPut", fn := fun _ => fun
  | [d] => { results := [.lit (.bool true)], args := [d] }
  | _ => none }
def fnExactUvarPutRow : OpenClaim := { program := "ytoehjhmkeaofeaa", sum := "9514d4f5c48693860a4274dd3f75e712b47a90dd88e05e16d84ed4d7bd602eea", func := "loop.example/g00114/laws.FnExactUvarPut", spec := "fnExactUvarPut", apart := false }
def FnExactUvarPutSaid : Prop := fnExactUvarPutRow.holds Try.pinned (OpenSpec.ofChange fnExactUvarPutSpec)

/-- ITS FALSE NEIGHBOUR: 'it returns false'. Refute it at one input. -/
def fnExactUvarPutWrong : ChangeSpec := { name := "fnExactUvarPut", fn := fun _ => fun
  | [d] => { results := [.lit (.bool false)], args := [d] }
  | _ => none }
def FnExactUvarPutWrongFalsely : Prop := fnExactUvarPutRow.holds Try.pinned (OpenSpec.ofChange fnExactUvarPutWrong)

/-- 'laws.FnExactUvarGet': WHATEVER THE INPUT: true; the input reads as it did. -/
def fnExactUvarGetSpec : ChangeSpec := { name := "fnExactUvarGet", fn := fun _ => fun
  | [d1, d2] => { results := [.lit (.bool true)], args := [d1, d2] }
  | _ => none }
def fnExactUvarGetRow : OpenClaim := { program := "ytoehjhmkeaofeaa", sum := "9514d4f5c48693860a4274dd3f75e712b47a90dd88e05e16d84ed4d7bd602eea", func := "loop.example/g00114/laws.FnExactUvarGet", spec := "fnExactUvarGet", apart := false }
def FnExactUvarGetSaid : Prop := fnExactUvarGetRow.holds Try.pinned (OpenSpec.ofChange fnExactUvarGetSpec)

/-- ITS FALSE NEIGHBOUR: 'it returns false'. Refute it at one input. -/
def fnExactUvarGetWrong : ChangeSpec := { name := "fnExactUvarGet", fn := fun _ => fun
  | [d1, d2] => { results := [.lit (.bool false)], args := [d1, d2] }
  | _ => none }
def FnExactUvarGetWrongFalsely : Prop := fnExactUvarGetRow.holds Try.pinned (OpenSpec.ofChange fnExactUvarGetWrong)

/-- 'laws.FnExactZigPut': WHATEVER THE INPUT: true; the input reads as it did. -/
def fnExactZigPutSpec : ChangeSpec := { name := "fnExactZigPut", fn := fun _ => fun
  | [d] => { results := [.lit (.bool true)], args := [d] }
  | _ => none }
def fnExactZigPutRow : OpenClaim := { program := "ytoehjhmkeaofeaa", sum := "9514d4f5c48693860a4274dd3f75e712b47a90dd88e05e16d84ed4d7bd602eea", func := "loop.example/g00114/laws.FnExactZigPut", spec := "fnExactZigPut", apart := false }
def FnExactZigPutSaid : Prop := fnExactZigPutRow.holds Try.pinned (OpenSpec.ofChange fnExactZigPutSpec)

/-- ITS FALSE NEIGHBOUR: 'it returns false'. Refute it at one input. -/
def fnExactZigPutWrong : ChangeSpec := { name := "fnExactZigPut", fn := fun _ => fun
  | [d] => { results := [.lit (.bool false)], args := [d] }
  | _ => none }
def FnExactZigPutWrongFalsely : Prop := fnExactZigPutRow.holds Try.pinned (OpenSpec.ofChange fnExactZigPutWrong)

/-- 'laws.FnExactCrcTable': WHATEVER THE INPUT: true; the input reads as it did. -/
def fnExactCrcTableSpec : ChangeSpec := { name := "fnExactCrcTable", fn := fun _ => fun
  | [] => { results := [.lit (.bool true)], args := [] }
  | _ => none }
def fnExactCrcTableRow : OpenClaim := { program := "ytoehjhmkeaofeaa", sum := "9514d4f5c48693860a4274dd3f75e712b47a90dd88e05e16d84ed4d7bd602eea", func := "loop.example/g00114/laws.FnExactCrcTable", spec := "fnExactCrcTable", apart := false }
def FnExactCrcTableSaid : Prop := fnExactCrcTableRow.holds Try.pinned (OpenSpec.ofChange fnExactCrcTableSpec)

/-- ITS FALSE NEIGHBOUR: 'it returns false'. Refute it at one input. -/
def fnExactCrcTableWrong : ChangeSpec := { name := "fnExactCrcTable", fn := fun _ => fun
  | [] => { results := [.lit (.bool false)], args := [] }
  | _ => none }
def FnExactCrcTableWrongFalsely : Prop := fnExactCrcTableRow.holds Try.pinned (OpenSpec.ofChange fnExactCrcTableWrong)

/-- 'laws.FnExactCrcMore': WHATEVER THE INPUT: true; the input reads as it did. -/
def fnExactCrcMoreSpec : ChangeSpec := { name := "fnExactCrcMore", fn := fun _ => fun
  | [d1, d2] => { results := [.lit (.bool true)], args := [d1, d2] }
  | _ => none }
def fnExactCrcMoreRow : OpenClaim := { program := "ytoehjhmkeaofeaa", sum := "9514d4f5c48693860a4274dd3f75e712b47a90dd88e05e16d84ed4d7bd602eea", func := "loop.example/g00114/laws.FnExactCrcMore", spec := "fnExactCrcMore", apart := false }
def FnExactCrcMoreSaid : Prop := fnExactCrcMoreRow.holds Try.pinned (OpenSpec.ofChange fnExactCrcMoreSpec)

/-- ITS FALSE NEIGHBOUR: 'it returns false'. Refute it at one input. -/
def fnExactCrcMoreWrong : ChangeSpec := { name := "fnExactCrcMore", fn := fun _ => fun
  | [d1, d2] => { results := [.lit (.bool false)], args := [d1, d2] }
  | _ => none }
def FnExactCrcMoreWrongFalsely : Prop := fnExactCrcMoreRow.holds Try.pinned (OpenSpec.ofChange fnExactCrcMoreWrong)

/-- 'laws.FnExactCrcOf': WHATEVER THE INPUT: true; the input reads as it did. -/
def fnExactCrcOfSpec : ChangeSpec := { name := "fnExactCrcOf", fn := fun _ => fun
  | [d] => { results := [.lit (.bool true)], args := [d] }
  | _ => none }
def fnExactCrcOfRow : OpenClaim := { program := "ytoehjhmkeaofeaa", sum := "9514d4f5c48693860a4274dd3f75e712b47a90dd88e05e16d84ed4d7bd602eea", func := "loop.example/g00114/laws.FnExactCrcOf", spec := "fnExactCrcOf", apart := false }
def FnExactCrcOfSaid : Prop := fnExactCrcOfRow.holds Try.pinned (OpenSpec.ofChange fnExactCrcOfSpec)

/-- ITS FALSE NEIGHBOUR: 'it returns false'. Refute it at one input. -/
def fnExactCrcOfWrong : ChangeSpec := { name := "fnExactCrcOf", fn := fun _ => fun
  | [d] => { results := [.lit (.bool false)], args := [d] }
  | _ => none }
def FnExactCrcOfWrongFalsely : Prop := fnExactCrcOfRow.holds Try.pinned (OpenSpec.ofChange fnExactCrcOfWrong)

/-- 'laws.FnExactPlainSize': WHATEVER THE INPUT: true; the input reads as it did. -/
def fnExactPlainSizeSpec : ChangeSpec := { name := "fnExactPlainSize", fn := fun _ => fun
  | [d1, d2] => { results := [.lit (.bool true)], args := [d1, d2] }
  | _ => none }
def fnExactPlainSizeRow : OpenClaim := { program := "ytoehjhmkeaofeaa", sum := "9514d4f5c48693860a4274dd3f75e712b47a90dd88e05e16d84ed4d7bd602eea", func := "loop.example/g00114/laws.FnExactPlainSize", spec := "fnExactPlainSize", apart := false }
def FnExactPlainSizeSaid : Prop := fnExactPlainSizeRow.holds Try.pinned (OpenSpec.ofChange fnExactPlainSizeSpec)

/-- ITS FALSE NEIGHBOUR: 'it returns false'. Refute it at one input. -/
def fnExactPlainSizeWrong : ChangeSpec := { name := "fnExactPlainSize", fn := fun _ => fun
  | [d1, d2] => { results := [.lit (.bool false)], args := [d1, d2] }
  | _ => none }
def FnExactPlainSizeWrongFalsely : Prop := fnExactPlainSizeRow.holds Try.pinned (OpenSpec.ofChange fnExactPlainSizeWrong)

/-- 'laws.FnExactZigGet': WHATEVER THE INPUT: true; the input reads as it did. -/
def fnExactZigGetSpec : ChangeSpec := { name := "fnExactZigGet", fn := fun _ => fun
  | [d1, d2] => { results := [.lit (.bool true)], args := [d1, d2] }
  | _ => none }
def fnExactZigGetRow : OpenClaim := { program := "ytoehjhmkeaofeaa", sum := "9514d4f5c48693860a4274dd3f75e712b47a90dd88e05e16d84ed4d7bd602eea", func := "loop.example/g00114/laws.FnExactZigGet", spec := "fnExactZigGet", apart := false }
def FnExactZigGetSaid : Prop := fnExactZigGetRow.holds Try.pinned (OpenSpec.ofChange fnExactZigGetSpec)

/-- ITS FALSE NEIGHBOUR: 'it returns false'. Refute it at one input. -/
def fnExactZigGetWrong : ChangeSpec := { name := "fnExactZigGet", fn := fun _ => fun
  | [d1, d2] => { results := [.lit (.bool false)], args := [d1, d2] }
  | _ => none }
def FnExactZigGetWrongFalsely : Prop := fnExactZigGetRow.holds Try.pinned (OpenSpec.ofChange fnExactZigGetWrong)

/-- 'laws.FnExactValLess': WHATEVER THE INPUT: true; the input reads as it did. -/
def fnExactValLessSpec : ChangeSpec := { name := "fnExactValLess", fn := fun _ => fun
  | [d1, d2, d3] => { results := [.lit (.bool true)], args := [d1, d2, d3] }
  | _ => none }
def fnExactValLessRow : OpenClaim := { program := "ytoehjhmkeaofeaa", sum := "9514d4f5c48693860a4274dd3f75e712b47a90dd88e05e16d84ed4d7bd602eea", func := "loop.example/g00114/laws.FnExactValLess", spec := "fnExactValLess", apart := false }
def FnExactValLessSaid : Prop := fnExactValLessRow.holds Try.pinned (OpenSpec.ofChange fnExactValLessSpec)

/-- ITS FALSE NEIGHBOUR: 'it returns false'. Refute it at one input. -/
def fnExactValLessWrong : ChangeSpec := { name := "fnExactValLess", fn := fun _ => fun
  | [d1, d2, d3] => { results := [.lit (.bool false)], args := [d1, d2, d3] }
  | _ => none }
def FnExactValLessWrongFalsely : Prop := fnExactValLessRow.holds Try.pinned (OpenSpec.ofChange fnExactValLessWrong)

/-- 'laws.FnCrc': WHATEVER THE INPUT: true; the input reads as it did. -/
def fnCrcSpec : ChangeSpec := { name := "fnCrc", fn := fun _ => fun
  | [d] => { results := [.lit (.bool true)], args := [d] }
  | _ => none }
def fnCrcRow : OpenClaim := { program := "ytoehjhmkeaofeaa", sum := "9514d4f5c48693860a4274dd3f75e712b47a90dd88e05e16d84ed4d7bd602eea", func := "loop.example/g00114/laws.FnCrc", spec := "fnCrc", apart := false }
def FnCrcSaid : Prop := fnCrcRow.holds Try.pinned (OpenSpec.ofChange fnCrcSpec)

/-- ITS FALSE NEIGHBOUR: 'it returns false'. Refute it at one input. -/
def fnCrcWrong : ChangeSpec := { name := "fnCrc", fn := fun _ => fun
  | [d] => { results := [.lit (.bool false)], args := [d] }
  | _ => none }
def FnCrcWrongFalsely : Prop := fnCrcRow.holds Try.pinned (OpenSpec.ofChange fnCrcWrong)

/-- 'laws.FnWidth': WHATEVER THE INPUT: true; the input reads as it did. -/
def fnWidthSpec : ChangeSpec := { name := "fnWidth", fn := fun _ => fun
  | [d] => { results := [.lit (.bool true)], args := [d] }
  | _ => none }
def fnWidthRow : OpenClaim := { program := "ytoehjhmkeaofeaa", sum := "9514d4f5c48693860a4274dd3f75e712b47a90dd88e05e16d84ed4d7bd602eea", func := "loop.example/g00114/laws.FnWidth", spec := "fnWidth", apart := false }
def FnWidthSaid : Prop := fnWidthRow.holds Try.pinned (OpenSpec.ofChange fnWidthSpec)

/-- ITS FALSE NEIGHBOUR: 'it returns false'. Refute it at one input. -/
def fnWidthWrong : ChangeSpec := { name := "fnWidth", fn := fun _ => fun
  | [d] => { results := [.lit (.bool false)], args := [d] }
  | _ => none }
def FnWidthWrongFalsely : Prop := fnWidthRow.holds Try.pinned (OpenSpec.ofChange fnWidthWrong)

/- THE SECOND FORM. 'bulk': how many values and letters a reading holds, each counted each time it is reached (what is shared counts as often as it is met; a slice's spare places count too). A statement '..UptoSaid' is the law's where the arguments, and the package variables that the reading takes, are together of bulk at most 1048576: NARROWER than '..Said'. Prove '..Said' where nothing that the law and all that it calls make is longer than what came in: it says more and counts as full. Else prove '..UptoSaid'. A law counts once. -/
mutual
def uptoBulk {H : Type} : DataW H → Nat
  | .lit (.string bytes) => bytes.length + 1
  | .lit _ => 1
  | .nil => 1
  | .ptr d => uptoBulk d + 1
  | .slice elems spare => uptoBulkAll elems + uptoBulkAll spare + 1
  | .agg parts => uptoBulkAll parts + 1
  | .iface _ d => uptoBulk d + 1
  | .map entries => uptoBulkEntries entries + 1
  | .held _ => 1
def uptoBulkAll {H : Type} : List (DataW H) → Nat
  | [] => 0
  | d :: r => uptoBulk d + uptoBulkAll r
def uptoBulkEntries {H : Type} : List (Lit × DataW H) → Nat
  | [] => 0
  | x :: r => uptoBulkEntry x + uptoBulkEntries r
def uptoBulkEntry {H : Type} : Lit × DataW H → Nat
  | (.string bytes, d) => bytes.length + uptoBulk d + 1
  | (_, d) => uptoBulk d + 1
 end
def uptoSmall : (H : Type) → List (DataW H) → Bool := fun _ ds => decide (uptoBulkAll ds ≤ 1048576)
def OpenSpec.upto (s : _root_.Go.ChangeSpec) : _root_.Go.OpenSpec := { _root_.Go.OpenSpec.ofChange s with cond := some uptoSmall }

/-- 'laws.FnFloats', WHERE WHAT IT READS IS OF BULK AT MOST 1048576: true; the input reads as it did. -/
def fnFloatsUptoRow : OpenClaim := { program := "ytoehjhmkeaofeaa", sum := "9514d4f5c48693860a4274dd3f75e712b47a90dd88e05e16d84ed4d7bd602eea", func := "loop.example/g00114/laws.FnFloats", spec := "fnFloats", apart := false, narrowed := true }
def FnFloatsUptoSaid : Prop := fnFloatsUptoRow.holds Try.pinned (OpenSpec.upto fnFloatsSpec)

/-- 'laws.FnExactUvarPut', WHERE WHAT IT READS IS OF BULK AT MOST 1048576: true; the input reads as it did. -/
def fnExactUvarPutUptoRow : OpenClaim := { program := "ytoehjhmkeaofeaa", sum := "9514d4f5c48693860a4274dd3f75e712b47a90dd88e05e16d84ed4d7bd602eea", func := "loop.example/g00114/laws.FnExactUvarPut", spec := "fnExactUvarPut", apart := false, narrowed := true }
def FnExactUvarPutUptoSaid : Prop := fnExactUvarPutUptoRow.holds Try.pinned (OpenSpec.upto fnExactUvarPutSpec)

/-- 'laws.FnExactUvarGet', WHERE WHAT IT READS IS OF BULK AT MOST 1048576: true; the input reads as it did. -/
def fnExactUvarGetUptoRow : OpenClaim := { program := "ytoehjhmkeaofeaa", sum := "9514d4f5c48693860a4274dd3f75e712b47a90dd88e05e16d84ed4d7bd602eea", func := "loop.example/g00114/laws.FnExactUvarGet", spec := "fnExactUvarGet", apart := false, narrowed := true }
def FnExactUvarGetUptoSaid : Prop := fnExactUvarGetUptoRow.holds Try.pinned (OpenSpec.upto fnExactUvarGetSpec)

/-- 'laws.FnExactZigPut', WHERE WHAT IT READS IS OF BULK AT MOST 1048576: true; the input reads as it did. -/
def fnExactZigPutUptoRow : OpenClaim := { program := "ytoehjhmkeaofeaa", sum := "9514d4f5c48693860a4274dd3f75e712b47a90dd88e05e16d84ed4d7bd602eea", func := "loop.example/g00114/laws.FnExactZigPut", spec := "fnExactZigPut", apart := false, narrowed := true }
def FnExactZigPutUptoSaid : Prop := fnExactZigPutUptoRow.holds Try.pinned (OpenSpec.upto fnExactZigPutSpec)

/-- 'laws.FnExactCrcTable', WHERE WHAT IT READS IS OF BULK AT MOST 1048576: true; the input reads as it did. -/
def fnExactCrcTableUptoRow : OpenClaim := { program := "ytoehjhmkeaofeaa", sum := "9514d4f5c48693860a4274dd3f75e712b47a90dd88e05e16d84ed4d7bd602eea", func := "loop.example/g00114/laws.FnExactCrcTable", spec := "fnExactCrcTable", apart := false, narrowed := true }
def FnExactCrcTableUptoSaid : Prop := fnExactCrcTableUptoRow.holds Try.pinned (OpenSpec.upto fnExactCrcTableSpec)

/-- 'laws.FnExactCrcMore', WHERE WHAT IT READS IS OF BULK AT MOST 1048576: true; the input reads as it did. -/
def fnExactCrcMoreUptoRow : OpenClaim := { program := "ytoehjhmkeaofeaa", sum := "9514d4f5c48693860a4274dd3f75e712b47a90dd88e05e16d84ed4d7bd602eea", func := "loop.example/g00114/laws.FnExactCrcMore", spec := "fnExactCrcMore", apart := false, narrowed := true }
def FnExactCrcMoreUptoSaid : Prop := fnExactCrcMoreUptoRow.holds Try.pinned (OpenSpec.upto fnExactCrcMoreSpec)

/-- 'laws.FnExactCrcOf', WHERE WHAT IT READS IS OF BULK AT MOST 1048576: true; the input reads as it did. -/
def fnExactCrcOfUptoRow : OpenClaim := { program := "ytoehjhmkeaofeaa", sum := "9514d4f5c48693860a4274dd3f75e712b47a90dd88e05e16d84ed4d7bd602eea", func := "loop.example/g00114/laws.FnExactCrcOf", spec := "fnExactCrcOf", apart := false, narrowed := true }
def FnExactCrcOfUptoSaid : Prop := fnExactCrcOfUptoRow.holds Try.pinned (OpenSpec.upto fnExactCrcOfSpec)

/-- 'laws.FnExactPlainSize', WHERE WHAT IT READS IS OF BULK AT MOST 1048576: true; the input reads as it did. -/
def fnExactPlainSizeUptoRow : OpenClaim := { program := "ytoehjhmkeaofeaa", sum := "9514d4f5c48693860a4274dd3f75e712b47a90dd88e05e16d84ed4d7bd602eea", func := "loop.example/g00114/laws.FnExactPlainSize", spec := "fnExactPlainSize", apart := false, narrowed := true }
def FnExactPlainSizeUptoSaid : Prop := fnExactPlainSizeUptoRow.holds Try.pinned (OpenSpec.upto fnExactPlainSizeSpec)

/-- 'laws.FnExactZigGet', WHERE WHAT IT READS IS OF BULK AT MOST 1048576: true; the input reads as it did. -/
def fnExactZigGetUptoRow : OpenClaim := { program := "ytoehjhmkeaofeaa", sum := "9514d4f5c48693860a4274dd3f75e712b47a90dd88e05e16d84ed4d7bd602eea", func := "loop.example/g00114/laws.FnExactZigGet", spec := "fnExactZigGet", apart := false, narrowed := true }
def FnExactZigGetUptoSaid : Prop := fnExactZigGetUptoRow.holds Try.pinned (OpenSpec.upto fnExactZigGetSpec)

/-- 'laws.FnExactValLess', WHERE WHAT IT READS IS OF BULK AT MOST 1048576: true; the input reads as it did. -/
def fnExactValLessUptoRow : OpenClaim := { program := "ytoehjhmkeaofeaa", sum := "9514d4f5c48693860a4274dd3f75e712b47a90dd88e05e16d84ed4d7bd602eea", func := "loop.example/g00114/laws.FnExactValLess", spec := "fnExactValLess", apart := false, narrowed := true }
def FnExactValLessUptoSaid : Prop := fnExactValLessUptoRow.holds Try.pinned (OpenSpec.upto fnExactValLessSpec)

/-- 'laws.FnCrc', WHERE WHAT IT READS IS OF BULK AT MOST 1048576: true; the input reads as it did. -/
def fnCrcUptoRow : OpenClaim := { program := "ytoehjhmkeaofeaa", sum := "9514d4f5c48693860a4274dd3f75e712b47a90dd88e05e16d84ed4d7bd602eea", func := "loop.example/g00114/laws.FnCrc", spec := "fnCrc", apart := false, narrowed := true }
def FnCrcUptoSaid : Prop := fnCrcUptoRow.holds Try.pinned (OpenSpec.upto fnCrcSpec)

/-- 'laws.FnWidth', WHERE WHAT IT READS IS OF BULK AT MOST 1048576: true; the input reads as it did. -/
def fnWidthUptoRow : OpenClaim := { program := "ytoehjhmkeaofeaa", sum := "9514d4f5c48693860a4274dd3f75e712b47a90dd88e05e16d84ed4d7bd602eea", func := "loop.example/g00114/laws.FnWidth", spec := "fnWidth", apart := false, narrowed := true }
def FnWidthUptoSaid : Prop := fnWidthUptoRow.holds Try.pinned (OpenSpec.upto fnWidthSpec)

end Rows
end Go.Proofs.Ytoehjhmkeaofeaa
