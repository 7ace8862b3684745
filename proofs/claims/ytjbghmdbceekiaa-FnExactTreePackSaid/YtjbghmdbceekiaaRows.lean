/-
  No cell of these rows narrows 'for every input' (looked for: loops, veiled, ifaces, maps, wideKeys, modest, calm, conditions, laid).
  DERIVED. THE GIVEN ROWS OF THIS SEAT. 12 by the template 'for every input the law returns true; each argument reads behind the call as it read before'; 0 by the template 'total and deterministic' (their statements: YtjbghmdbceekiaaTotals.lean).
  GIVEN WITH THE SEED: the statements are not yours to turn. If you find one false, say at which input.
  Laid BY PROGRAM, IN A SANDBOX (cutbox-rows.mjs): the forced cells as the released guide's own fill.sh prints them over the translation e6c3f175941e04e0… (all of the seat's roots in one cut). By AI agents, Wed Nov 11 2026. No macro, syntax, notation, axiom, sorry.
-/
import Derived.Test.YtjbghmdbceekiaaChecked
import GoSem.Claim
import GoSem.ClaimJoined
import GoSem.ClaimMapViews
import Derived.JoinedTies
import Derived.KernelRfl
namespace Go.Proofs.Ytjbghmdbceekiaa
/- THE CELL 'sum', in the pinned program and in every row, IS THE sha256 OF THE DUMP (.gsa) THAT YtjbghmdbceekiaaProg.lean LOADS. Nothing in Lean hashes anything: it is a label: what it is worth is what the hold of that sum in a sandbox is worth. -/
noncomputable def Try.pinned : Pinned := { name := "ytjbghmdbceekiaa", sum := "e6c3f175941e04e04a754b763a431e6a3a21e4cd1abedd8443304f01f79d84b9", checked := Try.checked }
namespace Rows
def none {H : Type} : Left H := { results := [], args := [] }

/-- 'laws.FnExactSchemaOk': WHATEVER THE INPUT: true; the input reads as it did. -/
def fnExactSchemaOkSpec : ChangeSpec := { name := "fnExactSchemaOk", fn := fun _ => fun
  | [d] => { results := [.lit (.bool true)], args := [d] }
  | _ => none }
def fnExactSchemaOkRow : OpenClaim := { program := "ytjbghmdbceekiaa", sum := "e6c3f175941e04e04a754b763a431e6a3a21e4cd1abedd8443304f01f79d84b9", func := "loop.example/g00114/laws.FnExactSchemaOk", spec := "fnExactSchemaOk", recurses := true, apart := false }
def FnExactSchemaOkSaid : Prop := fnExactSchemaOkRow.holds Try.pinned (OpenSpec.ofChange fnExactSchemaOkSpec)

/-- ITS FALSE NEIGHBOUR: 'it returns false'. Refute it at one input. -/
def fnExactSchemaOkWrong : ChangeSpec := { name := "fnExactSchemaOk", fn := fun _ => fun
  | [d] => { results := [.lit (.bool false)], args := [d] }
  | _ => none }
def FnExactSchemaOkWrongFalsely : Prop := fnExactSchemaOkRow.holds Try.pinned (OpenSpec.ofChange fnExactSchemaOkWrong)

/-- 'laws.FnExactSchemaAfter': WHATEVER THE INPUT: true; the input reads as it did. -/
def fnExactSchemaAfterSpec : ChangeSpec := { name := "fnExactSchemaAfter", fn := fun _ => fun
  | [d1, d2] => { results := [.lit (.bool true)], args := [d1, d2] }
  | _ => none }
def fnExactSchemaAfterRow : OpenClaim := { program := "ytjbghmdbceekiaa", sum := "e6c3f175941e04e04a754b763a431e6a3a21e4cd1abedd8443304f01f79d84b9", func := "loop.example/g00114/laws.FnExactSchemaAfter", spec := "fnExactSchemaAfter", recurses := true, apart := false }
def FnExactSchemaAfterSaid : Prop := fnExactSchemaAfterRow.holds Try.pinned (OpenSpec.ofChange fnExactSchemaAfterSpec)

/-- ITS FALSE NEIGHBOUR: 'it returns false'. Refute it at one input. -/
def fnExactSchemaAfterWrong : ChangeSpec := { name := "fnExactSchemaAfter", fn := fun _ => fun
  | [d1, d2] => { results := [.lit (.bool false)], args := [d1, d2] }
  | _ => none }
def FnExactSchemaAfterWrongFalsely : Prop := fnExactSchemaAfterRow.holds Try.pinned (OpenSpec.ofChange fnExactSchemaAfterWrong)

/-- 'laws.FnExactTreeOk': WHATEVER THE INPUT: true; the input reads as it did. -/
def fnExactTreeOkSpec : ChangeSpec := { name := "fnExactTreeOk", fn := fun _ => fun
  | [d] => { results := [.lit (.bool true)], args := [d] }
  | _ => none }
def fnExactTreeOkRow : OpenClaim := { program := "ytjbghmdbceekiaa", sum := "e6c3f175941e04e04a754b763a431e6a3a21e4cd1abedd8443304f01f79d84b9", func := "loop.example/g00114/laws.FnExactTreeOk", spec := "fnExactTreeOk", recurses := true, apart := false }
def FnExactTreeOkSaid : Prop := fnExactTreeOkRow.holds Try.pinned (OpenSpec.ofChange fnExactTreeOkSpec)

/-- ITS FALSE NEIGHBOUR: 'it returns false'. Refute it at one input. -/
def fnExactTreeOkWrong : ChangeSpec := { name := "fnExactTreeOk", fn := fun _ => fun
  | [d] => { results := [.lit (.bool false)], args := [d] }
  | _ => none }
def FnExactTreeOkWrongFalsely : Prop := fnExactTreeOkRow.holds Try.pinned (OpenSpec.ofChange fnExactTreeOkWrong)

/-- 'laws.FnExactTreeAfter': WHATEVER THE INPUT: true; the input reads as it did. -/
def fnExactTreeAfterSpec : ChangeSpec := { name := "fnExactTreeAfter", fn := fun _ => fun
  | [d1, d2] => { results := [.lit (.bool true)], args := [d1, d2] }
  | _ => none }
def fnExactTreeAfterRow : OpenClaim := { program := "ytjbghmdbceekiaa", sum := "e6c3f175941e04e04a754b763a431e6a3a21e4cd1abedd8443304f01f79d84b9", func := "loop.example/g00114/laws.FnExactTreeAfter", spec := "fnExactTreeAfter", recurses := true, apart := false }
def FnExactTreeAfterSaid : Prop := fnExactTreeAfterRow.holds Try.pinned (OpenSpec.ofChange fnExactTreeAfterSpec)

/-- ITS FALSE NEIGHBOUR: 'it returns false'. Refute it at one input. -/
def fnExactTreeAfterWrong : ChangeSpec := { name := "fnExactTreeAfter", fn := fun _ => fun
  | [d1, d2] => { results := [.lit (.bool false)], args := [d1, d2] }
  | _ => none }
def FnExactTreeAfterWrongFalsely : Prop := fnExactTreeAfterRow.holds Try.pinned (OpenSpec.ofChange fnExactTreeAfterWrong)

/-- 'laws.FnExactTreeFind': WHATEVER THE INPUT: true; the input reads as it did. -/
def fnExactTreeFindSpec : ChangeSpec := { name := "fnExactTreeFind", fn := fun _ => fun
  | [d1, d2, d3] => { results := [.lit (.bool true)], args := [d1, d2, d3] }
  | _ => none }
def fnExactTreeFindRow : OpenClaim := { program := "ytjbghmdbceekiaa", sum := "e6c3f175941e04e04a754b763a431e6a3a21e4cd1abedd8443304f01f79d84b9", func := "loop.example/g00114/laws.FnExactTreeFind", spec := "fnExactTreeFind", recurses := true, apart := false }
def FnExactTreeFindSaid : Prop := fnExactTreeFindRow.holds Try.pinned (OpenSpec.ofChange fnExactTreeFindSpec)

/-- ITS FALSE NEIGHBOUR: 'it returns false'. Refute it at one input. -/
def fnExactTreeFindWrong : ChangeSpec := { name := "fnExactTreeFind", fn := fun _ => fun
  | [d1, d2, d3] => { results := [.lit (.bool false)], args := [d1, d2, d3] }
  | _ => none }
def FnExactTreeFindWrongFalsely : Prop := fnExactTreeFindRow.holds Try.pinned (OpenSpec.ofChange fnExactTreeFindWrong)

/-- 'laws.FnExactSchemaLeaves': WHATEVER THE INPUT: true; the input reads as it did. -/
def fnExactSchemaLeavesSpec : ChangeSpec := { name := "fnExactSchemaLeaves", fn := fun _ => fun
  | [d] => { results := [.lit (.bool true)], args := [d] }
  | _ => none }
def fnExactSchemaLeavesRow : OpenClaim := { program := "ytjbghmdbceekiaa", sum := "e6c3f175941e04e04a754b763a431e6a3a21e4cd1abedd8443304f01f79d84b9", func := "loop.example/g00114/laws.FnExactSchemaLeaves", spec := "fnExactSchemaLeaves", recurses := true, apart := false }
def FnExactSchemaLeavesSaid : Prop := fnExactSchemaLeavesRow.holds Try.pinned (OpenSpec.ofChange fnExactSchemaLeavesSpec)

/-- ITS FALSE NEIGHBOUR: 'it returns false'. Refute it at one input. -/
def fnExactSchemaLeavesWrong : ChangeSpec := { name := "fnExactSchemaLeaves", fn := fun _ => fun
  | [d] => { results := [.lit (.bool false)], args := [d] }
  | _ => none }
def FnExactSchemaLeavesWrongFalsely : Prop := fnExactSchemaLeavesRow.holds Try.pinned (OpenSpec.ofChange fnExactSchemaLeavesWrong)

/-- 'laws.FnExactTreeTextOf': WHATEVER THE INPUT: true; the input reads as it did. -/
def fnExactTreeTextOfSpec : ChangeSpec := { name := "fnExactTreeTextOf", fn := fun _ => fun
  | [d1, d2, d3] => { results := [.lit (.bool true)], args := [d1, d2, d3] }
  | _ => none }
def fnExactTreeTextOfRow : OpenClaim := { program := "ytjbghmdbceekiaa", sum := "e6c3f175941e04e04a754b763a431e6a3a21e4cd1abedd8443304f01f79d84b9", func := "loop.example/g00114/laws.FnExactTreeTextOf", spec := "fnExactTreeTextOf", recurses := true, apart := false }
def FnExactTreeTextOfSaid : Prop := fnExactTreeTextOfRow.holds Try.pinned (OpenSpec.ofChange fnExactTreeTextOfSpec)

/-- ITS FALSE NEIGHBOUR: 'it returns false'. Refute it at one input. -/
def fnExactTreeTextOfWrong : ChangeSpec := { name := "fnExactTreeTextOf", fn := fun _ => fun
  | [d1, d2, d3] => { results := [.lit (.bool false)], args := [d1, d2, d3] }
  | _ => none }
def FnExactTreeTextOfWrongFalsely : Prop := fnExactTreeTextOfRow.holds Try.pinned (OpenSpec.ofChange fnExactTreeTextOfWrong)

/-- 'laws.FnExactLeafMax': WHATEVER THE INPUT: true; the input reads as it did. -/
def fnExactLeafMaxSpec : ChangeSpec := { name := "fnExactLeafMax", fn := fun _ => fun
  | [d1, d2] => { results := [.lit (.bool true)], args := [d1, d2] }
  | _ => none }
def fnExactLeafMaxRow : OpenClaim := { program := "ytjbghmdbceekiaa", sum := "e6c3f175941e04e04a754b763a431e6a3a21e4cd1abedd8443304f01f79d84b9", func := "loop.example/g00114/laws.FnExactLeafMax", spec := "fnExactLeafMax", recurses := true, apart := false }
def FnExactLeafMaxSaid : Prop := fnExactLeafMaxRow.holds Try.pinned (OpenSpec.ofChange fnExactLeafMaxSpec)

/-- ITS FALSE NEIGHBOUR: 'it returns false'. Refute it at one input. -/
def fnExactLeafMaxWrong : ChangeSpec := { name := "fnExactLeafMax", fn := fun _ => fun
  | [d1, d2] => { results := [.lit (.bool false)], args := [d1, d2] }
  | _ => none }
def FnExactLeafMaxWrongFalsely : Prop := fnExactLeafMaxRow.holds Try.pinned (OpenSpec.ofChange fnExactLeafMaxWrong)

/-- 'laws.FnLeaves': WHATEVER THE INPUT: true; the input reads as it did. -/
def fnLeavesSpec : ChangeSpec := { name := "fnLeaves", fn := fun _ => fun
  | [d] => { results := [.lit (.bool true)], args := [d] }
  | _ => none }
def fnLeavesRow : OpenClaim := { program := "ytjbghmdbceekiaa", sum := "e6c3f175941e04e04a754b763a431e6a3a21e4cd1abedd8443304f01f79d84b9", func := "loop.example/g00114/laws.FnLeaves", spec := "fnLeaves", recurses := true, apart := false }
def FnLeavesSaid : Prop := fnLeavesRow.holds Try.pinned (OpenSpec.ofChange fnLeavesSpec)

/-- ITS FALSE NEIGHBOUR: 'it returns false'. Refute it at one input. -/
def fnLeavesWrong : ChangeSpec := { name := "fnLeaves", fn := fun _ => fun
  | [d] => { results := [.lit (.bool false)], args := [d] }
  | _ => none }
def FnLeavesWrongFalsely : Prop := fnLeavesRow.holds Try.pinned (OpenSpec.ofChange fnLeavesWrong)

/-- 'laws.FnExactLeafPath': WHATEVER THE INPUT: true; the input reads as it did. -/
def fnExactLeafPathSpec : ChangeSpec := { name := "fnExactLeafPath", fn := fun _ => fun
  | [d1, d2] => { results := [.lit (.bool true)], args := [d1, d2] }
  | _ => none }
def fnExactLeafPathRow : OpenClaim := { program := "ytjbghmdbceekiaa", sum := "e6c3f175941e04e04a754b763a431e6a3a21e4cd1abedd8443304f01f79d84b9", func := "loop.example/g00114/laws.FnExactLeafPath", spec := "fnExactLeafPath", recurses := true, apart := false }
def FnExactLeafPathSaid : Prop := fnExactLeafPathRow.holds Try.pinned (OpenSpec.ofChange fnExactLeafPathSpec)

/-- ITS FALSE NEIGHBOUR: 'it returns false'. Refute it at one input. -/
def fnExactLeafPathWrong : ChangeSpec := { name := "fnExactLeafPath", fn := fun _ => fun
  | [d1, d2] => { results := [.lit (.bool false)], args := [d1, d2] }
  | _ => none }
def FnExactLeafPathWrongFalsely : Prop := fnExactLeafPathRow.holds Try.pinned (OpenSpec.ofChange fnExactLeafPathWrong)

/-- 'laws.FnExactSchemaTree': WHATEVER THE INPUT: true; the input reads as it did. -/
def fnExactSchemaTreeSpec : ChangeSpec := { name := "fnExactSchemaTree", fn := fun _ => fun
  | [d] => { results := [.lit (.bool true)], args := [d] }
  | _ => none }
def fnExactSchemaTreeRow : OpenClaim := { program := "ytjbghmdbceekiaa", sum := "e6c3f175941e04e04a754b763a431e6a3a21e4cd1abedd8443304f01f79d84b9", func := "loop.example/g00114/laws.FnExactSchemaTree", spec := "fnExactSchemaTree", recurses := true, apart := false }
def FnExactSchemaTreeSaid : Prop := fnExactSchemaTreeRow.holds Try.pinned (OpenSpec.ofChange fnExactSchemaTreeSpec)

/-- ITS FALSE NEIGHBOUR: 'it returns false'. Refute it at one input. -/
def fnExactSchemaTreeWrong : ChangeSpec := { name := "fnExactSchemaTree", fn := fun _ => fun
  | [d] => { results := [.lit (.bool false)], args := [d] }
  | _ => none }
def FnExactSchemaTreeWrongFalsely : Prop := fnExactSchemaTreeRow.holds Try.pinned (OpenSpec.ofChange fnExactSchemaTreeWrong)

/-- 'laws.FnExactTreePack': WHATEVER THE INPUT: true; the input reads as it did. -/
def fnExactTreePackSpec : ChangeSpec := { name := "fnExactTreePack", fn := fun _ => fun
  | [d] => { results := [.lit (.bool true)], args := [d] }
  | _ => none }
def fnExactTreePackRow : OpenClaim := { program := "ytjbghmdbceekiaa", sum := "e6c3f175941e04e04a754b763a431e6a3a21e4cd1abedd8443304f01f79d84b9", func := "loop.example/g00114/laws.FnExactTreePack", spec := "fnExactTreePack", recurses := true, apart := false }
def FnExactTreePackSaid : Prop := fnExactTreePackRow.holds Try.pinned (OpenSpec.ofChange fnExactTreePackSpec)

/-- ITS FALSE NEIGHBOUR: 'it returns false'. Refute it at one input. -/
def fnExactTreePackWrong : ChangeSpec := { name := "fnExactTreePack", fn := fun _ => fun
  | [d] => { results := [.lit (.bool false)], args := [d] }
  | _ => none }
def FnExactTreePackWrongFalsely : Prop := fnExactTreePackRow.holds Try.pinned (OpenSpec.ofChange fnExactTreePackWrong)

/- THE SECOND FORM. 'bulk': how many values and letters a reading holds, each counted each time it is reached (what is shared counts as often as it is met; a slice's spare places count too). A statement '..UptoSaid' is the law's where the arguments, and the package variables that the reading takes, are together of bulk at most 1048576: NARROWER than '..Said'. Prove '..Said' where nothing that the law and all that it calls make is longer than what came in: it says more and counts as full. Else prove '..UptoSaid'. A law counts once. -/
mutual
def uptoBulk {H : Type} : DataW H → Nat
  | .lit (.string bytes) => bytes.length + 1
  | .lit _ => 1
  | .nil => 1
  | .ptr d => uptoBulk d + 1
  | .slice elems spare => uptoBulkAll elems + uptoBulkAll spare + 1
  | .agg parts => uptoBulkAll parts + 1
  | .iface _ d => uptoBulk d + 1
  | .map entries => uptoBulkEntries entries + 1
  | .held _ => 1
def uptoBulkAll {H : Type} : List (DataW H) → Nat
  | [] => 0
  | d :: r => uptoBulk d + uptoBulkAll r
def uptoBulkEntries {H : Type} : List (Lit × DataW H) → Nat
  | [] => 0
  | x :: r => uptoBulkEntry x + uptoBulkEntries r
def uptoBulkEntry {H : Type} : Lit × DataW H → Nat
  | (.string bytes, d) => bytes.length + uptoBulk d + 1
  | (_, d) => uptoBulk d + 1
 end
def uptoSmall : (H : Type) → List (DataW H) → Bool := fun _ ds => decide (uptoBulkAll ds ≤ 1048576)
def OpenSpec.upto (s : _root_.Go.ChangeSpec) : _root_.Go.OpenSpec := { _root_.Go.OpenSpec.ofChange s with cond := some uptoSmall }

/-- 'laws.FnExactSchemaOk', WHERE WHAT IT READS IS OF BULK AT MOST 1048576: true; the input reads as it did. -/
def fnExactSchemaOkUptoRow : OpenClaim := { program := "ytjbghmdbceekiaa", sum := "e6c3f175941e04e04a754b763a431e6a3a21e4cd1abedd8443304f01f79d84b9", func := "loop.example/g00114/laws.FnExactSchemaOk", spec := "fnExactSchemaOk", recurses := true, apart := false, narrowed := true }
def FnExactSchemaOkUptoSaid : Prop := fnExactSchemaOkUptoRow.holds Try.pinned (OpenSpec.upto fnExactSchemaOkSpec)

/-- 'laws.FnExactSchemaAfter', WHERE WHAT IT READS IS OF BULK AT MOST 1048576: true; the input reads as it did. -/
def fnExactSchemaAfterUptoRow : OpenClaim := { program := "ytjbghmdbceekiaa", sum := "e6c3f175941e04e04a754b763a431e6a3a21e4cd1abedd8443304f01f79d84b9", func := "loop.example/g00114/laws.FnExactSchemaAfter", spec := "fnExactSchemaAfter", recurses := true, apart := false, narrowed := true }
def FnExactSchemaAfterUptoSaid : Prop := fnExactSchemaAfterUptoRow.holds Try.pinned (OpenSpec.upto fnExactSchemaAfterSpec)

/-- 'laws.FnExactTreeOk', WHERE WHAT IT READS IS OF BULK AT MOST 1048576: true; the input reads as it did. -/
def fnExactTreeOkUptoRow : OpenClaim := { program := "ytjbghmdbceekiaa", sum := "e6c3f175941e04e04a754b763a431e6a3a21e4cd1abedd8443304f01f79d84b9", func := "loop.example/g00114/laws.FnExactTreeOk", spec := "fnExactTreeOk", recurses := true, apart := false, narrowed := true }
def FnExactTreeOkUptoSaid : Prop := fnExactTreeOkUptoRow.holds Try.pinned (OpenSpec.upto fnExactTreeOkSpec)

/-- 'laws.FnExactTreeAfter', WHERE WHAT IT READS IS OF BULK AT MOST 1048576: true; the input reads as it did. -/
def fnExactTreeAfterUptoRow : OpenClaim := { program := "ytjbghmdbceekiaa", sum := "e6c3f175941e04e04a754b763a431e6a3a21e4cd1abedd8443304f01f79d84b9", func := "loop.example/g00114/laws.FnExactTreeAfter", spec := "fnExactTreeAfter", recurses := true, apart := false, narrowed := true }
def FnExactTreeAfterUptoSaid : Prop := fnExactTreeAfterUptoRow.holds Try.pinned (OpenSpec.upto fnExactTreeAfterSpec)

/-- 'laws.FnExactTreeFind', WHERE WHAT IT READS IS OF BULK AT MOST 1048576: true; the input reads as it did. -/
def fnExactTreeFindUptoRow : OpenClaim := { program := "ytjbghmdbceekiaa", sum := "e6c3f175941e04e04a754b763a431e6a3a21e4cd1abedd8443304f01f79d84b9", func := "loop.example/g00114/laws.FnExactTreeFind", spec := "fnExactTreeFind", recurses := true, apart := false, narrowed := true }
def FnExactTreeFindUptoSaid : Prop := fnExactTreeFindUptoRow.holds Try.pinned (OpenSpec.upto fnExactTreeFindSpec)

/-- 'laws.FnExactSchemaLeaves', WHERE WHAT IT READS IS OF BULK AT MOST 1048576: true; the input reads as it did. -/
def fnExactSchemaLeavesUptoRow : OpenClaim := { program := "ytjbghmdbceekiaa", sum := "e6c3f175941e04e04a754b763a431e6a3a21e4cd1abedd8443304f01f79d84b9", func := "loop.example/g00114/laws.FnExactSchemaLeaves", spec := "fnExactSchemaLeaves", recurses := true, apart := false, narrowed := true }
def FnExactSchemaLeavesUptoSaid : Prop := fnExactSchemaLeavesUptoRow.holds Try.pinned (OpenSpec.upto fnExactSchemaLeavesSpec)

/-- 'laws.FnExactTreeTextOf', WHERE WHAT IT READS IS OF BULK AT MOST 1048576: true; the input reads as it did. -/
def fnExactTreeTextOfUptoRow : OpenClaim := { program := "ytjbghmdbceekiaa", sum := "e6c3f175941e04e04a754b763a431e6a3a21e4cd1abedd8443304f01f79d84b9", func := "loop.example/g00114/laws.FnExactTreeTextOf", spec := "fnExactTreeTextOf", recurses := true, apart := false, narrowed := true }
def FnExactTreeTextOfUptoSaid : Prop := fnExactTreeTextOfUptoRow.holds Try.pinned (OpenSpec.upto fnExactTreeTextOfSpec)

/-- 'laws.FnExactLeafMax', WHERE WHAT IT READS IS OF BULK AT MOST 1048576: true; the input reads as it did. -/
def fnExactLeafMaxUptoRow : OpenClaim := { program := "ytjbghmdbceekiaa", sum := "e6c3f175941e04e04a754b763a431e6a3a21e4cd1abedd8443304f01f79d84b9", func := "loop.example/g00114/laws.FnExactLeafMax", spec := "fnExactLeafMax", recurses := true, apart := false, narrowed := true }
def FnExactLeafMaxUptoSaid : Prop := fnExactLeafMaxUptoRow.holds Try.pinned (OpenSpec.upto fnExactLeafMaxSpec)

/-- 'laws.FnLeaves', WHERE WHAT IT READS IS OF BULK AT MOST 1048576: true; the input reads as it did. -/
def fnLeavesUptoRow : OpenClaim := { program := "ytjbghmdbceekiaa", sum := "e6c3f175941e04e04a754b763a431e6a3a21e4cd1abedd8443304f01f79d84b9", func := "loop.example/g00114/laws.FnLeaves", spec := "fnLeaves", recurses := true, apart := false, narrowed := true }
def FnLeavesUptoSaid : Prop := fnLeavesUptoRow.holds Try.pinned (OpenSpec.upto fnLeavesSpec)

/-- 'laws.FnExactLeafPath', WHERE WHAT IT READS IS OF BULK AT MOST 1048576: true; the input reads as it did. -/
def fnExactLeafPathUptoRow : OpenClaim := { program := "ytjbghmdbceekiaa", sum := "e6c3f175941e04e04a754b763a431e6a3a21e4cd1abedd8443304f01f79d84b9", func := "loop.example/g00114/laws.FnExactLeafPath", spec := "fnExactLeafPath", recurses := true, apart := false, narrowed := true }
def FnExactLeafPathUptoSaid : Prop := fnExactLeafPathUptoRow.holds Try.pinned (OpenSpec.upto fnExactLeafPathSpec)

/-- 'laws.FnExactSchemaTree', WHERE WHAT IT READS IS OF BULK AT MOST 1048576: true; the input reads as it did. -/
def fnExactSchemaTreeUptoRow : OpenClaim := { program := "ytjbghmdbceekiaa", sum := "e6c3f175941e04e04a754b763a431e6a3a21e4cd1abedd8443304f01f79d84b9", func := "loop.example/g00114/laws.FnExactSchemaTree", spec := "fnExactSchemaTree", recurses := true, apart := false, narrowed := true }
def FnExactSchemaTreeUptoSaid : Prop := fnExactSchemaTreeUptoRow.holds Try.pinned (OpenSpec.upto fnExactSchemaTreeSpec)

/-- 'laws.FnExactTreePack', WHERE WHAT IT READS IS OF BULK AT MOST 1048576: true; the input reads as it did. -/
def fnExactTreePackUptoRow : OpenClaim := { program := "ytjbghmdbceekiaa", sum := "e6c3f175941e04e04a754b763a431e6a3a21e4cd1abedd8443304f01f79d84b9", func := "loop.example/g00114/laws.FnExactTreePack", spec := "fnExactTreePack", recurses := true, apart := false, narrowed := true }
def FnExactTreePackUptoSaid : Prop := fnExactTreePackUptoRow.holds Try.pinned (OpenSpec.upto fnExactTreePackSpec)

end Rows
end Go.Proofs.Ytjbghmdbceekiaa
