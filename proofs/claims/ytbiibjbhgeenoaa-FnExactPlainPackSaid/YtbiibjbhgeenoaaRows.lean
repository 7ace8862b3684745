/-
  No cell of these rows narrows 'for every input' (looked for: loops, veiled, ifaces, maps, wideKeys, modest, calm, conditions, laid).
  DERIVED. THE GIVEN ROWS OF THIS SEAT. 12 by the template 'for every input the law returns true; each argument reads behind the call as it read before'; 0 by the template 'total and deterministic' (their statements: YtbiibjbhgeenoaaTotals.lean).
  GIVEN WITH THE SEED: the statements are not yours to turn. If you find one false, say at which input.
  Laid BY PROGRAM, IN A SANDBOX (cutbox-rows.mjs): the forced cells as the released guide's own fill.sh prints them over the translation e09f27efeb46e3d4… (all of the seat's roots in one cut). By AI agents, Wed Nov 11 2026. No macro, syntax, notation, axiom, sorry.
-/
import Derived.Test.YtbiibjbhgeenoaaChecked
import GoSem.Claim
import GoSem.ClaimJoined
import GoSem.ClaimMapViews
import Derived.JoinedTies
import Derived.KernelRfl
namespace Go.Proofs.Ytbiibjbhgeenoaa
/- THE CELL 'sum', in the pinned program and in every row, IS THE sha256 OF THE DUMP (.gsa) THAT YtbiibjbhgeenoaaProg.lean LOADS. Nothing in Lean hashes anything: it is a label: what it is worth is what the hold of that sum in a sandbox is worth. -/
noncomputable def Try.pinned : Pinned := { name := "ytbiibjbhgeenoaa", sum := "e09f27efeb46e3d48a57763a739ce9df52652f31bc6445d35899d2b61ac4e26d", checked := Try.checked }
namespace Rows
def none {H : Type} : Left H := { results := [], args := [] }

/-- 'laws.FnVarints': WHATEVER THE INPUT: true; the input reads as it did. -/
def fnVarintsSpec : ChangeSpec := { name := "fnVarints", fn := fun _ => fun
  | [d] => { results := [.lit (.bool true)], args := [d] }
  | _ => none }
def fnVarintsRow : OpenClaim := { program := "ytbiibjbhgeenoaa", sum := "e09f27efeb46e3d48a57763a739ce9df52652f31bc6445d35899d2b61ac4e26d", func := "loop.example/g00114/laws.FnVarints", spec := "fnVarints", apart := false }
def FnVarintsSaid : Prop := fnVarintsRow.holds Try.pinned (OpenSpec.ofChange fnVarintsSpec)

/-- ITS FALSE NEIGHBOUR: 'it returns false'. Refute it at one input. -/
def fnVarintsWrong : ChangeSpec := { name := "fnVarints", fn := fun _ => fun
  | [d] => { results := [.lit (.bool false)], args := [d] }
  | _ => none }
def FnVarintsWrongFalsely : Prop := fnVarintsRow.holds Try.pinned (OpenSpec.ofChange fnVarintsWrong)

/-- 'laws.FnExactBitsRead': WHATEVER THE INPUT: true; the input reads as it did. -/
def fnExactBitsReadSpec : ChangeSpec := { name := "fnExactBitsRead", fn := fun _ => fun
  | [d1, d2, d3, d4] => { results := [.lit (.bool true)], args := [d1, d2, d3, d4] }
  | _ => none }
def fnExactBitsReadRow : OpenClaim := { program := "ytbiibjbhgeenoaa", sum := "e09f27efeb46e3d48a57763a739ce9df52652f31bc6445d35899d2b61ac4e26d", func := "loop.example/g00114/laws.FnExactBitsRead", spec := "fnExactBitsRead", apart := false }
def FnExactBitsReadSaid : Prop := fnExactBitsReadRow.holds Try.pinned (OpenSpec.ofChange fnExactBitsReadSpec)

/-- ITS FALSE NEIGHBOUR: 'it returns false'. Refute it at one input. -/
def fnExactBitsReadWrong : ChangeSpec := { name := "fnExactBitsRead", fn := fun _ => fun
  | [d1, d2, d3, d4] => { results := [.lit (.bool false)], args := [d1, d2, d3, d4] }
  | _ => none }
def FnExactBitsReadWrongFalsely : Prop := fnExactBitsReadRow.holds Try.pinned (OpenSpec.ofChange fnExactBitsReadWrong)

/-- 'laws.FnExactBitsPack': WHATEVER THE INPUT: true; the input reads as it did. -/
def fnExactBitsPackSpec : ChangeSpec := { name := "fnExactBitsPack", fn := fun _ => fun
  | [d1, d2] => { results := [.lit (.bool true)], args := [d1, d2] }
  | _ => none }
def fnExactBitsPackRow : OpenClaim := { program := "ytbiibjbhgeenoaa", sum := "e09f27efeb46e3d48a57763a739ce9df52652f31bc6445d35899d2b61ac4e26d", func := "loop.example/g00114/laws.FnExactBitsPack", spec := "fnExactBitsPack", apart := false }
def FnExactBitsPackSaid : Prop := fnExactBitsPackRow.holds Try.pinned (OpenSpec.ofChange fnExactBitsPackSpec)

/-- ITS FALSE NEIGHBOUR: 'it returns false'. Refute it at one input. -/
def fnExactBitsPackWrong : ChangeSpec := { name := "fnExactBitsPack", fn := fun _ => fun
  | [d1, d2] => { results := [.lit (.bool false)], args := [d1, d2] }
  | _ => none }
def FnExactBitsPackWrongFalsely : Prop := fnExactBitsPackRow.holds Try.pinned (OpenSpec.ofChange fnExactBitsPackWrong)

/-- 'laws.FnVarRead': WHATEVER THE INPUT: true; the input reads as it did. -/
def fnVarReadSpec : ChangeSpec := { name := "fnVarRead", fn := fun _ => fun
  | [d] => { results := [.lit (.bool true)], args := [d] }
  | _ => none }
def fnVarReadRow : OpenClaim := { program := "ytbiibjbhgeenoaa", sum := "e09f27efeb46e3d48a57763a739ce9df52652f31bc6445d35899d2b61ac4e26d", func := "loop.example/g00114/laws.FnVarRead", spec := "fnVarRead", apart := false }
def FnVarReadSaid : Prop := fnVarReadRow.holds Try.pinned (OpenSpec.ofChange fnVarReadSpec)

/-- ITS FALSE NEIGHBOUR: 'it returns false'. Refute it at one input. -/
def fnVarReadWrong : ChangeSpec := { name := "fnVarRead", fn := fun _ => fun
  | [d] => { results := [.lit (.bool false)], args := [d] }
  | _ => none }
def FnVarReadWrongFalsely : Prop := fnVarReadRow.holds Try.pinned (OpenSpec.ofChange fnVarReadWrong)

/-- 'laws.FnOrder': WHATEVER THE INPUT: true; the input reads as it did. -/
def fnOrderSpec : ChangeSpec := { name := "fnOrder", fn := fun _ => fun
  | [d] => { results := [.lit (.bool true)], args := [d] }
  | _ => none }
def fnOrderRow : OpenClaim := { program := "ytbiibjbhgeenoaa", sum := "e09f27efeb46e3d48a57763a739ce9df52652f31bc6445d35899d2b61ac4e26d", func := "loop.example/g00114/laws.FnOrder", spec := "fnOrder", apart := false }
def FnOrderSaid : Prop := fnOrderRow.holds Try.pinned (OpenSpec.ofChange fnOrderSpec)

/-- ITS FALSE NEIGHBOUR: 'it returns false'. Refute it at one input. -/
def fnOrderWrong : ChangeSpec := { name := "fnOrder", fn := fun _ => fun
  | [d] => { results := [.lit (.bool false)], args := [d] }
  | _ => none }
def FnOrderWrongFalsely : Prop := fnOrderRow.holds Try.pinned (OpenSpec.ofChange fnOrderWrong)

/-- 'laws.FnBits': WHATEVER THE INPUT: true; the input reads as it did. -/
def fnBitsSpec : ChangeSpec := { name := "fnBits", fn := fun _ => fun
  | [d] => { results := [.lit (.bool true)], args := [d] }
  | _ => none }
def fnBitsRow : OpenClaim := { program := "ytbiibjbhgeenoaa", sum := "e09f27efeb46e3d48a57763a739ce9df52652f31bc6445d35899d2b61ac4e26d", func := "loop.example/g00114/laws.FnBits", spec := "fnBits", apart := false }
def FnBitsSaid : Prop := fnBitsRow.holds Try.pinned (OpenSpec.ofChange fnBitsSpec)

/-- ITS FALSE NEIGHBOUR: 'it returns false'. Refute it at one input. -/
def fnBitsWrong : ChangeSpec := { name := "fnBits", fn := fun _ => fun
  | [d] => { results := [.lit (.bool false)], args := [d] }
  | _ => none }
def FnBitsWrongFalsely : Prop := fnBitsRow.holds Try.pinned (OpenSpec.ofChange fnBitsWrong)

/-- 'laws.FnExactRunPack': WHATEVER THE INPUT: true; the input reads as it did. -/
def fnExactRunPackSpec : ChangeSpec := { name := "fnExactRunPack", fn := fun _ => fun
  | [d1, d2] => { results := [.lit (.bool true)], args := [d1, d2] }
  | _ => none }
def fnExactRunPackRow : OpenClaim := { program := "ytbiibjbhgeenoaa", sum := "e09f27efeb46e3d48a57763a739ce9df52652f31bc6445d35899d2b61ac4e26d", func := "loop.example/g00114/laws.FnExactRunPack", spec := "fnExactRunPack", apart := false }
def FnExactRunPackSaid : Prop := fnExactRunPackRow.holds Try.pinned (OpenSpec.ofChange fnExactRunPackSpec)

/-- ITS FALSE NEIGHBOUR: 'it returns false'. Refute it at one input. -/
def fnExactRunPackWrong : ChangeSpec := { name := "fnExactRunPack", fn := fun _ => fun
  | [d1, d2] => { results := [.lit (.bool false)], args := [d1, d2] }
  | _ => none }
def FnExactRunPackWrongFalsely : Prop := fnExactRunPackRow.holds Try.pinned (OpenSpec.ofChange fnExactRunPackWrong)

/-- 'laws.FnExactRunRead': WHATEVER THE INPUT: true; the input reads as it did. -/
def fnExactRunReadSpec : ChangeSpec := { name := "fnExactRunRead", fn := fun _ => fun
  | [d1, d2, d3, d4] => { results := [.lit (.bool true)], args := [d1, d2, d3, d4] }
  | _ => none }
def fnExactRunReadRow : OpenClaim := { program := "ytbiibjbhgeenoaa", sum := "e09f27efeb46e3d48a57763a739ce9df52652f31bc6445d35899d2b61ac4e26d", func := "loop.example/g00114/laws.FnExactRunRead", spec := "fnExactRunRead", apart := false }
def FnExactRunReadSaid : Prop := fnExactRunReadRow.holds Try.pinned (OpenSpec.ofChange fnExactRunReadSpec)

/-- ITS FALSE NEIGHBOUR: 'it returns false'. Refute it at one input. -/
def fnExactRunReadWrong : ChangeSpec := { name := "fnExactRunRead", fn := fun _ => fun
  | [d1, d2, d3, d4] => { results := [.lit (.bool false)], args := [d1, d2, d3, d4] }
  | _ => none }
def FnExactRunReadWrongFalsely : Prop := fnExactRunReadRow.holds Try.pinned (OpenSpec.ofChange fnExactRunReadWrong)

/-- 'laws.FnExactPlainRead': WHATEVER THE INPUT: true; the input reads as it did. -/
def fnExactPlainReadSpec : ChangeSpec := { name := "fnExactPlainRead", fn := fun _ => fun
  | [d1, d2, d3, d4] => { results := [.lit (.bool true)], args := [d1, d2, d3, d4] }
  | _ => none }
def fnExactPlainReadRow : OpenClaim := { program := "ytbiibjbhgeenoaa", sum := "e09f27efeb46e3d48a57763a739ce9df52652f31bc6445d35899d2b61ac4e26d", func := "loop.example/g00114/laws.FnExactPlainRead", spec := "fnExactPlainRead", apart := false }
def FnExactPlainReadSaid : Prop := fnExactPlainReadRow.holds Try.pinned (OpenSpec.ofChange fnExactPlainReadSpec)

/-- ITS FALSE NEIGHBOUR: 'it returns false'. Refute it at one input. -/
def fnExactPlainReadWrong : ChangeSpec := { name := "fnExactPlainRead", fn := fun _ => fun
  | [d1, d2, d3, d4] => { results := [.lit (.bool false)], args := [d1, d2, d3, d4] }
  | _ => none }
def FnExactPlainReadWrongFalsely : Prop := fnExactPlainReadRow.holds Try.pinned (OpenSpec.ofChange fnExactPlainReadWrong)

/-- 'laws.FnExactPlainPack': WHATEVER THE INPUT: true; the input reads as it did. -/
def fnExactPlainPackSpec : ChangeSpec := { name := "fnExactPlainPack", fn := fun _ => fun
  | [d1, d2] => { results := [.lit (.bool true)], args := [d1, d2] }
  | _ => none }
def fnExactPlainPackRow : OpenClaim := { program := "ytbiibjbhgeenoaa", sum := "e09f27efeb46e3d48a57763a739ce9df52652f31bc6445d35899d2b61ac4e26d", func := "loop.example/g00114/laws.FnExactPlainPack", spec := "fnExactPlainPack", apart := false }
def FnExactPlainPackSaid : Prop := fnExactPlainPackRow.holds Try.pinned (OpenSpec.ofChange fnExactPlainPackSpec)

/-- ITS FALSE NEIGHBOUR: 'it returns false'. Refute it at one input. -/
def fnExactPlainPackWrong : ChangeSpec := { name := "fnExactPlainPack", fn := fun _ => fun
  | [d1, d2] => { results := [.lit (.bool false)], args := [d1, d2] }
  | _ => none }
def FnExactPlainPackWrongFalsely : Prop := fnExactPlainPackRow.holds Try.pinned (OpenSpec.ofChange fnExactPlainPackWrong)

/-- 'laws.FnExactLevelsPack': WHATEVER THE INPUT: true; the input reads as it did. -/
def fnExactLevelsPackSpec : ChangeSpec := { name := "fnExactLevelsPack", fn := fun _ => fun
  | [d1, d2] => { results := [.lit (.bool true)], args := [d1, d2] }
  | _ => none }
def fnExactLevelsPackRow : OpenClaim := { program := "ytbiibjbhgeenoaa", sum := "e09f27efeb46e3d48a57763a739ce9df52652f31bc6445d35899d2b61ac4e26d", func := "loop.example/g00114/laws.FnExactLevelsPack", spec := "fnExactLevelsPack", apart := false }
def FnExactLevelsPackSaid : Prop := fnExactLevelsPackRow.holds Try.pinned (OpenSpec.ofChange fnExactLevelsPackSpec)

/-- ITS FALSE NEIGHBOUR: 'it returns false'. Refute it at one input. -/
def fnExactLevelsPackWrong : ChangeSpec := { name := "fnExactLevelsPack", fn := fun _ => fun
  | [d1, d2] => { results := [.lit (.bool false)], args := [d1, d2] }
  | _ => none }
def FnExactLevelsPackWrongFalsely : Prop := fnExactLevelsPackRow.holds Try.pinned (OpenSpec.ofChange fnExactLevelsPackWrong)

/-- 'laws.FnExactLevelsRead': WHATEVER THE INPUT: true; the input reads as it did. -/
def fnExactLevelsReadSpec : ChangeSpec := { name := "fnExactLevelsRead", fn := fun _ => fun
  | [d1, d2, d3, d4] => { results := [.lit (.bool true)], args := [d1, d2, d3, d4] }
  | _ => none }
def fnExactLevelsReadRow : OpenClaim := { program := "ytbiibjbhgeenoaa", sum := "e09f27efeb46e3d48a57763a739ce9df52652f31bc6445d35899d2b61ac4e26d", func := "loop.example/g00114/laws.FnExactLevelsRead", spec := "fnExactLevelsRead", apart := false }
def FnExactLevelsReadSaid : Prop := fnExactLevelsReadRow.holds Try.pinned (OpenSpec.ofChange fnExactLevelsReadSpec)

/-- ITS FALSE NEIGHBOUR: 'it returns false'. Refute it at one input. -/
def fnExactLevelsReadWrong : ChangeSpec := { name := "fnExactLevelsRead", fn := fun _ => fun
  | [d1, d2, d3, d4] => { results := [.lit (.bool false)], args := [d1, d2, d3, d4] }
  | _ => none }
def FnExactLevelsReadWrongFalsely : Prop := fnExactLevelsReadRow.holds Try.pinned (OpenSpec.ofChange fnExactLevelsReadWrong)

/- THE SECOND FORM. 'bulk': how many values and letters a reading holds, each counted each time it is reached (what is shared counts as often as it is met; a slice's spare places count too). A statement '..UptoSaid' is the law's where the arguments, and the package variables that the reading takes, are together of bulk at most 1048576: NARROWER than '..Said'. Prove '..Said' where nothing that the law and all that it calls make is longer than what came in: it says more and counts as full. Else prove '..UptoSaid'. A law counts once. -/
mutual
def uptoBulk {H : Type} : DataW H → Nat
  | .lit (.string bytes) => bytes.length + 1
  | .lit _ => 1
  | .nil => 1
  | .ptr d => uptoBulk d + 1
  | .slice elems spare => uptoBulkAll elems + uptoBulkAll spare + 1
  | .agg parts => uptoBulkAll parts + 1
  | .iface _ d => uptoBulk d + 1
  | .map entries => uptoBulkEntries entries + 1
  | .held _ => 1
def uptoBulkAll {H : Type} : List (DataW H) → Nat
  | [] => 0
  | d :: r => uptoBulk d + uptoBulkAll r
def uptoBulkEntries {H : Type} : List (Lit × DataW H) → Nat
  | [] => 0
  | x :: r => uptoBulkEntry x + uptoBulkEntries r
def uptoBulkEntry {H : Type} : Lit × DataW H → Nat
  | (.string bytes, d) => bytes.length + uptoBulk d + 1
  | (_, d) => uptoBulk d + 1
 end
def uptoSmall : (H : Type) → List (DataW H) → Bool := fun _ ds => decide (uptoBulkAll ds ≤ 1048576)
def OpenSpec.upto (s : _root_.Go.ChangeSpec) : _root_.Go.OpenSpec := { _root_.Go.OpenSpec.ofChange s with cond := some uptoSmall }

/-- 'laws.FnVarints', WHERE WHAT IT READS IS OF BULK AT MOST 1048576: true; the input reads as it did. -/
def fnVarintsUptoRow : OpenClaim := { program := "ytbiibjbhgeenoaa", sum := "e09f27efeb46e3d48a57763a739ce9df52652f31bc6445d35899d2b61ac4e26d", func := "loop.example/g00114/laws.FnVarints", spec := "fnVarints", apart := false, narrowed := true }
def FnVarintsUptoSaid : Prop := fnVarintsUptoRow.holds Try.pinned (OpenSpec.upto fnVarintsSpec)

/-- 'laws.FnExactBitsRead', WHERE WHAT IT READS IS OF BULK AT MOST 1048576: true; the input reads as it did. -/
def fnExactBitsReadUptoRow : OpenClaim := { program := "ytbiibjbhgeenoaa", sum := "e09f27efeb46e3d48a57763a739ce9df52652f31bc6445d35899d2b61ac4e26d", func := "loop.example/g00114/laws.FnExactBitsRead", spec := "fnExactBitsRead", apart := false, narrowed := true }
def FnExactBitsReadUptoSaid : Prop := fnExactBitsReadUptoRow.holds Try.pinned (OpenSpec.upto fnExactBitsReadSpec)

/-- 'laws.FnExactBitsPack', WHERE WHAT IT READS IS OF BULK AT MOST 1048576: true; the input reads as it did. -/
def fnExactBitsPackUptoRow : OpenClaim := { program := "ytbiibjbhgeenoaa", sum := "e09f27efeb46e3d48a57763a739ce9df52652f31bc6445d35899d2b61ac4e26d", func := "loop.example/g00114/laws.FnExactBitsPack", spec := "fnExactBitsPack", apart := false, narrowed := true }
def FnExactBitsPackUptoSaid : Prop := fnExactBitsPackUptoRow.holds Try.pinned (OpenSpec.upto fnExactBitsPackSpec)

/-- 'laws.FnVarRead', WHERE WHAT IT READS IS OF BULK AT MOST 1048576: true; the input reads as it did. -/
def fnVarReadUptoRow : OpenClaim := { program := "ytbiibjbhgeenoaa", sum := "e09f27efeb46e3d48a57763a739ce9df52652f31bc6445d35899d2b61ac4e26d", func := "loop.example/g00114/laws.FnVarRead", spec := "fnVarRead", apart := false, narrowed := true }
def FnVarReadUptoSaid : Prop := fnVarReadUptoRow.holds Try.pinned (OpenSpec.upto fnVarReadSpec)

/-- 'laws.FnOrder', WHERE WHAT IT READS IS OF BULK AT MOST 1048576: true; the input reads as it did. -/
def fnOrderUptoRow : OpenClaim := { program := "ytbiibjbhgeenoaa", sum := "e09f27efeb46e3d48a57763a739ce9df52652f31bc6445d35899d2b61ac4e26d", func := "loop.example/g00114/laws.FnOrder", spec := "fnOrder", apart := false, narrowed := true }
def FnOrderUptoSaid : Prop := fnOrderUptoRow.holds Try.pinned (OpenSpec.upto fnOrderSpec)

/-- 'laws.FnBits', WHERE WHAT IT READS IS OF BULK AT MOST 1048576: true; the input reads as it did. -/
def fnBitsUptoRow : OpenClaim := { program := "ytbiibjbhgeenoaa", sum := "e09f27efeb46e3d48a57763a739ce9df52652f31bc6445d35899d2b61ac4e26d", func := "loop.example/g00114/laws.FnBits", spec := "fnBits", apart := false, narrowed := true }
def FnBitsUptoSaid : Prop := fnBitsUptoRow.holds Try.pinned (OpenSpec.upto fnBitsSpec)

/-- 'laws.FnExactRunPack', WHERE WHAT IT READS IS OF BULK AT MOST 1048576: true; the input reads as it did. -/
def fnExactRunPackUptoRow : OpenClaim := { program := "ytbiibjbhgeenoaa", sum := "e09f27efeb46e3d48a57763a739ce9df52652f31bc6445d35899d2b61ac4e26d", func := "loop.example/g00114/laws.FnExactRunPack", spec := "fnExactRunPack", apart := false, narrowed := true }
def FnExactRunPackUptoSaid : Prop := fnExactRunPackUptoRow.holds Try.pinned (OpenSpec.upto fnExactRunPackSpec)

/-- 'laws.FnExactRunRead', WHERE WHAT IT READS IS OF BULK AT MOST 1048576: true; the input reads as it did. -/
def fnExactRunReadUptoRow : OpenClaim := { program := "ytbiibjbhgeenoaa", sum := "e09f27efeb46e3d48a57763a739ce9df52652f31bc6445d35899d2b61ac4e26d", func := "loop.example/g00114/laws.FnExactRunRead", spec := "fnExactRunRead", apart := false, narrowed := true }
def FnExactRunReadUptoSaid : Prop := fnExactRunReadUptoRow.holds Try.pinned (OpenSpec.upto fnExactRunReadSpec)

/-- 'laws.FnExactPlainRead', WHERE WHAT IT READS IS OF BULK AT MOST 1048576: true; the input reads as it did. -/
def fnExactPlainReadUptoRow : OpenClaim := { program := "ytbiibjbhgeenoaa", sum := "e09f27efeb46e3d48a57763a739ce9df52652f31bc6445d35899d2b61ac4e26d", func := "loop.example/g00114/laws.FnExactPlainRead", spec := "fnExactPlainRead", apart := false, narrowed := true }
def FnExactPlainReadUptoSaid : Prop := fnExactPlainReadUptoRow.holds Try.pinned (OpenSpec.upto fnExactPlainReadSpec)

/-- 'laws.FnExactPlainPack', WHERE WHAT IT READS IS OF BULK AT MOST 1048576: true; the input reads as it did. -/
def fnExactPlainPackUptoRow : OpenClaim := { program := "ytbiibjbhgeenoaa", sum := "e09f27efeb46e3d48a57763a739ce9df52652f31bc6445d35899d2b61ac4e26d", func := "loop.example/g00114/laws.FnExactPlainPack", spec := "fnExactPlainPack", apart := false, narrowed := true }
def FnExactPlainPackUptoSaid : Prop := fnExactPlainPackUptoRow.holds Try.pinned (OpenSpec.upto fnExactPlainPackSpec)

/-- 'laws.FnExactLevelsPack', WHERE WHAT IT READS IS OF BULK AT MOST 1048576: true; the input reads as it did. -/
def fnExactLevelsPackUptoRow : OpenClaim := { program := "ytbiibjbhgeenoaa", sum := "e09f27efeb46e3d48a57763a739ce9df52652f31bc6445d35899d2b61ac4e26d", func := "loop.example/g00114/laws.FnExactLevelsPack", spec := "fnExactLevelsPack", apart := false, narrowed := true }
def FnExactLevelsPackUptoSaid : Prop := fnExactLevelsPackUptoRow.holds Try.pinned (OpenSpec.upto fnExactLevelsPackSpec)

/-- 'laws.FnExactLevelsRead', WHERE WHAT IT READS IS OF BULK AT MOST 1048576: true; the input reads as it did. -/
def fnExactLevelsReadUptoRow : OpenClaim := { program := "ytbiibjbhgeenoaa", sum := "e09f27efeb46e3d48a57763a739ce9df52652f31bc6445d35899d2b61ac4e26d", func := "loop.example/g00114/laws.FnExactLevelsRead", spec := "fnExactLevelsRead", apart := false, narrowed := true }
def FnExactLevelsReadUptoSaid : Prop := fnExactLevelsReadUptoRow.holds Try.pinned (OpenSpec.upto fnExactLevelsReadSpec)

end Rows
end Go.Proofs.Ytbiibjbhgeenoaa
