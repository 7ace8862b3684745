/- The row of the law FnExactValSame: for all arguments the call returns true; no condition. -/
import Derived.Test.YtgojhlbhfmgkjaaRows
import Derived.Test.YtgojhlbhfmgkjaaPFnExactValSamex2
import Derived.Test.YtgojhlbhfmgkjaaPureFnExactValSame
import Derived.WalkKit
import Derived.ProofKit
import Derived.OpenShut
import Derived.ShutString
import Derived.ChangeOld
import Derived.Below
import Derived.SizedLaws
import Derived.Lib.SmallJoins
import Derived.ChangeSame
import Derived.JoinedOf
import Derived.JoinedAt
import Derived.RowKit3
namespace Go.Proofs.Ytgojhlbhfmgkjaa.fnExactValSame
open Go.ChangeShapes Go.WideShapes Go.ChangeAt Go.RowKit Go.Joins
open Go.ChangeMaps (open_string shut_string)
set_option linter.unusedVariables false
set_option linter.unusedSimpArgs false
theorem own : ownKnob Try.prog.godebug = none := by kernel_rfl
theorem cellsV : Try.prog.cellsOf 28 = 2 := by kernel_rfl
set_option maxRecDepth 100000 in
theorem lifted (os : Os) (started : os.Started) (H : Type) (enc : TypeId × Value → H) :
    ReturnsInHanded {} Try.checked os 9 .any (Rows.fnExactValSameSpec.pre6 enc Try.prog Try.f9 Rows.fnExactValSameRow.domain false) (Rows.fnExactValSameSpec.post enc Try.prog Try.f9 false true false false) := by
  refine returnsInHanded_of_change_sized (C := Try.checked) own started (by kernel_rfl) Try.func9
    (ChangeSpec.witness6 (enc := enc) (C := Try.checked) false ⟨#[], #[.agg #[.int .i64 0, .string ⟨#[]⟩], .agg #[.int .i64 0, .string ⟨#[]⟩]], []⟩ 8 (by kernel_rfl) (by kernel_rfl) (by kernel_rfl) (by kernel_rfl)) ?_
  intro W base args ds gs before hval0 hW hcnd hsz0 _
  have hsz : (DataW.weightsEach Try.prog (Try.f9.params.toList ++ Rows.fnExactValSameSpec.plain.varTypes Try.prog) (ds ++ gs)).all (· ≤ reachBytes) = true := hsz0
  have hval : ∀ (j : Nat) t v, Try.f9.params[j]? = some t → args[j]? = some v → Value.okWide Try.prog W .any base t v := hval0
  have hW' := hW
  obtain ⟨p, q, hA0, hV, rfl, hfz, hnd⟩ := hW
  have hA : DataW.TrodAll enc Try.prog W 0 (fun _ => true) true Try.f9.params.toList args.toList ds p := hA0
  rw [Try.params9] at hA hval hsz
  obtain ⟨v0, vs0, d0, ds0, p0, q0, hargs, rfl, rfl, h0, r0⟩ := trodAll_cons hA
  obtain ⟨v1, vs1, d1, ds1, p1, q1, rfl, rfl, rfl, h1, r1⟩ := trodAll_cons r0
  obtain ⟨rfl, rfl, rfl⟩ := trodAll_nil r1
  obtain rfl : args = #[v0, v1] := by cases args; simp_all
  obtain ⟨rfl, rfl⟩ := trodVars_none hV
  obtain ⟨c0, e0, y0, z0, m0, rfl, rfl, rfl, hy0, hz0⟩ := open_agg2 Try.underlying28 (by kernel_rfl) cellsV (hval 0 28 v0 rfl rfl) h0
  obtain ⟨n0, en0, rfl, w0⟩ := DataW.trod_int Try.underlying3 hy0
  obtain ⟨s0, es0, rfl, ws0⟩ := DataW.trod_string Try.underlying9 hz0
  simp at en0 es0
  subst en0 es0
  obtain ⟨c1, e1, y1, z1, m1, rfl, rfl, rfl, hy1, hz1⟩ := open_agg2 Try.underlying28 (by kernel_rfl) cellsV (hval 1 28 v1 rfl rfl) h1
  obtain ⟨n1, en1, rfl, w1⟩ := DataW.trod_int Try.underlying3 hy1
  obtain ⟨s1, es1, rfl, ws1⟩ := DataW.trod_string Try.underlying9 hz1
  simp at en1 es1
  subst en1 es1
  clear hA0 hval0 hsz0 hsz
  simp only [List.append_nil, List.nil_append] at hW'
  have reads0 : ∀ (W' : World) (sp : Nat → Bool), DataW.Trod enc Try.prog W' 0 sp true 28 (.agg #[.int .i64 n0, .string s0]) (.agg [.lit (.int .i64 n0), .lit (.string s0.data.toList)]) [] := fun W' sp =>
    shut_agg2 (y0 := (.lit (.int .i64 n0), [])) (y1 := (.lit (.string s0.data.toList), [])) Try.underlying28 (by kernel_rfl) cellsV ⟨1, by simp [DataW.trod, Try.underlying3, w0]⟩ ⟨1, by simp [DataW.trod, Try.underlying9, ws0]⟩
  have reads1 : ∀ (W' : World) (sp : Nat → Bool), DataW.Trod enc Try.prog W' 0 sp true 28 (.agg #[.int .i64 n1, .string s1]) (.agg [.lit (.int .i64 n1), .lit (.string s1.data.toList)]) [] := fun W' sp =>
    shut_agg2 (y0 := (.lit (.int .i64 n1), [])) (y1 := (.lit (.string s1.data.toList), [])) Try.underlying28 (by kernel_rfl) cellsV ⟨1, by simp [DataW.trod, Try.underlying3, w1]⟩ ⟨1, by simp [DataW.trod, Try.underlying9, ws1]⟩
  obtain hk := Pure.FnExactValSame n0 s0 n1 s1 w0 ws0 w1 ws1
  refine (PFnExactValSame.laws_FnExactValSame.calls n0 s0 n1 s1 true W hk).mono fun e W' ⟨he, bel⟩ => ?_
  subst he
  exact ⟨_, rfl, _, _, _, [], _, [], hW', trodAll_mk1 (shut_bool Try.underlying4 _), (trodAll_cons_mk (reads0 _ _) (trodAll_cons_mk (reads1 _ _) trodAll_mk0)), rfl, bel.frame _, fun h => by cases h⟩
theorem over : Rows.fnExactValSameRow.holds Try.pinned (OpenSpec.ofChange Rows.fnExactValSameSpec) :=
  OpenClaim.holds_of_wide 9 Try.f9 rfl rfl rfl rfl rfl rfl rfl ⟨rfl, rfl, rfl, rfl, rfl⟩ rfl rfl rfl rfl rfl (by kernel_rfl) Try.func9 (by kernel_rfl)
    (of_decide_eq_true (by kernel_rfl)) (by unfold Func.isWrapper; first | (rw [if_pos (by decide +kernel)]; kernel_rfl) | (rw [if_neg (by decide +kernel)]; exact ⟨rfl, rfl⟩))
    (fun os started H enc _ => lifted os started H enc)
theorem proved : Rows.FnExactValSameSaid := over
#print axioms proved
end Go.Proofs.Ytgojhlbhfmgkjaa.fnExactValSame
namespace Go.Proofs.Ytgojhlbhfmgkjaa
/-- The row, under a short name, for the claim. -/
theorem fnExactValSame_holds : Rows.FnExactValSameSaid := fnExactValSame.proved
end Go.Proofs.Ytgojhlbhfmgkjaa
