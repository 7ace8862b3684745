/- The row of the law FnExactValLess: for all arguments the call returns true; no condition. -/
import Derived.Test.YtoehjhmkeaofeaaRows
import Derived.Test.YtoehjhmkeaofeaaPFnExactValLessx3
import Derived.Test.YtoehjhmkeaofeaaPureFnExactValLess
import Derived.WalkKit
import Derived.ProofKit
import Derived.OpenShut
import Derived.ShutString
import Derived.ChangeOld
import Derived.Below
import Derived.SizedLaws
import Derived.Lib.SmallJoins
import Derived.ChangeSame
import Derived.JoinedOf
import Derived.JoinedAt
import Derived.RowKit3
namespace Go.Proofs.Ytoehjhmkeaofeaa.fnExactValLess
open Go.ChangeShapes Go.WideShapes Go.ChangeAt Go.RowKit Go.Joins
open Go.ChangeMaps (open_string shut_string)
set_option linter.unusedVariables false
set_option linter.unusedSimpArgs false
theorem own : ownKnob Try.prog.godebug = none := by kernel_rfl
theorem cellsV : Try.prog.cellsOf 42 = 2 := by kernel_rfl
set_option maxRecDepth 100000 in
theorem lifted (os : Os) (started : os.Started) (H : Type) (enc : TypeId × Value → H) :
    ReturnsInHanded {} Try.checked os 12 .any (Rows.fnExactValLessSpec.pre6 enc Try.prog Try.f12 Rows.fnExactValLessRow.domain false) (Rows.fnExactValLessSpec.post enc Try.prog Try.f12 false true false false) := by
  refine returnsInHanded_of_change_sized (C := Try.checked) own started (by kernel_rfl) Try.func12
    (ChangeSpec.witness6 (enc := enc) (C := Try.checked) false ⟨#[], #[.int .i64 0, .agg #[.int .i64 0, .string ⟨#[]⟩], .agg #[.int .i64 0, .string ⟨#[]⟩]], []⟩ 8 (by kernel_rfl) (by kernel_rfl) (by kernel_rfl) (by kernel_rfl)) ?_
  intro W base args ds gs before hval0 hW hcnd hsz0 _
  have hsz : (DataW.weightsEach Try.prog (Try.f12.params.toList ++ Rows.fnExactValLessSpec.plain.varTypes Try.prog) (ds ++ gs)).all (· ≤ reachBytes) = true := hsz0
  have hval : ∀ (j : Nat) t v, Try.f12.params[j]? = some t → args[j]? = some v → Value.okWide Try.prog W .any base t v := hval0
  have hW' := hW
  obtain ⟨p, q, hA0, hV, rfl, hfz, hnd⟩ := hW
  have hA : DataW.TrodAll enc Try.prog W 0 (fun _ => true) true Try.f12.params.toList args.toList ds p := hA0
  rw [Try.params12] at hA hval hsz
  obtain ⟨v0, vs0, d0, ds0, p0, q0, hargs, rfl, rfl, h0, r0⟩ := trodAll_cons hA
  obtain ⟨v1, vs1, d1, ds1, p1, q1, rfl, rfl, rfl, h1, r1⟩ := trodAll_cons r0
  obtain ⟨v2, vs2, d2, ds2, p2, q2, rfl, rfl, rfl, h2, r2⟩ := trodAll_cons r1
  obtain ⟨rfl, rfl, rfl⟩ := trodAll_nil r2
  obtain rfl : args = #[v0, v1, v2] := by cases args; simp_all
  obtain ⟨rfl, rfl⟩ := trodVars_none hV
  obtain ⟨a0, rfl, rfl, rfl, w0⟩ := open_int Try.underlying3 (hval 0 3 v0 rfl rfl) h0
  obtain ⟨c1, e1, y1, z1, m1, rfl, rfl, rfl, hy1, hz1⟩ := open_agg2 Try.underlying42 (by kernel_rfl) cellsV (hval 1 42 v1 rfl rfl) h1
  obtain ⟨n1, en1, rfl, w1⟩ := DataW.trod_int Try.underlying3 hy1
  obtain ⟨s1, es1, rfl, ws1⟩ := DataW.trod_string Try.underlying9 hz1
  simp at en1 es1
  subst en1 es1
  obtain ⟨c2, e2, y2, z2, m2, rfl, rfl, rfl, hy2, hz2⟩ := open_agg2 Try.underlying42 (by kernel_rfl) cellsV (hval 2 42 v2 rfl rfl) h2
  obtain ⟨n2, en2, rfl, w2⟩ := DataW.trod_int Try.underlying3 hy2
  obtain ⟨s2, es2, rfl, ws2⟩ := DataW.trod_string Try.underlying9 hz2
  simp at en2 es2
  subst en2 es2
  clear hA0 hval0 hsz0 hsz
  simp only [List.append_nil, List.nil_append] at hW'
  have reads1 : ∀ (W' : World) (sp : Nat → Bool), DataW.Trod enc Try.prog W' 0 sp true 42 (.agg #[.int .i64 n1, .string s1]) (.agg [.lit (.int .i64 n1), .lit (.string s1.data.toList)]) [] := fun W' sp =>
    shut_agg2 (y0 := (.lit (.int .i64 n1), [])) (y1 := (.lit (.string s1.data.toList), [])) Try.underlying42 (by kernel_rfl) cellsV ⟨1, by simp [DataW.trod, Try.underlying3, w1]⟩ ⟨1, by simp [DataW.trod, Try.underlying9, ws1]⟩
  have reads2 : ∀ (W' : World) (sp : Nat → Bool), DataW.Trod enc Try.prog W' 0 sp true 42 (.agg #[.int .i64 n2, .string s2]) (.agg [.lit (.int .i64 n2), .lit (.string s2.data.toList)]) [] := fun W' sp =>
    shut_agg2 (y0 := (.lit (.int .i64 n2), [])) (y1 := (.lit (.string s2.data.toList), [])) Try.underlying42 (by kernel_rfl) cellsV ⟨1, by simp [DataW.trod, Try.underlying3, w2]⟩ ⟨1, by simp [DataW.trod, Try.underlying9, ws2]⟩
  obtain ⟨k, hk⟩ := Pure.FnExactValLess a0 n1 s1 n2 s2 w0 w1 ws1 w2 ws2
  refine (PFnExactValLess.laws_FnExactValLess.calls k a0 n1 s1 n2 s2 true W hk).mono fun e W' ⟨he, bel⟩ => ?_
  subst he
  exact ⟨_, rfl, _, _, _, [], _, [], hW', trodAll_mk1 (shut_bool Try.underlying4 _), (trodAll_cons_mk (shut_int Try.underlying3 w0) (trodAll_cons_mk (reads1 _ _) (trodAll_cons_mk (reads2 _ _) trodAll_mk0))), rfl, bel.frame _, fun h => by cases h⟩
theorem over : Rows.fnExactValLessRow.holds Try.pinned (OpenSpec.ofChange Rows.fnExactValLessSpec) :=
  OpenClaim.holds_of_wide 12 Try.f12 rfl rfl rfl rfl rfl rfl rfl ⟨rfl, rfl, rfl, rfl, rfl⟩ rfl rfl rfl rfl rfl (by kernel_rfl) Try.func12 (by kernel_rfl)
    (of_decide_eq_true (by kernel_rfl)) (by unfold Func.isWrapper; first | (rw [if_pos (by decide +kernel)]; kernel_rfl) | (rw [if_neg (by decide +kernel)]; exact ⟨rfl, rfl⟩))
    (fun os started H enc _ => lifted os started H enc)
theorem proved : Rows.FnExactValLessSaid := over
#print axioms proved
end Go.Proofs.Ytoehjhmkeaofeaa.fnExactValLess
namespace Go.Proofs.Ytoehjhmkeaofeaa
/-- The row, under a short name, for the claim. -/
theorem fnExactValLess_holds : Rows.FnExactValLessSaid := fnExactValLess.proved
end Go.Proofs.Ytoehjhmkeaofeaa
