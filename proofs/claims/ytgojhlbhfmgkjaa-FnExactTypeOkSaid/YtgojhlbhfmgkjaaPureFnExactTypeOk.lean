/- TypeOk answers as the reference does, for every int. -/
import Derived.Test.YtgojhlbhfmgkjaaPFnExactTypeOkx1
import Derived.Test.YtgojhlbhfmgkjaaCom
namespace Go.Proofs.Ytgojhlbhfmgkjaa.Pure
open Go Go.RowKit Go.Proofs.Ytgojhlbhfmgkjaa.PFnExactTypeOk Go.Proofs.YtgojhlbhfmgkjaaW.PrintWords Go.Proofs.YtgojhlbhfmgkjaaW.PrintLast Go.Proofs.YtgojhlbhfmgkjaaW.PrintMore Go.Proofs.Ytgojhlbhfmgkjaa.Com
set_option linter.unusedVariables false
set_option linter.unusedSimpArgs false


theorem FnExactTypeOk : laws_FnExactTypeOk.Pure := by
  intro a h
  unfold laws_FnExactTypeOk.f spec_TypeOk.f spec_l5Type.f impl_TypeOk.f impl_within.f
  by_cases h0 : a = 0
  · subst h0; rfl
  by_cases h1 : a = 1
  · subst h1; rfl
  by_cases h2 : a = 2
  · subst h2; rfl
  by_cases h5 : a = 5
  · subst h5; rfl
  by_cases h6 : a = 6
  · subst h6; rfl
  by_cases hp : a ≥ 0
  · have : ¬ a ≤ 2 := by omega
    simp [h0, h1, h2, h5, h6, hp, this]
  · simp [h0, h1, h2, h5, h6, hp]

end Go.Proofs.Ytgojhlbhfmgkjaa.Pure
