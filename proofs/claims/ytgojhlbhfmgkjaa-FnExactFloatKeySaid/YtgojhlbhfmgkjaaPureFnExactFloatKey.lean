/- FloatKey answers as the reference does, for every int. -/
import Derived.Test.YtgojhlbhfmgkjaaPFnExactFloatKeyx1
import Derived.Test.YtgojhlbhfmgkjaaCom
namespace Go.Proofs.Ytgojhlbhfmgkjaa.Pure
open Go Go.RowKit Go.Proofs.Ytgojhlbhfmgkjaa.PFnExactFloatKey Go.Proofs.YtgojhlbhfmgkjaaW.PrintWords Go.Proofs.YtgojhlbhfmgkjaaW.PrintLast Go.Proofs.YtgojhlbhfmgkjaaW.PrintMore Go.Proofs.Ytgojhlbhfmgkjaa.Com
set_option linter.unusedVariables false
set_option linter.unusedSimpArgs false


theorem FnExactFloatKey : laws_FnExactFloatKey.Pure := by
  intro a h
  unfold laws_FnExactFloatKey.f spec_FloatKey.f impl_FloatKey.f
  by_cases hn : a < 0 <;> simp [hn]

end Go.Proofs.Ytgojhlbhfmgkjaa.Pure
