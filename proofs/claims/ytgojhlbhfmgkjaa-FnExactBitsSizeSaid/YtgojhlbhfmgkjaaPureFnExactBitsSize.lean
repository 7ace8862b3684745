/- BitsSize answers as the reference does, for all ints. -/
import Derived.Test.YtgojhlbhfmgkjaaPFnExactBitsSizex1
import Derived.Test.YtgojhlbhfmgkjaaCom
namespace Go.Proofs.Ytgojhlbhfmgkjaa.Pure
open Go Go.RowKit Go.Proofs.Ytgojhlbhfmgkjaa.PFnExactBitsSize Go.Proofs.YtgojhlbhfmgkjaaW.PrintWords Go.Proofs.YtgojhlbhfmgkjaaW.PrintLast Go.Proofs.YtgojhlbhfmgkjaaW.PrintMore Go.Proofs.Ytgojhlbhfmgkjaa.Com
set_option linter.unusedVariables false
set_option linter.unusedSimpArgs false


theorem FnExactBitsSize : laws_FnExactBitsSize.Pure := by
  intro a b h h'
  have e : ∀ x y z, impl_within.f x y z = spec_l1In.f x y z := fun _ _ _ => rfl
  have t : ∀ x y z, ∃ b, spec_l1In.f x y z = some b := fun x y z => by unfold spec_l1In.f; split <;> exact ⟨_, rfl⟩
  unfold laws_FnExactBitsSize.f spec_BitsSize.f impl_BitsSize.f
  simp only [e]
  obtain ⟨b1, h1⟩ := t a 0 2000
  obtain ⟨b2, h2⟩ := t b 0 62
  rw [h1, h2]
  cases b1 <;> cases b2 <;> simp

end Go.Proofs.Ytgojhlbhfmgkjaa.Pure
