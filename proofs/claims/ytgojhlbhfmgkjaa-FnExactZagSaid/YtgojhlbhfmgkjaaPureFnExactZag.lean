/- Zag answers as the reference does, for every int. -/
import Derived.Test.YtgojhlbhfmgkjaaPFnExactZagx1
import Derived.Test.YtgojhlbhfmgkjaaCom
namespace Go.Proofs.Ytgojhlbhfmgkjaa.Pure
open Go Go.RowKit Go.Proofs.Ytgojhlbhfmgkjaa.PFnExactZag Go.Proofs.YtgojhlbhfmgkjaaW.PrintWords Go.Proofs.YtgojhlbhfmgkjaaW.PrintLast Go.Proofs.YtgojhlbhfmgkjaaW.PrintMore Go.Proofs.Ytgojhlbhfmgkjaa.Com
set_option linter.unusedVariables false
set_option linter.unusedSimpArgs false

theorem spec_l2Down1 (a : Int) : spec_l2Down.f a 1 = some (a / 2 % 9223372036854775808) := by
  unfold spec_l2Down.f
  rw [if_neg (by decide), if_pos (by decide), if_pos (by unfold wrap64; omega)]
  rw [shr64 _ _ (by decide) (by decide), show (wrap64 (64 - 1)) = 63 by unfold wrap64; omega, shl64 _ _ (by decide) (by decide)]
  rw [show wrap64 (wrap64 (1 * 2 ^ (63 : Int).toNat) - 1) = 2 ^ 63 - 1 by decide +kernel, and_mask _ 63 (by decide)]
  rfl
theorem spec_Zag_ev (a : Int) (h0 : -9223372036854775808 ≤ a) (h1 : a < 9223372036854775808) : spec_Zag.f a = some (zag a) := by
  unfold spec_Zag.f
  rw [and_one, spec_l2Down1]
  unfold zag
  by_cases h : a % 2 = 1
  · rw [if_pos h, if_pos h]; simp only [Option.bind_some]; rw [xor_comm, xor_m1, wrap_id (by omega) (by omega)]
  · rw [if_neg h, if_neg h]; simp only [Option.bind_some]
theorem impl_Zag_ev (a : Int) (h0 : -9223372036854775808 ≤ a) (h1 : a < 9223372036854775808) : impl_Zag.f a = some (zag a) := by
  unfold impl_Zag.f
  rw [and_one, show IntKind.u64.wrap a = a % 18446744073709551616 by simp [IntKind.wrap, IntKind.bits, IntKind.signed]]
  unfold zag
  rw [wrap_id (n := a % 18446744073709551616 / 2) (by omega) (by omega)]
  by_cases h : a % 2 = 1
  · rw [if_pos h, h, show wrap64 (-1) = -1 by unfold wrap64; omega, xor_m1, wrap_id (by omega) (by omega)]; congr 1; omega
  · rw [if_neg h, show a % 2 = 0 by omega, show wrap64 (-0) = 0 by unfold wrap64; omega, xor_zero, wrap_id (by omega) (by omega)]; congr 1; omega

theorem FnExactZag : laws_FnExactZag.Pure := by
  intro a h
  have hw := wf64 h
  unfold laws_FnExactZag.f
  rw [spec_Zag_ev a hw.1 hw.2, impl_Zag_ev a hw.1 hw.2]; simp

end Go.Proofs.Ytgojhlbhfmgkjaa.Pure
