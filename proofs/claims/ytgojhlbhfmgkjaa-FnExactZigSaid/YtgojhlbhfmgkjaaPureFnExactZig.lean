/- Zig answers as the reference does, for every int. -/
import Derived.Test.YtgojhlbhfmgkjaaPFnExactZigx1
import Derived.Test.YtgojhlbhfmgkjaaCom
namespace Go.Proofs.Ytgojhlbhfmgkjaa.Pure
open Go Go.RowKit Go.Proofs.Ytgojhlbhfmgkjaa.PFnExactZig Go.Proofs.YtgojhlbhfmgkjaaW.PrintWords Go.Proofs.YtgojhlbhfmgkjaaW.PrintLast Go.Proofs.YtgojhlbhfmgkjaaW.PrintMore Go.Proofs.Ytgojhlbhfmgkjaa.Com
set_option linter.unusedVariables false
set_option linter.unusedSimpArgs false


theorem FnExactZig : laws_FnExactZig.Pure := by
  intro a h
  have hw := wf64 h
  unfold laws_FnExactZig.f spec_Zig.f impl_Zig.f
  by_cases hn : a < 0
  · rw [if_pos hn, show a / 9223372036854775808 = -1 by omega, xor_comm (wrap64 (a * 2))]; simp
  · rw [if_neg hn, show a / 9223372036854775808 = 0 by omega, xor_zero, wrap_id (wrap_rng _).1 (wrap_rng _).2]; simp

end Go.Proofs.Ytgojhlbhfmgkjaa.Pure
