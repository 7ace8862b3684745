/- ValSame answers as the reference does, for all values. -/
import Derived.Test.YtgojhlbhfmgkjaaPFnExactValSamex2
import Derived.Test.YtgojhlbhfmgkjaaCom
namespace Go.Proofs.Ytgojhlbhfmgkjaa.Pure
open Go Go.RowKit Go.Proofs.Ytgojhlbhfmgkjaa.PFnExactValSame Go.Proofs.YtgojhlbhfmgkjaaW.PrintWords Go.Proofs.YtgojhlbhfmgkjaaW.PrintLast Go.Proofs.YtgojhlbhfmgkjaaW.PrintMore Go.Proofs.Ytgojhlbhfmgkjaa.Com
set_option linter.unusedVariables false
set_option linter.unusedSimpArgs false

theorem szVal_ev (n : Int) (s : ByteArray) (a : Int) (h0 : 0 ≤ a) (h1 : a ≤ 1000000000) (hs : s.size ≤ maxLen) : laws_szVal.f n s a = some (if a - s.size < 0 then -1 else a - s.size) := by
  unfold maxLen at hs
  unfold laws_szVal.f
  rw [wrap_id (n := a - (s.size : Int)) (by omega) (by omega)]
  by_cases h : a - (s.size : Int) < 0
  · rw [if_pos h, if_pos h]
  · rw [if_neg h, if_neg h]

theorem FnExactValSame (n : Int) (s : ByteArray) (m : Int) (u : ByteArray) (_ : (Lit.int .i64 n).wf = true) (hs : s.size ≤ maxLen) (_ : (Lit.int .i64 m).wf = true) (hu : u.size ≤ maxLen) : laws_FnExactValSame.f n s m u = some true := by
  unfold laws_FnExactValSame.f
  rw [szVal_ev n s 1048576 (by decide) (by decide) hs]
  simp only [Option.bind_some]
  by_cases h : (if (1048576 : Int) - s.size < 0 then -1 else (1048576 : Int) - s.size) < 0
  · rw [if_pos h]
  · rw [if_neg h]
    have hr : 0 ≤ (if (1048576 : Int) - s.size < 0 then -1 else (1048576 : Int) - s.size) ∧ (if (1048576 : Int) - s.size < 0 then -1 else (1048576 : Int) - s.size) ≤ 1000000000 := by refine ⟨by omega, ?_⟩; split <;> omega
    rw [szVal_ev m u _ hr.1 hr.2 hu]
    simp only [Option.bind_some]
    generalize (if (if (1048576 : Int) - s.size < 0 then -1 else (1048576 : Int) - s.size) - (u.size : Int) < 0 then (-1 : Int) else (if (1048576 : Int) - s.size < 0 then -1 else (1048576 : Int) - s.size) - (u.size : Int)) = z
    by_cases h2 : z < 0
    · rw [if_pos h2]
    · rw [if_neg h2]; simp [laws_toVal.f, spec_ValSame.f, impl_ValSame.f]

end Go.Proofs.Ytgojhlbhfmgkjaa.Pure
