/- Plain lemmas on numbers, bits and lists that the pure statements use; no condition. -/
import Derived.Test.YtjbghmdbceekiaaWMore
namespace Go.Proofs.Ytjbghmdbceekiaa.Com
open Go Go.RowKit Go.Proofs.YtjbghmdbceekiaaW.PrintWords Go.Proofs.YtjbghmdbceekiaaW.PrintLast Go.Proofs.YtjbghmdbceekiaaW.PrintMore

theorem wf64 {a : Int} (h : (Lit.int .i64 a).wf = true) : -9223372036854775808 ≤ a ∧ a < 9223372036854775808 := by
 simp [Lit.wf, IntKind.min, IntKind.max, IntKind.bits, IntKind.signed] at h; omega
theorem wrap_id {n : Int} (h : -9223372036854775808 ≤ n) (h' : n < 9223372036854775808) : wrap64 n = n := by unfold wrap64; omega
theorem set_mid {α : Type} (p r : List α) (v : α) (i : Nat) (h : i = p.length) (hr : 0 < r.length) : (p ++ r).set i v = (p ++ [v]) ++ r.tail := by
 subst h
 cases r with
 | nil => simp at hr
 | cons a r => simp
end Go.Proofs.Ytjbghmdbceekiaa.Com
