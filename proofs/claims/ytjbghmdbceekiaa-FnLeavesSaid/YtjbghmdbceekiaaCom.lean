/- Plain lemmas on numbers, bits and lists that the pure statements use; no condition. -/
import Derived.Test.YtjbghmdbceekiaaWMore
namespace Go.Proofs.Ytjbghmdbceekiaa.Com
open Go Go.RowKit Go.Proofs.YtjbghmdbceekiaaW.PrintWords Go.Proofs.YtjbghmdbceekiaaW.PrintLast Go.Proofs.YtjbghmdbceekiaaW.PrintMore

theorem wrap_id {n : Int} (h : -9223372036854775808 ≤ n) (h' : n < 9223372036854775808) : wrap64 n = n := by unfold wrap64; omega
theorem kwrap64 (n : Int) : IntKind.i64.wrap n = wrap64 n := by rw [IntKind.wrap_i64]; unfold wrap64; rfl
theorem bv_toInt (v : BitVec 64) : wrap64 (v.toNat : Int) = v.toInt := by
 have := v.isLt
 rw [BitVec.toInt_eq_toNat_cond]; unfold wrap64; split <;> omega
theorem and64 (x y : Int) : Go.bits .and .i64 x y = (BitVec.ofInt 64 x &&& BitVec.ofInt 64 y).toInt := by
 unfold Go.bits; simp only [kwrap64]; exact bv_toInt _
theorem and_mask (x : Int) (n : Nat) (hn : n ≤ 63) : Go.bits .and .i64 x (2 ^ n - 1) = x % 2 ^ n := by
 have hp : (2:Nat) ^ n ≤ 2 ^ 63 := Nat.pow_le_pow_right (by decide) hn
 have hp0 : 0 < (2:Nat) ^ n := Nat.two_pow_pos n
 have hc : (2 : Int) ^ n = ((2 ^ n : Nat) : Int) := by simp
 have hd : (2 : Int) ^ n ∣ 18446744073709551616 := by
  refine ⟨2 ^ (64 - n), ?_⟩
  rw [← Int.pow_add, show n + (64 - n) = 64 by omega]; rfl
 rw [and64, ← bv_toInt, BitVec.toNat_and, BitVec.toNat_ofInt, BitVec.toNat_ofInt]
 have e2 : (((2:Int) ^ n - 1) % (2 ^ 64 : Nat)).toNat = 2 ^ n - 1 := by
  rw [hc]; have : ((2 ^ 64 : Nat) : Int) = 18446744073709551616 := by rfl
  omega
 rw [e2, Nat.and_two_pow_sub_one_eq_mod]
 have e3 : (((x % (2 ^ 64 : Nat)).toNat % 2 ^ n : Nat) : Int) = x % 2 ^ n := by
  have h0 : 0 ≤ x % ((2 ^ 64 : Nat) : Int) := Int.emod_nonneg _ (by decide)
  rw [Int.natCast_emod, Int.toNat_of_nonneg h0, ← hc]
  exact Int.emod_emod_of_dvd _ hd
 rw [e3]
 have h1 := Int.emod_nonneg x (show (2:Int) ^ n ≠ 0 by rw [hc]; omega)
 have h2 := Int.emod_lt_of_pos x (show 0 < (2:Int) ^ n by rw [hc]; omega)
 apply wrap_id <;> omega
theorem set_mid {α : Type} (p r : List α) (v : α) (i : Nat) (h : i = p.length) (hr : 0 < r.length) : (p ++ r).set i v = (p ++ [v]) ++ r.tail := by
 subst h
 cases r with
 | nil => simp at hr
 | cons a r => simp
theorem rd_eq (l : List Int) (i : Nat) (h : i < l.length) : rd l (i : Int) = l[i] := by
 unfold rd; simp [h]
theorem rd_eq' (l : List Int) (i : Int) (_h0 : 0 ≤ i) (h : i.toNat < l.length) : rd l i = l[i.toNat] := by
 unfold rd; simp [h]
end Go.Proofs.Ytjbghmdbceekiaa.Com
