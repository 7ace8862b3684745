/- Plain lemmas on numbers, bits and lists that the pure statements use; no condition. -/
import Derived.Test.YtjbghmdbceekiaaWMore
namespace Go.Proofs.Ytjbghmdbceekiaa.Com
open Go Go.RowKit Go.Proofs.YtjbghmdbceekiaaW.PrintWords Go.Proofs.YtjbghmdbceekiaaW.PrintLast Go.Proofs.YtjbghmdbceekiaaW.PrintMore

theorem wf64 {a : Int} (h : (Lit.int .i64 a).wf = true) : -9223372036854775808 ≤ a ∧ a < 9223372036854775808 := by
 simp [Lit.wf, IntKind.min, IntKind.max, IntKind.bits, IntKind.signed] at h;omega
theorem wrap_id {n : Int} (h : -9223372036854775808 ≤ n) (h' : n < 9223372036854775808) : wrap64 n = n := by unfold wrap64; omega
theorem wrap_rng (n : Int) : -9223372036854775808 ≤ wrap64 n ∧ wrap64 n < 9223372036854775808 := by unfold wrap64; omega
theorem kwrap64 (n : Int) : IntKind.i64.wrap n = wrap64 n := by rw [IntKind.wrap_i64]; unfold wrap64; rfl
theorem bv_toInt (v : BitVec 64) : wrap64 (v.toNat : Int) = v.toInt := by
 have := v.isLt
 rw [BitVec.toInt_eq_toNat_cond];unfold wrap64;split <;> omega
theorem xor64 (x y : Int) : Go.bits .xor .i64 x y = (BitVec.ofInt 64 x ^^^ BitVec.ofInt 64 y).toInt := by
 unfold Go.bits;simp only [kwrap64];exact bv_toInt _
theorem and64 (x y : Int) : Go.bits .and .i64 x y = (BitVec.ofInt 64 x &&& BitVec.ofInt 64 y).toInt := by
 unfold Go.bits;simp only [kwrap64];exact bv_toInt _
theorem toInt_ofInt (x : Int) : (BitVec.ofInt 64 x).toInt = wrap64 x := by
 rw [← bv_toInt, BitVec.toNat_ofInt];unfold wrap64;omega
theorem xor_comm (x y : Int) : Go.bits .xor .i64 x y = Go.bits .xor .i64 y x := by rw [xor64, xor64, BitVec.xor_comm]
theorem xor_zero (x : Int) : Go.bits .xor .i64 x 0 = wrap64 x := by
 rw [xor64, ← toInt_ofInt];simp
theorem xor_m1 (x : Int) : Go.bits .xor .i64 x (-1) = wrap64 (-x - 1) := by
 rw [xor64, ← toInt_ofInt];congr 1
 have : BitVec.ofInt 64 (-1) = BitVec.allOnes 64 := by decide
 rw [this, BitVec.xor_allOnes]
 apply BitVec.eq_of_toNat_eq
 rw [BitVec.toNat_not];simp only [BitVec.toNat_ofInt];omega
theorem and_mask (x : Int) (n : Nat) (hn : n ≤ 63) : Go.bits .and .i64 x (2 ^ n - 1) = x % 2 ^ n := by
 have hp : (2:Nat) ^ n ≤ 2 ^ 63 := Nat.pow_le_pow_right (by decide) hn
 have hp0 : 0 < (2:Nat) ^ n := Nat.two_pow_pos n
 have hc : (2 : Int) ^ n = ((2 ^ n : Nat) : Int) := by simp
 have hd : (2 : Int) ^ n ∣ 18446744073709551616 := by
  refine ⟨2 ^ (64 - n), ?_⟩
  rw [← Int.pow_add, show n + (64 - n) = 64 by omega];rfl
 rw [and64, ← bv_toInt, BitVec.toNat_and, BitVec.toNat_ofInt, BitVec.toNat_ofInt]
 have e2 : (((2:Int) ^ n - 1) % (2 ^ 64 : Nat)).toNat = 2 ^ n - 1 := by
  rw [hc];have : ((2 ^ 64 : Nat) : Int) = 18446744073709551616 := by rfl
  omega
 rw [e2, Nat.and_two_pow_sub_one_eq_mod]
 have e3 : (((x % (2 ^ 64 : Nat)).toNat % 2 ^ n : Nat) : Int) = x % 2 ^ n := by
  have h0 : 0 ≤ x % ((2 ^ 64 : Nat) : Int) := Int.emod_nonneg _ (by decide)
  rw [Int.natCast_emod, Int.toNat_of_nonneg h0, ← hc]
  exact Int.emod_emod_of_dvd _ hd
 rw [e3]
 have h1 := Int.emod_nonneg x (show (2:Int) ^ n ≠ 0 by rw [hc];omega)
 have h2 := Int.emod_lt_of_pos x (show 0 < (2:Int) ^ n by rw [hc];omega)
 apply wrap_id <;> omega
theorem shr64 (x y : Int) (h0 : 0 ≤ y) (h : y ≤ 64) : shr .i64 x y = x / 2 ^ y.toNat := by
 unfold shr;rw [show min y.toNat IntKind.i64.bits = y.toNat by simp [IntKind.bits];omega]
theorem shl64 (x y : Int) (h0 : 0 ≤ y) (h : y ≤ 64) : shl .i64 x y = wrap64 (x * 2 ^ y.toNat) := by
 unfold shl;rw [show min y.toNat IntKind.i64.bits = y.toNat by simp [IntKind.bits];omega, kwrap64]
theorem set_mid {α : Type} (p r : List α) (v : α) (i : Nat) (h : i = p.length) (hr : 0 < r.length) : (p ++ r).set i v = (p ++ [v]) ++ r.tail := by
 subst h
 cases r with
 | nil => simp at hr
 | cons a r => simp
theorem rd_eq' (l : List Int) (i : Int) (_h0 : 0 ≤ i) (h : i.toNat < l.length) : rd l i = l[i.toNat] := by
 unfold rd;simp [h]
def mk8 (n : Nat) (m : Int) : List Int := (List.range n).map fun i : Nat => (m + i) % 256
theorem mk8_len (n : Nat) (m : Int) : (mk8 n m).length = n := by simp [mk8]
theorem mk8_succ (n : Nat) (m : Int) : mk8 (n + 1) m = mk8 n m ++ [(m + n) % 256] := by simp [mk8, List.range_succ]
theorem rd_mk8 (n : Nat) (m i : Int) (h0 : 0 ≤ i) (h : i < n) : rd (mk8 n m) i = (m + i) % 256 := by
 rw [rd_eq' _ _ h0 (by simp [mk8];omega)];simp [mk8];omega
theorem uwrap (n : Int) : IntKind.u64.wrap n = n % 18446744073709551616 := by simp [IntKind.wrap, IntKind.bits, IntKind.signed]
theorem uwrap_id {n : Int} (h : 0 ≤ n) (h' : n < 18446744073709551616) : IntKind.u64.wrap n = n := by rw [uwrap]; omega
theorem u64_rng (n : Int) (h₀ : 0 ≤ n) (h₁ : n < 2 ^ 64) : IntKind.u64.wrap n = n := uwrap_id h₀ (by simpa using h₁)
theorem or_comm' (k : IntKind) (x y : Int) : Go.bits .or k x y = Go.bits .or k y x := by
 unfold Go.bits;simp only;rw [BitVec.or_comm]
theorem or_addu (a c : Int) (s : Nat) (h0 : 0 ≤ a) (h1 : a < 2 ^ s) (hc : 0 ≤ c) (hl : a + c * 2 ^ s < 18446744073709551616) : Go.bits .or .u64 a (c * 2 ^ s) = a + c * 2 ^ s := by
 have hp : (0 : Int) < 2 ^ s := Int.pow_pos (by decide)
 have h2 : 0 ≤ c * 2 ^ s := Int.mul_nonneg hc (by omega)
 rw [or_comm', bits_join .u64 64 (by decide) u64_rng s (c * 2 ^ s) a h2 (Int.mul_emod_left _ _) (by omega) h0 h1 (by omega)]
 omega
theorem and127u (x : Int) (h0 : 0 ≤ x) (h : x < 18446744073709551616) : Go.bits .and .u64 x 127 = x % 128 :=
 bits_mask .u64 64 (by decide) u64_rng 7 (by decide) x h0 (by omega)
def uvb (n : Nat) : List Int := if n < 128 then [(n : Int)] else ((n % 128 + 128 : Nat) : Int) :: uvb (n / 128)
termination_by n
decreasing_by omega
def ux (x : Int) : Nat := (x % 18446744073709551616).toNat
theorem ux_lt (x : Int) : ux x < 18446744073709551616 := by unfold ux; omega
theorem uvb_len (j : Nat) : ∀ n, n < 128 ^ (j + 1) → (uvb n).length ≤ j + 1 := by
 induction j with
 | zero => intro n h;rw [uvb, if_pos (by simpa using h)];simp
 | succ j ih =>
  intro n h
  rw [uvb];split
  ·simp
  ·have := ih (n / 128) (by rw [Nat.div_lt_iff_lt_mul (by decide)];rw [Nat.pow_succ] at h;exact h)
   simp;omega
theorem uvb_len10 (n : Nat) (h : n < 18446744073709551616) : (uvb n).length ≤ 10 := uvb_len 9 n (Nat.lt_of_lt_of_le h (by decide))
def zig (a : Int) : Int := wrap64 (if a < 0 then -2 * a - 1 else 2 * a)

def cstep (n : Nat) : Nat := if n % 2 = 1 then n / 2 ^^^ 3988292384 else n / 2
def citer : Nat → Nat → Nat
 | 0, n => n
 | k + 1, n => citer k (cstep n)
def cn (n : Nat) : Nat := citer 8 n
end Go.Proofs.Ytjbghmdbceekiaa.Com
