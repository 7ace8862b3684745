/- The law FnFloats answers true for every code. -/
import Derived.Test.YtoehjhmkeaofeaaPFnFloatsx1
import Derived.Test.YtoehjhmkeaofeaaCom
namespace Go.Proofs.Ytoehjhmkeaofeaa.Pure
open Go Go.RowKit Go.Proofs.Ytoehjhmkeaofeaa.PFnFloats Go.Proofs.YtoehjhmkeaofeaaW.PrintWords Go.Proofs.YtoehjhmkeaofeaaW.PrintLast Go.Proofs.YtoehjhmkeaofeaaW.PrintMore Go.Proofs.Ytoehjhmkeaofeaa.Com
set_option linter.unusedVariables false
set_option linter.unusedSimpArgs false

theorem spec_l1Byte_ev (l : List Int) (i h : Int) (hl : ∀ x ∈ l, (Lit.int .u8 x).wf = true) (hlen : l.length ≤ 1000000000000) (h0 : 0 ≤ i) (h1 : i ≤ l.length) :
    ∃ v i' h', spec_l1Byte.f l i h = some (v, i', h') ∧ 0 ≤ v ∧ v < 256 ∧ 0 ≤ i' ∧ i' ≤ l.length := by
  have m : ∀ x, Go.bits .and .i64 x 255 = x % 256 := fun x => and_mask x 8 (by decide)
  unfold spec_l1Byte.f
  by_cases hi : i < l.length
  · rw [if_pos hi, if_pos h0, m, m, wrap_id (n := i + 1) (by omega) (by omega)]
    exact ⟨_, _, _, rfl, by omega, by omega, by omega, by omega⟩
  · rw [if_neg hi, m]
    exact ⟨_, _, _, rfl, by omega, by omega, by omega, by omega⟩
theorem spec_l1Below_ev (l : List Int) (i h n : Int) (hl : ∀ x ∈ l, (Lit.int .u8 x).wf = true) (hlen : l.length ≤ 1000000000000) (h0 : 0 ≤ i) (h1 : i ≤ l.length) :
    ∃ v i' h', spec_l1Below.f l i h n = some (v, i', h') ∧ 0 ≤ v ∧ (0 < n → v < n) ∧ (n ≤ 0 → v = 0) ∧ 0 ≤ i' ∧ i' ≤ l.length := by
  unfold spec_l1Below.f
  by_cases hn : n ≤ 0
  · rw [if_pos hn]; exact ⟨_, _, _, rfl, by omega, by omega, by omega, h0, h1⟩
  · rw [if_neg hn]
    obtain ⟨v, i1, h2, e, a, b, c, d⟩ := spec_l1Byte_ev l i h hl hlen h0 h1
    by_cases hb : n ≤ 256
    · rw [if_pos hb]
      simp only [e, Option.bind_some]
      rw [if_neg (by omega)]
      refine ⟨_, _, _, rfl, ?_⟩
      rw [Int.tmod_eq_emod_of_nonneg a]
      exact ⟨Int.emod_nonneg _ (by omega), fun _ => Int.emod_lt_of_pos _ (by omega), by omega, c, d⟩
    · rw [if_neg hb]
      obtain ⟨v2, i2, h3, e2, a2, b2, c2, d2⟩ := spec_l1Byte_ev l i1 h2 hl hlen c d
      obtain ⟨v3, i3, h4, e3, a3, b3, c3, d3⟩ := spec_l1Byte_ev l i2 h3 hl hlen c2 d2
      obtain ⟨v4, i4, h5, e4, a4, b4, c4, d4⟩ := spec_l1Byte_ev l i3 h4 hl hlen c3 d3
      simp only [e, e2, e3, e4, Option.bind_some]
      rw [if_neg (by omega), wrap_id (n := v * 16777216) (by omega) (by omega), wrap_id (n := v2 * 65536) (by omega) (by omega), wrap_id (n := v3 * 256) (by omega) (by omega), wrap_id (n := v * 16777216 + v2 * 65536) (by omega) (by omega), wrap_id (n := v * 16777216 + v2 * 65536 + v3 * 256) (by omega) (by omega), wrap_id (by omega) (by omega)]
      refine ⟨_, _, _, rfl, ?_⟩
      rw [Int.tmod_eq_emod_of_nonneg (by omega)]
      exact ⟨Int.emod_nonneg _ (by omega), fun _ => Int.emod_lt_of_pos _ (by omega), by omega, c4, d4⟩
theorem spec_l1New_ev (l : List Int) (hlen : l.length ≤ 1000000000000) : ∃ h, Ev (fun k => spec_l1New.f k l) (l, 0, h) := by
  have key : ∀ (d : Nat) (i x : Int), 0 ≤ i → i ≤ l.length → (l.length : Int) - i = d → ∃ h, Ev (fun k => spec_l1New.l0 k l x i) (l, 0, h) := by
    intro d
    induction d with
    | zero =>
      intro i x h0 h1 hd
      refine ⟨x, Ev.step (f := fun _ => some (l, 0, x)) (fun k => ?_) (Ev.now _)⟩
      simp only [spec_l1New.l0]; rw [if_neg (by omega)]
    | succ d ih =>
      intro i x h0 h1 hd
      by_cases h4 : i < 4000
      · obtain ⟨h, e⟩ := ih (i + 1) (Go.bits .and .i64 (wrap64 ((wrap64 ((wrap64 (x * 131)) + (wrap64 (rd l i)))) + 7)) 1073741823) (by omega) (by omega) (by omega)
        refine ⟨h, Ev.step (fun k => ?_) e⟩
        simp only [spec_l1New.l0]; rw [if_pos (by omega), if_pos h4, if_pos h0, wrap_id (n := i + 1) (by omega) (by omega)]
      · refine ⟨x, Ev.step (f := fun _ => some (l, 0, x)) (fun k => ?_) (Ev.now _)⟩
        simp only [spec_l1New.l0]; rw [if_pos (by omega), if_neg h4]
  obtain ⟨h, e⟩ := key l.length 0 (wrap64 (11443 + (l.length : Int))) (by omega) (by omega) (by omega)
  exact ⟨h, e⟩
theorem laws_big_ev (l : List Int) : laws_big.f l = some (decide ((l.length : Int) > 1048576)) := rfl

theorem spec_l1PickInt_ev (l : List Int) (i h : Int) (p : List Int) (hl : ∀ x ∈ l, (Lit.int .u8 x).wf = true) (hlen : l.length ≤ 1000000000000) (h0 : 0 ≤ i) (h1 : i ≤ l.length) (hp : 0 < p.length) :
    ∃ v i' h', spec_l1PickInt.f l i h p = some (v, i', h') ∧ v ∈ p ∧ 0 ≤ i' ∧ i' ≤ l.length := by
  unfold spec_l1PickInt.f
  obtain ⟨v, i1, h2, e, a, b, _, c, d⟩ := spec_l1Below_ev l i h p.length hl hlen h0 h1
  have b := b (by omega)
  simp only [e, Option.bind_some]
  rw [if_pos a, if_pos b]
  refine ⟨_, _, _, rfl, ?_, c, d⟩
  rw [rd_eq' _ _ a (by omega)]; exact List.getElem_mem _

theorem spec_l2DrawNum_ev (l : List Int) (i h : Int) (hl : ∀ x ∈ l, (Lit.int .u8 x).wf = true) (hlen : l.length ≤ 1000000000000) (h0 : 0 ≤ i) (h1 : i ≤ l.length) :
    ∃ v i' h', spec_l2DrawNum.f l i h = some (v, i', h') ∧ -9223372036854775808 ≤ v ∧ v < 9223372036854775808 ∧ 0 ≤ i' ∧ i' ≤ l.length := by
  unfold spec_l2DrawNum.f
  obtain ⟨v, i1, g1, e, a, b, _, c, d⟩ := spec_l1Below_ev l i h 1000000 hl hlen h0 h1
  obtain ⟨v2, i2, g2, e2, a2, b2, _, c2, d2⟩ := spec_l1Below_ev l i1 g1 1000000 hl hlen c d
  obtain ⟨v3, i3, g3, e3, a3, b3, _, c3, d3⟩ := spec_l1Below_ev l i2 g2 300 hl hlen c2 d2
  have b := b (by decide)
  have b2 := b2 (by decide)
  have b3 := b3 (by decide)
  simp only [e, e2, e3, Option.bind_some]
  rw [wrap_id (n := -v2) (by omega) (by omega)]
  obtain ⟨w, i4, g4, e4, hm, c4, d4⟩ := spec_l1PickInt_ev l i3 g3 [0, 1, (-1), 63, 64, (-64), (-65), 127, 128, 16383, 16384, 2147483647, (-2147483648), 9223372036854775807, (-9223372036854775808), 4611686018427387904, v, -v2, v3] hl hlen c3 d3 (by simp)
  simp only [e4, Option.bind_some]
  refine ⟨_, _, _, rfl, ?_, ?_, c4, d4⟩
  · simp only [List.mem_cons, List.not_mem_nil, or_false] at hm; omega
  · simp only [List.mem_cons, List.not_mem_nil, or_false] at hm; omega

theorem spec_DrawFloatKey_ev (l : List Int) (hl : ∀ x ∈ l, (Lit.int .u8 x).wf = true) (hlen : l.length ≤ 1000000000000) :
    ∃ v, Ev (fun k => spec_DrawFloatKey.f k l) v ∧ -9223372036854775808 ≤ v ∧ v < 9223372036854775808 := by
  obtain ⟨h, e⟩ := spec_l1New_ev l hlen
  obtain ⟨v, i, g, e2, a, b, _⟩ := spec_l2DrawNum_ev l 0 h hl hlen (by omega) (by omega)
  refine ⟨v, ?_, a, b⟩
  unfold spec_DrawFloatKey.f
  refine Ev.bind e ?_
  simp only [e2, Option.bind_some]
  exact Ev.now _

theorem FnFloats : laws_FnFloats.Pure := by
  intro l hlen hsz hl
  refine Ev.rounds (g := fun k => laws_FnFloats.f k l) ?_
  unfold laws_FnFloats.f
  simp only [laws_big_ev, Option.bind_some]
  by_cases hbig : (l.length : Int) > 1048576
  · simp only [decide_eq_true hbig, if_true]; exact Ev.now _
  simp only [decide_eq_false hbig, Bool.false_eq_true, if_false]
  obtain ⟨x, e, h0, h1⟩ := spec_DrawFloatKey_ev l hl (by omega)
  refine Ev.bind e ?_
  have fk : ∀ y, impl_FloatKey.f y = some (if y < 0 then Go.bits .xor .i64 y 9223372036854775807 else y) := by intro y; unfold impl_FloatKey.f; split <;> rfl
  have fs : ∀ y, spec_FloatKey.f y = some (if y < 0 then Go.bits .xor .i64 y 9223372036854775807 else y) := by intro y; unfold spec_FloatKey.f; split <;> rfl
  have ex : ∀ y : Int, -9223372036854775808 ≤ y → y < 0 → Go.bits .xor .i64 y 9223372036854775807 = -9223372036854775809 - y := by
    intro y h2 h3
    have e1 : BitVec.ofInt 64 9223372036854775807 = BitVec.allOnes 64 ^^^ BitVec.ofInt 64 (-9223372036854775808) := by decide
    rw [xor64, e1, ← BitVec.xor_assoc, BitVec.xor_allOnes]
    have e2 : ~~~ BitVec.ofInt 64 y = BitVec.ofInt 64 (-1 - y) := by
      apply BitVec.eq_of_toNat_eq; rw [BitVec.toNat_not]; simp only [BitVec.toNat_ofInt]; omega
    rw [e2]
    have e3 : BitVec.ofInt 64 (-1 - y) ^^^ BitVec.ofInt 64 (-9223372036854775808) = BitVec.ofInt 64 (-9223372036854775809 - y) := by
      apply BitVec.eq_of_toNat_eq
      rw [BitVec.toNat_xor]; simp only [BitVec.toNat_ofInt]
      rw [show ((-9223372036854775808 : Int) % (2 ^ 64 : Nat)).toNat = 2 ^ 63 by decide]
      have hlt : ((-1 - y) % ((2 ^ 64 : Nat) : Int)).toNat < 2 ^ 63 := by omega
      have hx := Nat.two_pow_add_eq_or_of_lt hlt 1
      have hz : ((-1 - y) % ((2 ^ 64 : Nat) : Int)).toNat ^^^ 2 ^ 63 = 2 ^ 63 * 1 + ((-1 - y) % ((2 ^ 64 : Nat) : Int)).toNat := by
        rw [hx]; apply Nat.eq_of_testBit_eq; intro i
        rw [Nat.testBit_xor, Nat.testBit_or, Nat.mul_one]
        by_cases hi : i = 63
        · subst hi; rw [Nat.testBit_lt_two_pow hlt]; simp
        · rw [Nat.testBit_two_pow_of_ne (by omega)]; simp
      rw [hz]; omega
    rw [e3, toInt_ofInt, wrap_id (by omega) (by omega)]
  simp only [fk, fs, Option.bind_some, if_true]
  rw [if_pos (by decide : (-9223372036854775808 : Int) < 0), ex (-9223372036854775808) (by decide) (by decide)]
  by_cases hn : x < 0
  · rw [if_pos hn, ex x h0 hn, if_pos (show -9223372036854775809 - x < 0 by omega), ex (-9223372036854775809 - x) (by omega) (by omega)]
    have h2 : -9223372036854775809 - x < 0 := by omega
    simp only [h2, hn, decide_true, bne_self_eq_false, Bool.false_eq_true, if_false]
    have h3 : ¬ x ≥ 0 := by omega
    have h4 : -9223372036854775809 - x ≤ -9223372036854775809 - -9223372036854775808 := by omega
    simp only [show (-9223372036854775809 - (-9223372036854775809 - x) = x) by omega, if_true, show ((-9223372036854775809 : Int) - -9223372036854775808 = -1) by decide, if_neg h3, show (-9223372036854775809 - x ≤ -1) by omega, decide_true]
    exact Ev.now _
  · simp only [if_neg hn, if_true, bne_self_eq_false, Bool.false_eq_true, if_false]
    simp only [show ((-9223372036854775809 : Int) - -9223372036854775808 = -1) by decide, if_true, if_pos (show x ≥ 0 by omega)]
    exact Ev.now _

end Go.Proofs.Ytoehjhmkeaofeaa.Pure
