/- The law FnWidth answers true for every code. -/
import Derived.Test.YtoehjhmkeaofeaaPFnWidthx2
import Derived.Test.YtoehjhmkeaofeaaCom
namespace Go.Proofs.Ytoehjhmkeaofeaa.Pure
open Go Go.RowKit Go.Proofs.Ytoehjhmkeaofeaa.PFnWidth Go.Proofs.YtoehjhmkeaofeaaW.PrintWords Go.Proofs.YtoehjhmkeaofeaaW.PrintLast Go.Proofs.YtoehjhmkeaofeaaW.PrintMore Go.Proofs.Ytoehjhmkeaofeaa.Com
set_option linter.unusedVariables false
set_option linter.unusedSimpArgs false

theorem spec_l1Byte_ev (l : List Int) (i h : Int) (hl : ∀ x ∈ l, (Lit.int .u8 x).wf = true) (hlen : l.length ≤ 1000000000000) (h0 : 0 ≤ i) (h1 : i ≤ l.length) :
    ∃ v i' h', spec_l1Byte.f l i h = some (v, i', h') ∧ 0 ≤ v ∧ v < 256 ∧ 0 ≤ i' ∧ i' ≤ l.length := by
  have m : ∀ x, Go.bits .and .i64 x 255 = x % 256 := fun x => and_mask x 8 (by decide)
  unfold spec_l1Byte.f
  by_cases hi : i < l.length
  · rw [if_pos hi, if_pos h0, m, m, wrap_id (n := i + 1) (by omega) (by omega)]
    exact ⟨_, _, _, rfl, by omega, by omega, by omega, by omega⟩
  · rw [if_neg hi, m]
    exact ⟨_, _, _, rfl, by omega, by omega, by omega, by omega⟩
theorem spec_l1Below_ev (l : List Int) (i h n : Int) (hl : ∀ x ∈ l, (Lit.int .u8 x).wf = true) (hlen : l.length ≤ 1000000000000) (h0 : 0 ≤ i) (h1 : i ≤ l.length) :
    ∃ v i' h', spec_l1Below.f l i h n = some (v, i', h') ∧ 0 ≤ v ∧ (0 < n → v < n) ∧ (n ≤ 0 → v = 0) ∧ 0 ≤ i' ∧ i' ≤ l.length := by
  unfold spec_l1Below.f
  by_cases hn : n ≤ 0
  · rw [if_pos hn]; exact ⟨_, _, _, rfl, by omega, by omega, by omega, h0, h1⟩
  · rw [if_neg hn]
    obtain ⟨v, i1, h2, e, a, b, c, d⟩ := spec_l1Byte_ev l i h hl hlen h0 h1
    by_cases hb : n ≤ 256
    · rw [if_pos hb]
      simp only [e, Option.bind_some]
      rw [if_neg (by omega)]
      refine ⟨_, _, _, rfl, ?_⟩
      rw [Int.tmod_eq_emod_of_nonneg a]
      exact ⟨Int.emod_nonneg _ (by omega), fun _ => Int.emod_lt_of_pos _ (by omega), by omega, c, d⟩
    · rw [if_neg hb]
      obtain ⟨v2, i2, h3, e2, a2, b2, c2, d2⟩ := spec_l1Byte_ev l i1 h2 hl hlen c d
      obtain ⟨v3, i3, h4, e3, a3, b3, c3, d3⟩ := spec_l1Byte_ev l i2 h3 hl hlen c2 d2
      obtain ⟨v4, i4, h5, e4, a4, b4, c4, d4⟩ := spec_l1Byte_ev l i3 h4 hl hlen c3 d3
      simp only [e, e2, e3, e4, Option.bind_some]
      rw [if_neg (by omega), wrap_id (n := v * 16777216) (by omega) (by omega), wrap_id (n := v2 * 65536) (by omega) (by omega), wrap_id (n := v3 * 256) (by omega) (by omega), wrap_id (n := v * 16777216 + v2 * 65536) (by omega) (by omega), wrap_id (n := v * 16777216 + v2 * 65536 + v3 * 256) (by omega) (by omega), wrap_id (by omega) (by omega)]
      refine ⟨_, _, _, rfl, ?_⟩
      rw [Int.tmod_eq_emod_of_nonneg (by omega)]
      exact ⟨Int.emod_nonneg _ (by omega), fun _ => Int.emod_lt_of_pos _ (by omega), by omega, c4, d4⟩
theorem spec_l1New_ev (l : List Int) (hlen : l.length ≤ 1000000000000) : ∃ h, Ev (fun k => spec_l1New.f k l) (l, 0, h) := by
  have key : ∀ (d : Nat) (i x : Int), 0 ≤ i → i ≤ l.length → (l.length : Int) - i = d → ∃ h, Ev (fun k => spec_l1New.l0 k l x i) (l, 0, h) := by
    intro d
    induction d with
    | zero =>
      intro i x h0 h1 hd
      refine ⟨x, Ev.step (f := fun _ => some (l, 0, x)) (fun k => ?_) (Ev.now _)⟩
      simp only [spec_l1New.l0]; rw [if_neg (by omega)]
    | succ d ih =>
      intro i x h0 h1 hd
      by_cases h4 : i < 4000
      · obtain ⟨h, e⟩ := ih (i + 1) (Go.bits .and .i64 (wrap64 ((wrap64 ((wrap64 (x * 131)) + (wrap64 (rd l i)))) + 7)) 1073741823) (by omega) (by omega) (by omega)
        refine ⟨h, Ev.step (fun k => ?_) e⟩
        simp only [spec_l1New.l0]; rw [if_pos (by omega), if_pos h4, if_pos h0, wrap_id (n := i + 1) (by omega) (by omega)]
      · refine ⟨x, Ev.step (f := fun _ => some (l, 0, x)) (fun k => ?_) (Ev.now _)⟩
        simp only [spec_l1New.l0]; rw [if_pos (by omega), if_neg h4]
  obtain ⟨h, e⟩ := key l.length 0 (wrap64 (11443 + (l.length : Int))) (by omega) (by omega) (by omega)
  exact ⟨h, e⟩
theorem laws_big_ev (l : List Int) : laws_big.f l = some (decide ((l.length : Int) > 1048576)) := rfl

theorem spec_l1PickInt_ev (l : List Int) (i h : Int) (p : List Int) (hl : ∀ x ∈ l, (Lit.int .u8 x).wf = true) (hlen : l.length ≤ 1000000000000) (h0 : 0 ≤ i) (h1 : i ≤ l.length) (hp : 0 < p.length) :
    ∃ v i' h', spec_l1PickInt.f l i h p = some (v, i', h') ∧ v ∈ p ∧ 0 ≤ i' ∧ i' ≤ l.length := by
  unfold spec_l1PickInt.f
  obtain ⟨v, i1, h2, e, a, b, _, c, d⟩ := spec_l1Below_ev l i h p.length hl hlen h0 h1
  have b := b (by omega)
  simp only [e, Option.bind_some]
  rw [if_pos a, if_pos b]
  refine ⟨_, _, _, rfl, ?_, c, d⟩
  rw [rd_eq' _ _ a (by omega)]; exact List.getElem_mem _

theorem len8_ev (i : Int) (h0 : 0 ≤ i) (h : i < 256) : bt (⟨#[0, 1, 2, 2, 3, 3, 3, 3, 4, 4, 4, 4, 4, 4, 4, 4, 5, 5, 5, 5, 5, 5, 5, 5, 5, 5, 5, 5, 5, 5, 5, 5, 6, 6, 6, 6, 6, 6, 6, 6, 6, 6, 6, 6, 6, 6, 6, 6, 6, 6, 6, 6, 6, 6, 6, 6, 6, 6, 6, 6, 6, 6, 6, 6, 7, 7, 7, 7, 7, 7, 7, 7, 7, 7, 7, 7, 7, 7, 7, 7, 7, 7, 7, 7, 7, 7, 7, 7, 7, 7, 7, 7, 7, 7, 7, 7, 7, 7, 7, 7, 7, 7, 7, 7, 7, 7, 7, 7, 7, 7, 7, 7, 7, 7, 7, 7, 7, 7, 7, 7, 7, 7, 7, 7, 7, 7, 7, 7, 8, 8, 8, 8, 8, 8, 8, 8, 8, 8, 8, 8, 8, 8, 8, 8, 8, 8, 8, 8, 8, 8, 8, 8, 8, 8, 8, 8, 8, 8, 8, 8, 8, 8, 8, 8, 8, 8, 8, 8, 8, 8, 8, 8, 8, 8, 8, 8, 8, 8, 8, 8, 8, 8, 8, 8, 8, 8, 8, 8, 8, 8, 8, 8, 8, 8, 8, 8, 8, 8, 8, 8, 8, 8, 8, 8, 8, 8, 8, 8, 8, 8, 8, 8, 8, 8, 8, 8, 8, 8, 8, 8, 8, 8, 8, 8, 8, 8, 8, 8, 8, 8, 8, 8, 8, 8, 8, 8, 8, 8, 8, 8, 8, 8, 8, 8, 8, 8, 8, 8, 8, 8, 8, 8, 8, 8, 8, 8]⟩ : ByteArray) i = blen i.toNat := by
  have e : ∀ j : Nat, j < 256 → bt (⟨#[0, 1, 2, 2, 3, 3, 3, 3, 4, 4, 4, 4, 4, 4, 4, 4, 5, 5, 5, 5, 5, 5, 5, 5, 5, 5, 5, 5, 5, 5, 5, 5, 6, 6, 6, 6, 6, 6, 6, 6, 6, 6, 6, 6, 6, 6, 6, 6, 6, 6, 6, 6, 6, 6, 6, 6, 6, 6, 6, 6, 6, 6, 6, 6, 7, 7, 7, 7, 7, 7, 7, 7, 7, 7, 7, 7, 7, 7, 7, 7, 7, 7, 7, 7, 7, 7, 7, 7, 7, 7, 7, 7, 7, 7, 7, 7, 7, 7, 7, 7, 7, 7, 7, 7, 7, 7, 7, 7, 7, 7, 7, 7, 7, 7, 7, 7, 7, 7, 7, 7, 7, 7, 7, 7, 7, 7, 7, 7, 8, 8, 8, 8, 8, 8, 8, 8, 8, 8, 8, 8, 8, 8, 8, 8, 8, 8, 8, 8, 8, 8, 8, 8, 8, 8, 8, 8, 8, 8, 8, 8, 8, 8, 8, 8, 8, 8, 8, 8, 8, 8, 8, 8, 8, 8, 8, 8, 8, 8, 8, 8, 8, 8, 8, 8, 8, 8, 8, 8, 8, 8, 8, 8, 8, 8, 8, 8, 8, 8, 8, 8, 8, 8, 8, 8, 8, 8, 8, 8, 8, 8, 8, 8, 8, 8, 8, 8, 8, 8, 8, 8, 8, 8, 8, 8, 8, 8, 8, 8, 8, 8, 8, 8, 8, 8, 8, 8, 8, 8, 8, 8, 8, 8, 8, 8, 8, 8, 8, 8, 8, 8, 8, 8, 8, 8, 8, 8]⟩ : ByteArray) (j : Int) = blen j := by decide +kernel
  have := e i.toNat (by omega)
  rwa [Int.toNat_of_nonneg h0] at this
set_option maxRecDepth 100000 in
theorem bits_Len64_j (n : Nat) (b : Int) (hb : 0 ≤ b) (hb2 : b ≤ 100) (hn : n < 4294967296) : Ev (fun k => bits_Len64.j0 k n b) (b + blen n) := by
  refine Ev.step (f := fun _ => some (b + blen n)) (fun k => ?_) (Ev.now _)
  have h8 : ∀ m : Nat, m < 256 → (blen m : Int) ≤ 8 := fun m hm => by have := (blen_le m 8).2 hm; omega
  rw [bits_Len64.j0]
  by_cases h1 : n < 65536
  · rw [if_neg (by omega)]
    by_cases h2 : n < 256
    · rw [if_neg (by omega), if_pos (by omega), if_pos (by omega), show ((n : Int) % 256) = n by omega, len8_ev _ (by omega) (by omega), show ((n : Int)).toNat = n by omega]
      have := h8 n h2
      rw [wrap_id (n := (blen n : Int)) (by omega) (by omega), wrap_id (by omega) (by omega)]
    · have e := blen_div n 8 (by omega)
      have hlt : n / 2 ^ 8 < 256 := by omega
      rw [if_pos (by omega), if_pos (by omega), if_pos (by omega), len8_ev _ (by omega) (by omega), show ((n : Int) / 256 % 256).toNat = n / 2 ^ 8 by omega]
      have := h8 _ hlt
      rw [wrap_id (n := (blen (n / 2 ^ 8) : Int)) (by omega) (by omega), wrap_id (n := b + 8) (by omega) (by omega), wrap_id (by omega) (by omega), e]
      congr 1; push_cast; omega
  · rw [if_pos (by omega)]
    by_cases h2 : n / 65536 < 256
    · have e := blen_div n 16 (by omega)
      rw [if_neg (by omega), if_pos (by omega), if_pos (by omega), len8_ev _ (by omega) (by omega), show ((n : Int) / 65536 % 256).toNat = n / 2 ^ 16 by omega]
      have := h8 (n / 2 ^ 16) (by omega)
      rw [wrap_id (n := (blen (n / 2 ^ 16) : Int)) (by omega) (by omega), wrap_id (n := b + 16) (by omega) (by omega), wrap_id (by omega) (by omega), e]
      congr 1; push_cast; omega
    · have e := blen_div n 24 (by omega)
      rw [if_pos (by omega), if_pos (by omega), if_pos (by omega), len8_ev _ (by omega) (by omega), show ((n : Int) / 65536 / 256 % 256).toNat = n / 2 ^ 24 by omega]
      have := h8 (n / 2 ^ 24) (by omega)
      rw [wrap_id (n := (blen (n / 2 ^ 24) : Int)) (by omega) (by omega), wrap_id (n := b + 16) (by omega) (by omega), wrap_id (n := b + 16 + 8) (by omega) (by omega), wrap_id (by omega) (by omega), e]
      congr 1; push_cast; omega
theorem bits_Len64_ev (n : Nat) (h : n < 18446744073709551616) : Ev (fun k => bits_Len64.f k n) (blen n) := by
  unfold bits_Len64.f
  by_cases h1 : n < 4294967296
  · refine Ev.congr (fun k => if_neg (show ¬ (n : Int) ≥ 4294967296 by omega)) ?_
    have := bits_Len64_j n 0 (by omega) (by omega) h1
    rw [Int.zero_add] at this; exact this
  · refine Ev.congr (fun k => if_pos (show (n : Int) ≥ 4294967296 by omega)) ?_
    have e := blen_div n 32 (by omega)
    have := bits_Len64_j (n / 4294967296) 32 (by omega) (by omega) (by omega)
    rw [e, show n / 2 ^ 32 = n / 4294967296 by rfl]
    rw [show ((blen (n / 4294967296) + 32 : Nat) : Int) = 32 + (blen (n / 4294967296) : Int) by omega]
    rw [show ((n / 4294967296 : Nat) : Int) = (n : Int) / 4294967296 by omega] at this
    exact this
theorem impl_widthOf_ev (n : Int) (h0 : 0 ≤ n) (h : n < 9223372036854775808) : Ev (fun k => impl_widthOf.f k n) (blen n.toNat) := by
  unfold impl_widthOf.f
  rw [uwrap_id h0 (by omega)]
  have := bits_Len64_ev n.toNat (by omega)
  rw [Int.toNat_of_nonneg h0] at this
  refine Ev.bind this ?_
  exact Ev.now _

/-- What BitsWidth answers. -/
def bw (m : Int) : Int := if m < 0 then -1 else if blen m.toNat > 62 then -1 else blen m.toNat
theorem impl_BitsWidth_ev (m : Int) (h1 : m < 9223372036854775808) : Ev (fun k => impl_BitsWidth.f k m) (bw m) := by
  unfold impl_BitsWidth.f bw
  by_cases h : m < 0
  · simp only [if_pos h]; exact Ev.now _
  · simp only [if_neg h]
    refine Ev.bind (impl_widthOf_ev m (by omega) h1) ?_
    by_cases h2 : blen m.toNat > 62
    · simp only [if_pos h2, if_pos (show (blen m.toNat : Int) > 62 by omega)]; exact Ev.now _
    · simp only [if_neg h2, if_neg (show ¬ (blen m.toNat : Int) > 62 by omega)]
      refine Ev.bind (impl_widthOf_ev m (by omega) h1) ?_
      exact Ev.now _

theorem spec_BitsWidth_l (d : Nat) : ∀ (n : Nat) (w : Nat), blen n = d → w + d ≤ 100 → n < 9223372036854775808 → Ev (fun k => spec_BitsWidth.l0 k n w) (if w + blen n > 62 then -1 else ((w + blen n : Nat) : Int)) := by
  induction d with
  | zero =>
    intro n w hd hw hn
    have hz : n = 0 := by have := (blen_le n 0).1 (by omega); simpa using this
    subst hz
    refine Ev.step (f := fun _ => some (if w + blen 0 > 62 then -1 else ((w + blen 0 : Nat) : Int))) (fun k => ?_) (Ev.now _)
    simp only [spec_BitsWidth.l0]
    rw [if_neg (show ¬ ((0 : Nat) : Int) > 0 by omega), hd, Nat.add_zero]
    by_cases h : w > 62
    · rw [if_pos (show (w : Int) > 62 by omega), if_pos h]
    · rw [if_neg (show ¬ (w : Int) > 62 by omega), if_neg h]
  | succ d ih =>
    intro n w hd hw hn
    have hpos : 0 < n := by
      rcases Nat.eq_zero_or_pos n with h | h
      · subst h; simp [blen] at hd
      · exact h
    have e := blen_half n hpos
    have h := ih (n / 2 ^ 1) (w + 1) (by omega) (by omega) (by omega)
    rw [show w + 1 + blen (n / 2 ^ 1) = w + blen n by omega] at h
    refine Ev.step (fun k => ?_) h
    simp only [spec_BitsWidth.l0]
    rw [if_pos (by omega), Int.tdiv_eq_ediv_of_nonneg (by omega), wrap_id (n := (n : Int) / 2) (by omega) (by omega), wrap_id (by omega) (by omega)]
    push_cast; rfl
theorem spec_BitsWidth_ev (m : Int) (h1 : m < 9223372036854775808) : Ev (fun k => spec_BitsWidth.f k m) (bw m) := by
  unfold spec_BitsWidth.f bw
  by_cases h : m < 0
  · simp only [if_pos h]; exact Ev.now _
  · simp only [if_neg h]
    have hb : blen m.toNat ≤ 63 := (blen_le _ _).2 (by omega)
    have := spec_BitsWidth_l (blen m.toNat) m.toNat 0 rfl (by omega) (by omega)
    rw [Int.toNat_of_nonneg (by omega)] at this
    simpa using this

theorem impl_within_ev (x a b : Int) : impl_within.f x a b = some (decide (a ≤ x ∧ x ≤ b)) := by
  unfold impl_within.f
  by_cases h : x ≥ a
  · rw [if_pos h]; congr 1; simp [show a ≤ x from h]
  · rw [if_neg h]; congr 1; simp [show ¬ a ≤ x from h]

theorem impl_packed_ev (l : List Int) (w : Nat) (hw : w ≤ 64) (hlen : l.length ≤ 1000000000) :
    Ev (fun k => impl_packed.f k l w) (packB l w) := by
  have hmul : l.length * w ≤ 64000000000 := by
    calc l.length * w ≤ 1000000000 * 64 := Nat.mul_le_mul hlen hw
      _ = 64000000000 := by decide
  have hmulc : ((l.length * w : Nat) : Int) = (l.length : Int) * w := by push_cast; rfl
  have inner : ∀ (d i j : Nat), i < l.length → j + d = w →
      ∀ R : List Int, Ev (fun k => impl_packed.l0 k w (bytesOf (upTo (pbit l w) ((i + 1) * w)) ((l.length * w + 7) / 8)) l l.length ((i + 1 : Nat) : Int)) R →
      Ev (fun k => impl_packed.l1 k w (bytesOf (upTo (pbit l w) (i * w + j)) ((l.length * w + 7) / 8)) i (rd l i) l l.length i w j) R := by
    intro d
    induction d with
    | zero =>
      intro i j hi hj R h
      refine Ev.step (fun k => ?_) h
      simp only [impl_packed.l1]
      rw [if_neg (by omega), wrap_id (n := (i : Int) + 1) (by omega) (by omega), show j = w by omega, Nat.succ_mul]
      push_cast; rfl
    | succ d ih =>
      intro i j hi hj R h
      have hP : i * w + j < l.length * w := by
        have : (i + 1) * w ≤ l.length * w := Nat.mul_le_mul_right w hi
        rw [Nat.succ_mul] at this; omega
      have hc : ((i * w : Nat) : Int) = (i : Int) * w := by push_cast; rfl
      refine Ev.step (fun k => ?_) (ih i (j + 1) hi (by omega) R h)
      simp only [impl_packed.l1]
      rw [if_pos (by omega), ← hc, wrap_id (n := ((i * w : Nat) : Int)) (by omega) (by omega), wrap_id (n := ((i * w : Nat) : Int) + j) (by omega) (by omega)]
      rw [Int.tdiv_eq_ediv_of_nonneg (by omega), Int.tmod_eq_emod_of_nonneg (by omega), wrap_id (n := (((i * w : Nat) : Int) + j) / 8) (by omega) (by omega)]
      rw [if_pos (by omega), if_pos (by rw [bytesOf_len]; omega), if_pos (by omega), if_pos (by omega), wrap_id (n := (j : Int) + 1) (by omega) (by omega)]
      have hb : Go.bits .and .i64 (shr .i64 (rd l i) j) 1 = pbit l w (i * w + j) := by
        rw [and_one, shr64 _ _ (by omega) (by omega), pbit_at l w i j (by omega)]; rfl
      have hbits := pbit_bits l w (i * w + j)
      rw [hb, show pbit l w (i * w + j) % 256 = pbit l w (i * w + j) by omega, shl8 _ _ (by omega) (by omega) hbits]
      rw [rd_bytesOf _ _ _ (by omega) (by omega)]
      have hst := byteOf_step (pbit_bits l w) ((i * w + j) / 8) ((i * w + j) % 8) (by omega)
      rw [show 8 * ((i * w + j) / 8) + (i * w + j) % 8 = i * w + j by omega] at hst
      rw [show ((((i * w : Nat) : Int) + j) % 8).toNat = (i * w + j) % 8 by omega, show ((((i * w : Nat) : Int) + j) / 8).toNat = (i * w + j) / 8 by omega]
      rw [or8 _ _ _ (by omega) hst.1 hst.2.1 hbits, ← hst.2.2, bytesOf_set _ _ _ _ rfl]
      push_cast; rfl
  have outer : ∀ (d i : Nat), i + d = l.length → Ev (fun k => impl_packed.l0 k w (bytesOf (upTo (pbit l w) (i * w)) ((l.length * w + 7) / 8)) l l.length i) (packB l w) := by
    intro d
    induction d with
    | zero =>
      intro i hi
      refine Ev.step (f := fun _ => some (packB l w)) (fun k => ?_) (Ev.now _)
      simp only [impl_packed.l0]; rw [if_neg (by omega), show i = l.length by omega]; rfl
    | succ d ih =>
      intro i hi
      refine Ev.step (fun k => ?_) (inner w i 0 (by omega) (by omega) _ (ih (i + 1) (by omega)))
      simp only [impl_packed.l0]; rw [if_pos (by omega), if_pos (by omega), if_pos (by omega)]; rfl
  have h := outer l.length 0 (by omega)
  unfold impl_packed.f
  rw [← hmulc, wrap_id (n := ((l.length * w : Nat) : Int)) (by omega) (by omega), wrap_id (n := ((l.length * w : Nat) : Int) + 7) (by omega) (by omega), Int.tdiv_eq_ediv_of_nonneg (by omega), wrap_id (by omega) (by omega)]
  simp only [if_pos (show (0 : Int) ≤ (((l.length * w : Nat) : Int) + 7) / 8 by omega), if_pos (show ((((l.length * w : Nat) : Int) + 7) / 8).toNat ≤ 281474976710656 by omega)]
  rw [show ((((l.length * w : Nat) : Int) + 7) / 8).toNat = (l.length * w + 7) / 8 by omega, bytesOf_zero (pbit l w)]
  simpa using h

/-- A number that BitsPack takes. -/
def fits (w : Int) (n : Int) : Prop := 0 ≤ n ∧ (blen n.toNat : Int) ≤ w
instance (w n : Int) : Decidable (fits w n) := by unfold fits; exact inferInstance
/-- What BitsPack answers. -/
def bpk (l : List Int) (w : Int) : List Int × Bool := if l.length ≤ 2000 ∧ 0 ≤ w ∧ w ≤ 62 ∧ ∀ n ∈ l, fits w n then (packB l w.toNat, true) else ([], false)
theorem impl_BitsPack_ev (l : List Int) (w : Int) (hl : ∀ x ∈ l, (Lit.int .i64 x).wf = true) : Ev (fun k => impl_BitsPack.f k l w) (bpk l w) := by
  have bad : ∀ l' w', Ev (fun k => impl_BitsPack.j0 k l' w' true) ([], false) := fun l' w' => Ev.step (f := fun _ => some ([], false)) (fun k => by simp only [impl_BitsPack.j0]; rw [if_pos trivial]) (Ev.now _)
  unfold impl_BitsPack.f bpk
  by_cases h2 : l.length ≤ 2000
  · simp only [if_neg (show ¬ (l.length : Int) > 2000 by omega), impl_within_ev, Option.bind_some]
    by_cases hw : 0 ≤ w ∧ w ≤ 62
    · simp only [decide_eq_true hw, Bool.not_true]
      have key : ∀ (d i : Nat), i + d = l.length → (∀ n ∈ l.take i, fits w n) → Ev (fun k => impl_BitsPack.l0 k l w l l.length i) (if ∀ n ∈ l, fits w n then (packB l w.toNat, true) else ([], false)) := by
        intro d
        induction d with
        | zero =>
          intro i hi hf
          rw [show i = l.length by omega, List.take_length] at hf
          rw [if_pos hf]
          refine Ev.step (f := fun k => (impl_packed.f k l w).bind fun t => some (t, true)) (fun k => ?_) ?_
          · simp only [impl_BitsPack.l0]; rw [if_neg (by omega)]
          · have := impl_packed_ev l w.toNat (by omega) (by omega)
            rw [Int.toNat_of_nonneg hw.1] at this
            refine Ev.bind this ?_
            exact Ev.now _
        | succ d ih =>
          intro i hi hf
          have hm : rd l i = l[i] := rd_eq l i (by omega)
          have hmem : l[i] ∈ l := List.getElem_mem _
          have hwf := wf64 (hl _ hmem)
          by_cases hn : l[i] < 0
          · rw [if_neg (fun h => by have := (h _ hmem).1; omega)]
            refine Ev.step (f := fun _ => some ([], false)) (fun k => ?_) (Ev.now _)
            simp only [impl_BitsPack.l0]; rw [if_pos (by omega), if_pos (by omega), if_pos (by omega), hm, if_pos hn]
          · by_cases hb : (blen (l[i]).toNat : Int) ≤ w
            · have hnext := ih (i + 1) (by omega) (by
                intro n hn2
                rw [List.take_succ_eq_append_getElem (by omega)] at hn2
                rcases List.mem_append.1 hn2 with h | h
                · exact hf n h
                · rw [List.mem_singleton] at h; subst h; exact ⟨by omega, hb⟩)
              refine Ev.step (f := fun k => (impl_widthOf.f k l[i]).bind fun t => if t > w then some ([], false) else impl_BitsPack.l0 k l w l l.length ((i + 1 : Nat) : Int)) (fun k => ?_) ?_
              · simp only [impl_BitsPack.l0]; rw [if_pos (by omega), if_pos (by omega), if_pos (by omega), hm, if_neg hn, wrap_id (by omega) (by omega)]; push_cast; rfl
              · refine Ev.bind (impl_widthOf_ev _ (by omega) hwf.2) ?_
                simp only [if_neg (show ¬ (blen (l[i]).toNat : Int) > w by omega)]; exact hnext
            · rw [if_neg (fun h => hb (h _ hmem).2)]
              refine Ev.step (f := fun k => (impl_widthOf.f k l[i]).bind fun t => if t > w then some ([], false) else impl_BitsPack.l0 k l w l l.length ((i + 1 : Nat) : Int)) (fun k => ?_) ?_
              · simp only [impl_BitsPack.l0]; rw [if_pos (by omega), if_pos (by omega), if_pos (by omega), hm, if_neg hn, wrap_id (by omega) (by omega)]; push_cast; rfl
              · refine Ev.bind (impl_widthOf_ev _ (by omega) hwf.2) ?_
                simp only [if_pos (show (blen (l[i]).toNat : Int) > w by omega)]; exact Ev.now _
      have h := key l.length 0 (by omega) (by simp)
      have e : (if l.length ≤ 2000 ∧ 0 ≤ w ∧ w ≤ 62 ∧ ∀ n ∈ l, fits w n then (packB l w.toNat, true) else ([], false)) = (if ∀ n ∈ l, fits w n then (packB l w.toNat, true) else ([], false)) := by
        by_cases hf : ∀ n ∈ l, fits w n
        · rw [if_pos ⟨h2, hw.1, hw.2, hf⟩, if_pos hf]
        · rw [if_neg (fun h => hf h.2.2.2), if_neg hf]
      rw [e]
      refine Ev.step (fun k => ?_) h
      simp only [impl_BitsPack.j0]; rw [if_neg (by simp)]; rfl
    · simp only [decide_eq_false hw, Bool.not_false]
      rw [if_neg (fun h => hw ⟨h.2.1, h.2.2.1⟩)]; exact bad _ _
  · simp only [if_pos (show (l.length : Int) > 2000 by omega)]
    rw [if_neg (fun h => h2 h.1)]; exact bad _ _

theorem spec_DrawBitsWidth_ev (l : List Int) (hl : ∀ x ∈ l, (Lit.int .u8 x).wf = true) (hlen : l.length ≤ 1000000000000) :
    ∃ v, Ev (fun k => spec_DrawBitsWidth.f k l) v ∧ -9223372036854775808 ≤ v ∧ v < 9223372036854775808 := by
  obtain ⟨h, e⟩ := spec_l1New_ev l hlen
  obtain ⟨v, i, g, e2, a, b, _, c, d⟩ := spec_l1Below_ev l 0 h 100000 hl hlen (by omega) (by omega)
  have b := b (by decide)
  obtain ⟨w, i4, g4, e4, hm, c4, d4⟩ := spec_l1PickInt_ev l i g [0, 1, 2, 3, 4, 255, 256, (-1), 4611686018427387903, 4611686018427387904, 9223372036854775807, v] hl hlen c d (by simp)
  refine ⟨w, ?_, ?_, ?_⟩
  · unfold spec_DrawBitsWidth.f
    refine Ev.bind e ?_
    simp only [e2, e4, Option.bind_some]
    exact Ev.now _
  · simp only [List.mem_cons, List.not_mem_nil, or_false] at hm; omega
  · simp only [List.mem_cons, List.not_mem_nil, or_false] at hm; omega
theorem FnWidth : laws_FnWidth.Pure := by
  intro l hlen hsz hl
  refine Ev.rounds (g := fun k => laws_FnWidth.f k l) ?_
  unfold laws_FnWidth.f
  simp only [laws_big_ev, Option.bind_some]
  by_cases hbig : (l.length : Int) > 1048576
  · simp only [decide_eq_true hbig, if_true]; exact Ev.now _
  simp only [decide_eq_false hbig, Bool.false_eq_true, if_false]
  obtain ⟨x, e, h0, h1⟩ := spec_DrawBitsWidth_ev l hl (by omega)
  refine Ev.bind e ?_
  refine Ev.bind (impl_BitsWidth_ev x h1) ?_
  refine Ev.bind (spec_BitsWidth_ev x h1) ?_
  simp only [if_true]
  have hwf : ∀ y ∈ [x], (Lit.int .i64 y).wf = true := by
    intro y hy; rw [List.mem_singleton] at hy; subst hy
    simp [Lit.wf, IntKind.min, IntKind.max, IntKind.bits, IntKind.signed]; omega
  have hx := (blen_le x.toNat (blen x.toNat)).1 (Nat.le_refl _)
  by_cases hn : bw x < 0
  · simp only [if_pos hn]
    by_cases hx0 : x < 0
    · simp only [if_pos hx0]; exact Ev.now _
    · simp only [if_neg hx0]
      have hbl : blen x.toNat > 62 := by
        unfold bw at hn; rw [if_neg hx0] at hn
        by_cases h : blen x.toNat > 62
        · exact h
        · rw [if_neg h] at hn; omega
      have : ¬ x.toNat < 2 ^ 62 := fun h => by have := (blen_le x.toNat 62).2 h; omega
      have h2 : x ≥ 4611686018427387904 := by omega
      simp only [decide_eq_true h2]; exact Ev.now _
  · simp only [if_neg hn]
    have hx0 : ¬ x < 0 := by intro h; unfold bw at hn; rw [if_pos h] at hn; omega
    have hbl : ¬ blen x.toNat > 62 := by intro h; unfold bw at hn; rw [if_neg hx0, if_pos h] at hn; omega
    have hb : bw x = blen x.toNat := by unfold bw; rw [if_neg hx0, if_neg hbl]
    refine Ev.bind (impl_BitsPack_ev [x] (bw x) hwf) ?_
    refine Ev.bind (impl_BitsPack_ev [x] (wrap64 (bw x - 1)) hwf) ?_
    have e1 : bpk [x] (bw x) = (packB [x] (bw x).toNat, true) := by
      unfold bpk; rw [if_pos]
      refine ⟨by simp, by omega, by omega, ?_⟩
      intro n hm; rw [List.mem_singleton] at hm; subst hm; exact ⟨by omega, by omega⟩
    have e2 : bpk [x] (wrap64 (bw x - 1)) = ([], false) := by
      unfold bpk; rw [if_neg]
      rw [wrap_id (by omega) (by omega)]
      rintro ⟨_, h4, _, h5⟩
      have := (h5 x (List.mem_singleton.2 rfl)).2
      omega
    simp only [e1, e2, if_true, Bool.not_false]
    exact Ev.now _

end Go.Proofs.Ytoehjhmkeaofeaa.Pure
