/- BitsWidth answers as the reference does, for every int. -/
import Derived.Test.YtgojhlbhfmgkjaaPFnExactBitsWidthx1
import Derived.Test.YtgojhlbhfmgkjaaCom
namespace Go.Proofs.Ytgojhlbhfmgkjaa.Pure
open Go Go.RowKit Go.Proofs.Ytgojhlbhfmgkjaa.PFnExactBitsWidth Go.Proofs.YtgojhlbhfmgkjaaW.PrintWords Go.Proofs.YtgojhlbhfmgkjaaW.PrintLast Go.Proofs.YtgojhlbhfmgkjaaW.PrintMore Go.Proofs.Ytgojhlbhfmgkjaa.Com
set_option linter.unusedVariables false
set_option linter.unusedSimpArgs false

theorem len8_ev (i : Int) (h0 : 0 ≤ i) (h : i < 256) : bt (⟨#[0, 1, 2, 2, 3, 3, 3, 3, 4, 4, 4, 4, 4, 4, 4, 4, 5, 5, 5, 5, 5, 5, 5, 5, 5, 5, 5, 5, 5, 5, 5, 5, 6, 6, 6, 6, 6, 6, 6, 6, 6, 6, 6, 6, 6, 6, 6, 6, 6, 6, 6, 6, 6, 6, 6, 6, 6, 6, 6, 6, 6, 6, 6, 6, 7, 7, 7, 7, 7, 7, 7, 7, 7, 7, 7, 7, 7, 7, 7, 7, 7, 7, 7, 7, 7, 7, 7, 7, 7, 7, 7, 7, 7, 7, 7, 7, 7, 7, 7, 7, 7, 7, 7, 7, 7, 7, 7, 7, 7, 7, 7, 7, 7, 7, 7, 7, 7, 7, 7, 7, 7, 7, 7, 7, 7, 7, 7, 7, 8, 8, 8, 8, 8, 8, 8, 8, 8, 8, 8, 8, 8, 8, 8, 8, 8, 8, 8, 8, 8, 8, 8, 8, 8, 8, 8, 8, 8, 8, 8, 8, 8, 8, 8, 8, 8, 8, 8, 8, 8, 8, 8, 8, 8, 8, 8, 8, 8, 8, 8, 8, 8, 8, 8, 8, 8, 8, 8, 8, 8, 8, 8, 8, 8, 8, 8, 8, 8, 8, 8, 8, 8, 8, 8, 8, 8, 8, 8, 8, 8, 8, 8, 8, 8, 8, 8, 8, 8, 8, 8, 8, 8, 8, 8, 8, 8, 8, 8, 8, 8, 8, 8, 8, 8, 8, 8, 8, 8, 8, 8, 8, 8, 8, 8, 8, 8, 8, 8, 8, 8, 8, 8, 8, 8, 8, 8, 8]⟩ : ByteArray) i = blen i.toNat := by
  have e : ∀ j : Nat, j < 256 → bt (⟨#[0, 1, 2, 2, 3, 3, 3, 3, 4, 4, 4, 4, 4, 4, 4, 4, 5, 5, 5, 5, 5, 5, 5, 5, 5, 5, 5, 5, 5, 5, 5, 5, 6, 6, 6, 6, 6, 6, 6, 6, 6, 6, 6, 6, 6, 6, 6, 6, 6, 6, 6, 6, 6, 6, 6, 6, 6, 6, 6, 6, 6, 6, 6, 6, 7, 7, 7, 7, 7, 7, 7, 7, 7, 7, 7, 7, 7, 7, 7, 7, 7, 7, 7, 7, 7, 7, 7, 7, 7, 7, 7, 7, 7, 7, 7, 7, 7, 7, 7, 7, 7, 7, 7, 7, 7, 7, 7, 7, 7, 7, 7, 7, 7, 7, 7, 7, 7, 7, 7, 7, 7, 7, 7, 7, 7, 7, 7, 7, 8, 8, 8, 8, 8, 8, 8, 8, 8, 8, 8, 8, 8, 8, 8, 8, 8, 8, 8, 8, 8, 8, 8, 8, 8, 8, 8, 8, 8, 8, 8, 8, 8, 8, 8, 8, 8, 8, 8, 8, 8, 8, 8, 8, 8, 8, 8, 8, 8, 8, 8, 8, 8, 8, 8, 8, 8, 8, 8, 8, 8, 8, 8, 8, 8, 8, 8, 8, 8, 8, 8, 8, 8, 8, 8, 8, 8, 8, 8, 8, 8, 8, 8, 8, 8, 8, 8, 8, 8, 8, 8, 8, 8, 8, 8, 8, 8, 8, 8, 8, 8, 8, 8, 8, 8, 8, 8, 8, 8, 8, 8, 8, 8, 8, 8, 8, 8, 8, 8, 8, 8, 8, 8, 8, 8, 8, 8, 8]⟩ : ByteArray) (j : Int) = blen j := by decide +kernel
  have := e i.toNat (by omega)
  rwa [Int.toNat_of_nonneg h0] at this
set_option maxRecDepth 100000 in
theorem bits_Len64_j (n : Nat) (b : Int) (hb : 0 ≤ b) (hb2 : b ≤ 100) (hn : n < 4294967296) : Ev (fun k => bits_Len64.j0 k n b) (b + blen n) := by
  refine Ev.step (f := fun _ => some (b + blen n)) (fun k => ?_) (Ev.now _)
  have h8 : ∀ m : Nat, m < 256 → (blen m : Int) ≤ 8 := fun m hm => by have := (blen_le m 8).2 hm; omega
  rw [bits_Len64.j0]
  by_cases h1 : n < 65536
  · rw [if_neg (by omega)]
    by_cases h2 : n < 256
    · rw [if_neg (by omega), if_pos (by omega), if_pos (by omega), show ((n : Int) % 256) = n by omega, len8_ev _ (by omega) (by omega), show ((n : Int)).toNat = n by omega]
      have := h8 n h2
      rw [wrap_id (n := (blen n : Int)) (by omega) (by omega), wrap_id (by omega) (by omega)]
    · have e := blen_div n 8 (by omega)
      have hlt : n / 2 ^ 8 < 256 := by omega
      rw [if_pos (by omega), if_pos (by omega), if_pos (by omega), len8_ev _ (by omega) (by omega), show ((n : Int) / 256 % 256).toNat = n / 2 ^ 8 by omega]
      have := h8 _ hlt
      rw [wrap_id (n := (blen (n / 2 ^ 8) : Int)) (by omega) (by omega), wrap_id (n := b + 8) (by omega) (by omega), wrap_id (by omega) (by omega), e]
      congr 1; push_cast; omega
  · rw [if_pos (by omega)]
    by_cases h2 : n / 65536 < 256
    · have e := blen_div n 16 (by omega)
      rw [if_neg (by omega), if_pos (by omega), if_pos (by omega), len8_ev _ (by omega) (by omega), show ((n : Int) / 65536 % 256).toNat = n / 2 ^ 16 by omega]
      have := h8 (n / 2 ^ 16) (by omega)
      rw [wrap_id (n := (blen (n / 2 ^ 16) : Int)) (by omega) (by omega), wrap_id (n := b + 16) (by omega) (by omega), wrap_id (by omega) (by omega), e]
      congr 1; push_cast; omega
    · have e := blen_div n 24 (by omega)
      rw [if_pos (by omega), if_pos (by omega), if_pos (by omega), len8_ev _ (by omega) (by omega), show ((n : Int) / 65536 / 256 % 256).toNat = n / 2 ^ 24 by omega]
      have := h8 (n / 2 ^ 24) (by omega)
      rw [wrap_id (n := (blen (n / 2 ^ 24) : Int)) (by omega) (by omega), wrap_id (n := b + 16) (by omega) (by omega), wrap_id (n := b + 16 + 8) (by omega) (by omega), wrap_id (by omega) (by omega), e]
      congr 1; push_cast; omega
theorem bits_Len64_ev (n : Nat) (h : n < 18446744073709551616) : Ev (fun k => bits_Len64.f k n) (blen n) := by
  unfold bits_Len64.f
  by_cases h1 : n < 4294967296
  · refine Ev.congr (fun k => if_neg (show ¬ (n : Int) ≥ 4294967296 by omega)) ?_
    have := bits_Len64_j n 0 (by omega) (by omega) h1
    rw [Int.zero_add] at this; exact this
  · refine Ev.congr (fun k => if_pos (show (n : Int) ≥ 4294967296 by omega)) ?_
    have e := blen_div n 32 (by omega)
    have := bits_Len64_j (n / 4294967296) 32 (by omega) (by omega) (by omega)
    rw [e, show n / 2 ^ 32 = n / 4294967296 by rfl]
    rw [show ((blen (n / 4294967296) + 32 : Nat) : Int) = 32 + (blen (n / 4294967296) : Int) by omega]
    rw [show ((n / 4294967296 : Nat) : Int) = (n : Int) / 4294967296 by omega] at this
    exact this
theorem impl_widthOf_ev (n : Int) (h0 : 0 ≤ n) (h : n < 9223372036854775808) : Ev (fun k => impl_widthOf.f k n) (blen n.toNat) := by
  unfold impl_widthOf.f
  rw [uwrap_id h0 (by omega)]
  have := bits_Len64_ev n.toNat (by omega)
  rw [Int.toNat_of_nonneg h0] at this
  refine Ev.bind this ?_
  exact Ev.now _

/-- What BitsWidth answers. -/
def bw (m : Int) : Int := if m < 0 then -1 else if blen m.toNat > 62 then -1 else blen m.toNat
theorem impl_BitsWidth_ev (m : Int) (h1 : m < 9223372036854775808) : Ev (fun k => impl_BitsWidth.f k m) (bw m) := by
  unfold impl_BitsWidth.f bw
  by_cases h : m < 0
  · simp only [if_pos h]; exact Ev.now _
  · simp only [if_neg h]
    refine Ev.bind (impl_widthOf_ev m (by omega) h1) ?_
    by_cases h2 : blen m.toNat > 62
    · simp only [if_pos h2, if_pos (show (blen m.toNat : Int) > 62 by omega)]; exact Ev.now _
    · simp only [if_neg h2, if_neg (show ¬ (blen m.toNat : Int) > 62 by omega)]
      refine Ev.bind (impl_widthOf_ev m (by omega) h1) ?_
      exact Ev.now _

theorem spec_BitsWidth_l (d : Nat) : ∀ (n : Nat) (w : Nat), blen n = d → w + d ≤ 100 → n < 9223372036854775808 → Ev (fun k => spec_BitsWidth.l0 k n w) (if w + blen n > 62 then -1 else ((w + blen n : Nat) : Int)) := by
  induction d with
  | zero =>
    intro n w hd hw hn
    have hz : n = 0 := by have := (blen_le n 0).1 (by omega); simpa using this
    subst hz
    refine Ev.step (f := fun _ => some (if w + blen 0 > 62 then -1 else ((w + blen 0 : Nat) : Int))) (fun k => ?_) (Ev.now _)
    simp only [spec_BitsWidth.l0]
    rw [if_neg (show ¬ ((0 : Nat) : Int) > 0 by omega), hd, Nat.add_zero]
    by_cases h : w > 62
    · rw [if_pos (show (w : Int) > 62 by omega), if_pos h]
    · rw [if_neg (show ¬ (w : Int) > 62 by omega), if_neg h]
  | succ d ih =>
    intro n w hd hw hn
    have hpos : 0 < n := by
      rcases Nat.eq_zero_or_pos n with h | h
      · subst h; simp [blen] at hd
      · exact h
    have e := blen_half n hpos
    have h := ih (n / 2 ^ 1) (w + 1) (by omega) (by omega) (by omega)
    rw [show w + 1 + blen (n / 2 ^ 1) = w + blen n by omega] at h
    refine Ev.step (fun k => ?_) h
    simp only [spec_BitsWidth.l0]
    rw [if_pos (by omega), Int.tdiv_eq_ediv_of_nonneg (by omega), wrap_id (n := (n : Int) / 2) (by omega) (by omega), wrap_id (by omega) (by omega)]
    push_cast; rfl
theorem spec_BitsWidth_ev (m : Int) (h1 : m < 9223372036854775808) : Ev (fun k => spec_BitsWidth.f k m) (bw m) := by
  unfold spec_BitsWidth.f bw
  by_cases h : m < 0
  · simp only [if_pos h]; exact Ev.now _
  · simp only [if_neg h]
    have hb : blen m.toNat ≤ 63 := (blen_le _ _).2 (by omega)
    have := spec_BitsWidth_l (blen m.toNat) m.toNat 0 rfl (by omega) (by omega)
    rw [Int.toNat_of_nonneg (by omega)] at this
    simpa using this

theorem FnExactBitsWidth : laws_FnExactBitsWidth.Pure := by
  intro m hm
  have hw := wf64 hm
  refine Ev.rounds (g := fun k => laws_FnExactBitsWidth.f k m) ?_
  unfold laws_FnExactBitsWidth.f
  refine Ev.bind (spec_BitsWidth_ev m hw.2) ?_
  refine Ev.bind (impl_BitsWidth_ev m hw.2) ?_
  simp only [if_true]; exact Ev.now _

end Go.Proofs.Ytgojhlbhfmgkjaa.Pure
