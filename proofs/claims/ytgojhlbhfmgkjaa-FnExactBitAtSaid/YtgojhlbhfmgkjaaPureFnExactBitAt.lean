/- BitAt answers as the reference does, for all bytes and every int. -/
import Derived.Test.YtgojhlbhfmgkjaaPFnExactBitAtx1
import Derived.Test.YtgojhlbhfmgkjaaCom
namespace Go.Proofs.Ytgojhlbhfmgkjaa.Pure
open Go Go.RowKit Go.Proofs.Ytgojhlbhfmgkjaa.PFnExactBitAt Go.Proofs.YtgojhlbhfmgkjaaW.PrintWords Go.Proofs.YtgojhlbhfmgkjaaW.PrintLast Go.Proofs.YtgojhlbhfmgkjaaW.PrintMore Go.Proofs.Ytgojhlbhfmgkjaa.Com
set_option linter.unusedVariables false
set_option linter.unusedSimpArgs false

theorem toByteS_ev (a : List Int) (hn : a.length ≤ 1000000000000) : Ev (fun k => laws_toByteS.f k a) a := by
  have key : ∀ (d : Nat) (i : Nat) (r : List Int), r.length = d → i + d = a.length → Ev (fun k => laws_toByteS.l0 k a (a.take i ++ r) i) a := by
    intro d
    induction d with
    | zero =>
      intro i r hr hd
      obtain rfl : r = [] := List.length_eq_zero_iff.1 hr
      refine Ev.step (f := fun _ => some a) (fun k => ?_) (Ev.now _)
      simp only [laws_toByteS.l0]; rw [if_neg (by omega)]
      rw [show i = a.length by omega]; simp
    | succ d ih =>
      intro i r hr hd
      refine Ev.step (f := fun k => laws_toByteS.l0 k a (a.take (i + 1) ++ r.tail) (i + 1 : Nat)) (fun k => ?_) (ih (i + 1) r.tail (by simp [hr]) (by omega))
      simp only [laws_toByteS.l0]; rw [if_pos (by omega), if_pos (by omega), if_pos (by simp; omega), wrap_id (by omega) (by omega)]
      rw [set_mid _ _ _ _ (by simp; omega) (by omega), rd_eq' _ _ (by omega) (by simp; omega)]
      rw [List.take_succ_eq_append_getElem (by omega)]; simp
  have h := key a.length 0 (List.replicate a.length 0) (by simp) (by omega)
  unfold laws_toByteS.f
  simp only [if_pos (show (0:Int) ≤ a.length by omega), if_pos (show ((a.length : Int)).toNat ≤ 281474976710656 by omega)]
  simpa using h

theorem eqByteS_self (a : List Int) (hn : a.length ≤ 1000000000000000000) : Ev (fun k => laws_eqByteS.f k a a) true := by
  have key : ∀ (d : Nat) (i : Int), 0 ≤ i → i ≤ a.length → (a.length : Int) - i = d → Ev (fun k => laws_eqByteS.l0 k a a i) true := by
    intro d
    induction d with
    | zero =>
      intro i h0 h1 hd
      refine Ev.step (f := fun _ => some true) (fun k => ?_) (Ev.now _)
      simp only [laws_eqByteS.l0]; rw [if_neg (by omega)]
    | succ d ih =>
      intro i h0 h1 hd
      refine Ev.step (f := fun k => laws_eqByteS.l0 k a a (i + 1)) (fun k => ?_) (ih (i + 1) (by omega) (by omega) (by omega))
      simp only [laws_eqByteS.l0]; rw [if_pos (by omega), if_pos h0, if_pos (by omega), if_pos trivial, wrap_id (by omega) (by omega)]
  have h := key a.length 0 (by omega) (by omega) (by omega)
  unfold laws_eqByteS.f
  simpa using h

theorem impl_BitAt_ev (l : List Int) (k : Int) (hl : ∀ x ∈ l, (Lit.int .u8 x).wf = true) (h0 : -9223372036854775808 ≤ k) (h1 : k < 9223372036854775808) :
    impl_BitAt.f l k = some (if 0 ≤ k ∧ k / 8 < l.length then bitAt l k else -1) := by
  unfold impl_BitAt.f
  by_cases hk : k < 0
  · rw [if_pos hk, if_neg (by omega)]
  · have e : wrap64 (Int.tdiv k 8) = k / 8 := by rw [Int.tdiv_eq_ediv_of_nonneg (by omega), wrap_id (by omega) (by omega)]
    have e2 : Int.tmod k 8 = k % 8 := Int.tmod_eq_emod_of_nonneg (by omega)
    rw [if_neg hk, e, e2]
    by_cases hb : k / 8 ≥ (l.length : Int)
    · rw [if_pos hb, if_neg (by omega)]
    · rw [if_neg hb, if_pos (by omega), if_pos (by omega), if_pos (by omega), if_pos (by omega)]
      have hr := rd_rng8 hl (k / 8)
      unfold bitAt shr
      rw [show min (k % 8).toNat IntKind.u8.bits = (k % 8).toNat by simp [IntKind.bits]; omega]
      have hp : (0 : Int) < 2 ^ (k % 8).toNat := Int.pow_pos (by decide)
      have hd0 : 0 ≤ rd l (k / 8) / 2 ^ (k % 8).toNat := Int.ediv_nonneg hr.1 (by omega)
      have hd1 : rd l (k / 8) / 2 ^ (k % 8).toNat ≤ rd l (k / 8) := Int.ediv_le_self _ hr.1
      have hm := bits_mask .u8 8 (by decide) wraps_u8 1 (by decide) (rd l (k / 8) / 2 ^ (k % 8).toNat) hd0 (by omega)
      rw [show (2 : Int) ^ 1 - 1 = 1 by rfl] at hm
      rw [hm, wrap_id (by omega) (by omega)]; rfl

theorem spec_l1Bit_ev (l : List Int) (k : Int) (hl : ∀ x ∈ l, (Lit.int .u8 x).wf = true) (h0 : 0 ≤ k) (h1 : k / 8 < l.length) (h2 : k < 9223372036854775808) :
    spec_l1Bit.f l k = some (bitAt l k) := by
  unfold spec_l1Bit.f
  have e : wrap64 (Int.tdiv k 8) = k / 8 := by rw [Int.tdiv_eq_ediv_of_nonneg (by omega), wrap_id (by omega) (by omega)]
  have e2 : Int.tmod k 8 = k % 8 := Int.tmod_eq_emod_of_nonneg (by omega)
  rw [e, e2, if_pos (by omega), if_pos (by omega), if_pos (by omega)]
  have hr := rd_rng8 hl (k / 8)
  rw [wrap_id (by omega) (by omega), shr64 _ _ (by omega) (by omega), and_one]; rfl

theorem spec_BitAt_ev (l : List Int) (k : Int) (hl : ∀ x ∈ l, (Lit.int .u8 x).wf = true) (h0 : -9223372036854775808 ≤ k) (h1 : k < 9223372036854775808) :
    spec_BitAt.f l k = some (if 0 ≤ k ∧ k / 8 < l.length then bitAt l k else -1) := by
  unfold spec_BitAt.f
  by_cases hk : k < 0
  · rw [if_pos hk, if_neg (by omega)]
  · rw [if_neg hk]
    have e : wrap64 (Int.tdiv k 8) = k / 8 := by rw [Int.tdiv_eq_ediv_of_nonneg (by omega), wrap_id (by omega) (by omega)]
    rw [e]
    by_cases hb : k / 8 ≥ (l.length : Int)
    · rw [if_pos hb, if_neg (by omega)]
    · rw [if_neg hb, spec_l1Bit_ev l k hl (by omega) (by omega) h1, if_pos (by omega)]; rfl
theorem FnExactBitAt : laws_FnExactBitAt.Pure := by
  intro l a hlen hsz hl ha
  have hw := wf64 ha
  refine Ev.rounds (g := fun k => laws_FnExactBitAt.f k l a) ?_
  unfold laws_FnExactBitAt.f
  by_cases hbig : (l.length : Int) > 1048576
  · simp only [if_pos hbig]; exact Ev.now _
  simp only [if_neg hbig]
  refine Ev.bind (toByteS_ev l (by omega)) ?_
  simp only [spec_BitAt_ev l a hl hw.1 hw.2, Option.bind_some]
  refine Ev.bind (toByteS_ev l (by omega)) ?_
  simp only [impl_BitAt_ev l a hl hw.1 hw.2, Option.bind_some, if_true]
  refine Ev.bind (toByteS_ev l (by omega)) ?_
  refine Ev.bind (eqByteS_self l (by omega)) ?_
  simp only [if_true]; exact Ev.now _

end Go.Proofs.Ytgojhlbhfmgkjaa.Pure
