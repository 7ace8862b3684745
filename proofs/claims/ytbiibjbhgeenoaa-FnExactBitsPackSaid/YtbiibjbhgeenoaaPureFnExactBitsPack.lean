/- BitsPack answers as the reference does, for all ints. -/
import Derived.Test.YtbiibjbhgeenoaaPFnExactBitsPackx4
import Derived.Test.YtbiibjbhgeenoaaCom
namespace Go.Proofs.Ytbiibjbhgeenoaa.Pure
open Go Go.RowKit Go.Proofs.Ytbiibjbhgeenoaa.PFnExactBitsPack Go.Proofs.YtbiibjbhgeenoaaW.PrintWords Go.Proofs.YtbiibjbhgeenoaaW.PrintLast Go.Proofs.YtbiibjbhgeenoaaW.PrintMore Go.Proofs.Ytbiibjbhgeenoaa.Com
set_option linter.unusedVariables false
set_option linter.unusedSimpArgs false

theorem toIntS_ev (a : List Int) (hn : a.length ≤ 1000000000000) : Ev (fun k => laws_toIntS.f k a) a := by
  have key : ∀ (d : Nat) (i : Nat) (r : List Int), r.length = d → i + d = a.length → Ev (fun k => laws_toIntS.l0 k a (a.take i ++ r) i) a := by
    intro d
    induction d with
    | zero =>
      intro i r hr hd
      obtain rfl : r = [] := List.length_eq_zero_iff.1 hr
      refine Ev.step (f := fun _ => some a) (fun k => ?_) (Ev.now _)
      simp only [laws_toIntS.l0]; rw [if_neg (by omega)]
      rw [show i = a.length by omega]; simp
    | succ d ih =>
      intro i r hr hd
      refine Ev.step (f := fun k => laws_toIntS.l0 k a (a.take (i + 1) ++ r.tail) (i + 1 : Nat)) (fun k => ?_) (ih (i + 1) r.tail (by simp [hr]) (by omega))
      simp only [laws_toIntS.l0]; rw [if_pos (by omega), if_pos (by omega), if_pos (by simp; omega), wrap_id (by omega) (by omega)]
      rw [set_mid _ _ _ _ (by simp; omega) (by omega), rd_eq' _ _ (by omega) (by simp; omega)]
      rw [List.take_succ_eq_append_getElem (by omega)]; simp
  have h := key a.length 0 (List.replicate a.length 0) (by simp) (by omega)
  unfold laws_toIntS.f
  simp only [if_pos (show (0:Int) ≤ a.length by omega), if_pos (show ((a.length : Int)).toNat ≤ 35184372088832 by omega)]
  simpa using h

theorem eqIntS_self (a : List Int) (hn : a.length ≤ 1000000000000000000) : Ev (fun k => laws_eqIntS.f k a a) true := by
  have key : ∀ (d : Nat) (i : Int), 0 ≤ i → i ≤ a.length → (a.length : Int) - i = d → Ev (fun k => laws_eqIntS.l0 k a a i) true := by
    intro d
    induction d with
    | zero =>
      intro i h0 h1 hd
      refine Ev.step (f := fun _ => some true) (fun k => ?_) (Ev.now _)
      simp only [laws_eqIntS.l0]; rw [if_neg (by omega)]
    | succ d ih =>
      intro i h0 h1 hd
      refine Ev.step (f := fun k => laws_eqIntS.l0 k a a (i + 1)) (fun k => ?_) (ih (i + 1) (by omega) (by omega) (by omega))
      simp only [laws_eqIntS.l0]; rw [if_pos (by omega), if_pos h0, if_pos (by omega), if_pos trivial, wrap_id (by omega) (by omega)]
  have h := key a.length 0 (by omega) (by omega) (by omega)
  unfold laws_eqIntS.f
  simpa using h

theorem markIntS_ev (a : List Int) (m : Int) (h0 : 0 ≤ m) (hm : m ≤ 1000000000000000000) (hn : a.length ≤ 1000000000000000000) :
    Ev (fun k => laws_markIntS.f k a m) (m + a.length, mk64 a.length m) := by
  have key : ∀ (d : Nat) (i : Nat) (r : List Int), r.length = d → i + d = a.length → Ev (fun k => laws_markIntS.l0 k (mk64 i m ++ r) (m + i) i) (m + a.length, mk64 a.length m) := by
    intro d
    induction d with
    | zero =>
      intro i r hr hd
      obtain rfl : r = [] := List.length_eq_zero_iff.1 hr
      refine Ev.step (f := fun _ => some (m + a.length, mk64 a.length m)) (fun k => ?_) (Ev.now _)
      simp only [laws_markIntS.l0]; rw [if_neg (by simp [mk64_len])]
      rw [show i = a.length by omega]; simp
    | succ d ih =>
      intro i r hr hd
      refine Ev.step (f := fun k => laws_markIntS.l0 k (mk64 (i + 1) m ++ r.tail) (m + (i + 1 : Nat)) (i + 1 : Nat)) (fun k => ?_) (ih (i + 1) r.tail (by simp [hr]) (by omega))
      simp only [laws_markIntS.l0]; rw [if_pos (by simp [mk64_len]; omega), if_pos (by omega), wrap_id (by omega) (by omega), wrap_id (by omega) (by omega)]
      rw [set_mid _ _ _ _ (by simp [mk64_len]) (by omega), mk64_succ]; push_cast; rw [Int.add_assoc]
  have h := key a.length 0 a rfl (by omega)
  unfold laws_markIntS.f
  simpa [mk64] using h

theorem eqByteS_self (a : List Int) (hn : a.length ≤ 1000000000000000000) : Ev (fun k => laws_eqByteS.f k a a) true := by
  have key : ∀ (d : Nat) (i : Int), 0 ≤ i → i ≤ a.length → (a.length : Int) - i = d → Ev (fun k => laws_eqByteS.l0 k a a i) true := by
    intro d
    induction d with
    | zero =>
      intro i h0 h1 hd
      refine Ev.step (f := fun _ => some true) (fun k => ?_) (Ev.now _)
      simp only [laws_eqByteS.l0]; rw [if_neg (by omega)]
    | succ d ih =>
      intro i h0 h1 hd
      refine Ev.step (f := fun k => laws_eqByteS.l0 k a a (i + 1)) (fun k => ?_) (ih (i + 1) (by omega) (by omega) (by omega))
      simp only [laws_eqByteS.l0]; rw [if_pos (by omega), if_pos h0, if_pos (by omega), if_pos trivial, wrap_id (by omega) (by omega)]
  have h := key a.length 0 (by omega) (by omega) (by omega)
  unfold laws_eqByteS.f
  simpa using h

theorem markByteS_ev (a : List Int) (m : Int) (h0 : 0 ≤ m) (hm : m ≤ 1000000000000000000) (hn : a.length ≤ 1000000000000000000) :
    Ev (fun k => laws_markByteS.f k a m) (m + a.length, mk8 a.length m) := by
  have key : ∀ (d : Nat) (i : Nat) (r : List Int), r.length = d → i + d = a.length → Ev (fun k => laws_markByteS.l0 k (mk8 i m ++ r) (m + i) i) (m + a.length, mk8 a.length m) := by
    intro d
    induction d with
    | zero =>
      intro i r hr hd
      obtain rfl : r = [] := List.length_eq_zero_iff.1 hr
      refine Ev.step (f := fun _ => some (m + a.length, mk8 a.length m)) (fun k => ?_) (Ev.now _)
      simp only [laws_markByteS.l0]; rw [if_neg (by simp [mk8_len])]
      rw [show i = a.length by omega]; simp
    | succ d ih =>
      intro i r hr hd
      refine Ev.step (f := fun k => laws_markByteS.l0 k (mk8 (i + 1) m ++ r.tail) (m + (i + 1 : Nat)) (i + 1 : Nat)) (fun k => ?_) (ih (i + 1) r.tail (by simp [hr]) (by omega))
      simp only [laws_markByteS.l0]; rw [if_pos (by simp [mk8_len]; omega), if_pos (by omega), wrap_id (by omega) (by omega), wrap_id (by omega) (by omega)]
      rw [set_mid _ _ _ _ (by simp [mk8_len]) (by omega), mk8_succ]; push_cast; rw [Int.add_assoc]
  have h := key a.length 0 a rfl (by omega)
  unfold laws_markByteS.f
  simpa [mk8] using h

theorem impl_within_ev (x a b : Int) : impl_within.f x a b = some (decide (a ≤ x ∧ x ≤ b)) := by
  unfold impl_within.f
  by_cases h : x ≥ a
  · rw [if_pos h]; congr 1; simp [show a ≤ x from h]
  · rw [if_neg h]; congr 1; simp [show ¬ a ≤ x from h]

theorem len8_ev (i : Int) (h0 : 0 ≤ i) (h : i < 256) : bt (⟨#[0, 1, 2, 2, 3, 3, 3, 3, 4, 4, 4, 4, 4, 4, 4, 4, 5, 5, 5, 5, 5, 5, 5, 5, 5, 5, 5, 5, 5, 5, 5, 5, 6, 6, 6, 6, 6, 6, 6, 6, 6, 6, 6, 6, 6, 6, 6, 6, 6, 6, 6, 6, 6, 6, 6, 6, 6, 6, 6, 6, 6, 6, 6, 6, 7, 7, 7, 7, 7, 7, 7, 7, 7, 7, 7, 7, 7, 7, 7, 7, 7, 7, 7, 7, 7, 7, 7, 7, 7, 7, 7, 7, 7, 7, 7, 7, 7, 7, 7, 7, 7, 7, 7, 7, 7, 7, 7, 7, 7, 7, 7, 7, 7, 7, 7, 7, 7, 7, 7, 7, 7, 7, 7, 7, 7, 7, 7, 7, 8, 8, 8, 8, 8, 8, 8, 8, 8, 8, 8, 8, 8, 8, 8, 8, 8, 8, 8, 8, 8, 8, 8, 8, 8, 8, 8, 8, 8, 8, 8, 8, 8, 8, 8, 8, 8, 8, 8, 8, 8, 8, 8, 8, 8, 8, 8, 8, 8, 8, 8, 8, 8, 8, 8, 8, 8, 8, 8, 8, 8, 8, 8, 8, 8, 8, 8, 8, 8, 8, 8, 8, 8, 8, 8, 8, 8, 8, 8, 8, 8, 8, 8, 8, 8, 8, 8, 8, 8, 8, 8, 8, 8, 8, 8, 8, 8, 8, 8, 8, 8, 8, 8, 8, 8, 8, 8, 8, 8, 8, 8, 8, 8, 8, 8, 8, 8, 8, 8, 8, 8, 8, 8, 8, 8, 8, 8, 8]⟩ : ByteArray) i = blen i.toNat := by
  have e : ∀ j : Nat, j < 256 → bt (⟨#[0, 1, 2, 2, 3, 3, 3, 3, 4, 4, 4, 4, 4, 4, 4, 4, 5, 5, 5, 5, 5, 5, 5, 5, 5, 5, 5, 5, 5, 5, 5, 5, 6, 6, 6, 6, 6, 6, 6, 6, 6, 6, 6, 6, 6, 6, 6, 6, 6, 6, 6, 6, 6, 6, 6, 6, 6, 6, 6, 6, 6, 6, 6, 6, 7, 7, 7, 7, 7, 7, 7, 7, 7, 7, 7, 7, 7, 7, 7, 7, 7, 7, 7, 7, 7, 7, 7, 7, 7, 7, 7, 7, 7, 7, 7, 7, 7, 7, 7, 7, 7, 7, 7, 7, 7, 7, 7, 7, 7, 7, 7, 7, 7, 7, 7, 7, 7, 7, 7, 7, 7, 7, 7, 7, 7, 7, 7, 7, 8, 8, 8, 8, 8, 8, 8, 8, 8, 8, 8, 8, 8, 8, 8, 8, 8, 8, 8, 8, 8, 8, 8, 8, 8, 8, 8, 8, 8, 8, 8, 8, 8, 8, 8, 8, 8, 8, 8, 8, 8, 8, 8, 8, 8, 8, 8, 8, 8, 8, 8, 8, 8, 8, 8, 8, 8, 8, 8, 8, 8, 8, 8, 8, 8, 8, 8, 8, 8, 8, 8, 8, 8, 8, 8, 8, 8, 8, 8, 8, 8, 8, 8, 8, 8, 8, 8, 8, 8, 8, 8, 8, 8, 8, 8, 8, 8, 8, 8, 8, 8, 8, 8, 8, 8, 8, 8, 8, 8, 8, 8, 8, 8, 8, 8, 8, 8, 8, 8, 8, 8, 8, 8, 8, 8, 8, 8, 8]⟩ : ByteArray) (j : Int) = blen j := by decide +kernel
  have := e i.toNat (by omega)
  rwa [Int.toNat_of_nonneg h0] at this
set_option maxRecDepth 100000 in
theorem bits_Len64_j (n : Nat) (b : Int) (hb : 0 ≤ b) (hb2 : b ≤ 100) (hn : n < 4294967296) : Ev (fun k => bits_Len64.j0 k n b) (b + blen n) := by
  refine Ev.step (f := fun _ => some (b + blen n)) (fun k => ?_) (Ev.now _)
  have h8 : ∀ m : Nat, m < 256 → (blen m : Int) ≤ 8 := fun m hm => by have := (blen_le m 8).2 hm; omega
  rw [bits_Len64.j0]
  by_cases h1 : n < 65536
  · rw [if_neg (by omega)]
    by_cases h2 : n < 256
    · rw [if_neg (by omega), if_pos (by omega), if_pos (by omega), show ((n : Int) % 256) = n by omega, len8_ev _ (by omega) (by omega), show ((n : Int)).toNat = n by omega]
      have := h8 n h2
      rw [wrap_id (n := (blen n : Int)) (by omega) (by omega), wrap_id (by omega) (by omega)]
    · have e := blen_div n 8 (by omega)
      have hlt : n / 2 ^ 8 < 256 := by omega
      rw [if_pos (by omega), if_pos (by omega), if_pos (by omega), len8_ev _ (by omega) (by omega), show ((n : Int) / 256 % 256).toNat = n / 2 ^ 8 by omega]
      have := h8 _ hlt
      rw [wrap_id (n := (blen (n / 2 ^ 8) : Int)) (by omega) (by omega), wrap_id (n := b + 8) (by omega) (by omega), wrap_id (by omega) (by omega), e]
      congr 1; push_cast; omega
  · rw [if_pos (by omega)]
    by_cases h2 : n / 65536 < 256
    · have e := blen_div n 16 (by omega)
      rw [if_neg (by omega), if_pos (by omega), if_pos (by omega), len8_ev _ (by omega) (by omega), show ((n : Int) / 65536 % 256).toNat = n / 2 ^ 16 by omega]
      have := h8 (n / 2 ^ 16) (by omega)
      rw [wrap_id (n := (blen (n / 2 ^ 16) : Int)) (by omega) (by omega), wrap_id (n := b + 16) (by omega) (by omega), wrap_id (by omega) (by omega), e]
      congr 1; push_cast; omega
    · have e := blen_div n 24 (by omega)
      rw [if_pos (by omega), if_pos (by omega), if_pos (by omega), len8_ev _ (by omega) (by omega), show ((n : Int) / 65536 / 256 % 256).toNat = n / 2 ^ 24 by omega]
      have := h8 (n / 2 ^ 24) (by omega)
      rw [wrap_id (n := (blen (n / 2 ^ 24) : Int)) (by omega) (by omega), wrap_id (n := b + 16) (by omega) (by omega), wrap_id (n := b + 16 + 8) (by omega) (by omega), wrap_id (by omega) (by omega), e]
      congr 1; push_cast; omega
theorem bits_Len64_ev (n : Nat) (h : n < 18446744073709551616) : Ev (fun k => bits_Len64.f k n) (blen n) := by
  unfold bits_Len64.f
  by_cases h1 : n < 4294967296
  · refine Ev.congr (fun k => if_neg (show ¬ (n : Int) ≥ 4294967296 by omega)) ?_
    have := bits_Len64_j n 0 (by omega) (by omega) h1
    rw [Int.zero_add] at this; exact this
  · refine Ev.congr (fun k => if_pos (show (n : Int) ≥ 4294967296 by omega)) ?_
    have e := blen_div n 32 (by omega)
    have := bits_Len64_j (n / 4294967296) 32 (by omega) (by omega) (by omega)
    rw [e, show n / 2 ^ 32 = n / 4294967296 by rfl]
    rw [show ((blen (n / 4294967296) + 32 : Nat) : Int) = 32 + (blen (n / 4294967296) : Int) by omega]
    rw [show ((n / 4294967296 : Nat) : Int) = (n : Int) / 4294967296 by omega] at this
    exact this
theorem impl_widthOf_ev (n : Int) (h0 : 0 ≤ n) (h : n < 9223372036854775808) : Ev (fun k => impl_widthOf.f k n) (blen n.toNat) := by
  unfold impl_widthOf.f
  rw [uwrap_id h0 (by omega)]
  have := bits_Len64_ev n.toNat (by omega)
  rw [Int.toNat_of_nonneg h0] at this
  refine Ev.bind this ?_
  exact Ev.now _

theorem impl_packed_ev (l : List Int) (w : Nat) (hw : w ≤ 64) (hlen : l.length ≤ 1000000000) :
    Ev (fun k => impl_packed.f k l w) (packB l w) := by
  have hmul : l.length * w ≤ 64000000000 := by
    calc l.length * w ≤ 1000000000 * 64 := Nat.mul_le_mul hlen hw
      _ = 64000000000 := by decide
  have hmulc : ((l.length * w : Nat) : Int) = (l.length : Int) * w := by push_cast; rfl
  have inner : ∀ (d i j : Nat), i < l.length → j + d = w →
      ∀ R : List Int, Ev (fun k => impl_packed.l0 k w (bofB (upTo (pbit l w) ((i + 1) * w)) ((l.length * w + 7) / 8)) l l.length ((i + 1 : Nat) : Int)) R →
      Ev (fun k => impl_packed.l1 k w (bofB (upTo (pbit l w) (i * w + j)) ((l.length * w + 7) / 8)) i (rd l i) l l.length i w j) R := by
    intro d
    induction d with
    | zero =>
      intro i j hi hj R h
      refine Ev.step (fun k => ?_) h
      simp only [impl_packed.l1]
      rw [if_neg (by omega), wrap_id (n := (i : Int) + 1) (by omega) (by omega), show j = w by omega, Nat.succ_mul]
      push_cast; rfl
    | succ d ih =>
      intro i j hi hj R h
      have hP : i * w + j < l.length * w := by
        have : (i + 1) * w ≤ l.length * w := Nat.mul_le_mul_right w hi
        rw [Nat.succ_mul] at this; omega
      have hc : ((i * w : Nat) : Int) = (i : Int) * w := by push_cast; rfl
      refine Ev.step (fun k => ?_) (ih i (j + 1) hi (by omega) R h)
      simp only [impl_packed.l1]
      rw [if_pos (by omega), ← hc, wrap_id (n := ((i * w : Nat) : Int)) (by omega) (by omega), wrap_id (n := ((i * w : Nat) : Int) + j) (by omega) (by omega)]
      rw [Int.tdiv_eq_ediv_of_nonneg (by omega), Int.tmod_eq_emod_of_nonneg (by omega), wrap_id (n := (((i * w : Nat) : Int) + j) / 8) (by omega) (by omega)]
      rw [if_pos (by omega), if_pos (by rw [bofB_len]; omega), if_pos (by omega), if_pos (by omega), wrap_id (n := (j : Int) + 1) (by omega) (by omega)]
      have hb : Go.bits .and .i64 (shr .i64 (rd l i) j) 1 = pbit l w (i * w + j) := by
        rw [and_one, shr64 _ _ (by omega) (by omega), pbit_at l w i j (by omega)]; rfl
      have hbits := pbit_bits l w (i * w + j)
      rw [hb, show pbit l w (i * w + j) % 256 = pbit l w (i * w + j) by omega, shl8 _ _ (by omega) (by omega) hbits]
      rw [rd_bofB _ _ _ (by omega) (by omega)]
      have hst := byteOf_step (pbit_bits l w) ((i * w + j) / 8) ((i * w + j) % 8) (by omega)
      rw [show 8 * ((i * w + j) / 8) + (i * w + j) % 8 = i * w + j by omega] at hst
      rw [show ((((i * w : Nat) : Int) + j) % 8).toNat = (i * w + j) % 8 by omega, show ((((i * w : Nat) : Int) + j) / 8).toNat = (i * w + j) / 8 by omega]
      rw [or8 _ _ _ (by omega) hst.1 hst.2.1 hbits, ← hst.2.2, bofB_set _ _ _ _ rfl]
      push_cast; rfl
  have outer : ∀ (d i : Nat), i + d = l.length → Ev (fun k => impl_packed.l0 k w (bofB (upTo (pbit l w) (i * w)) ((l.length * w + 7) / 8)) l l.length i) (packB l w) := by
    intro d
    induction d with
    | zero =>
      intro i hi
      refine Ev.step (f := fun _ => some (packB l w)) (fun k => ?_) (Ev.now _)
      simp only [impl_packed.l0]; rw [if_neg (by omega), show i = l.length by omega]; rfl
    | succ d ih =>
      intro i hi
      refine Ev.step (fun k => ?_) (inner w i 0 (by omega) (by omega) _ (ih (i + 1) (by omega)))
      simp only [impl_packed.l0]; rw [if_pos (by omega), if_pos (by omega), if_pos (by omega)]; rfl
  have h := outer l.length 0 (by omega)
  unfold impl_packed.f
  rw [← hmulc, wrap_id (n := ((l.length * w : Nat) : Int)) (by omega) (by omega), wrap_id (n := ((l.length * w : Nat) : Int) + 7) (by omega) (by omega), Int.tdiv_eq_ediv_of_nonneg (by omega), wrap_id (by omega) (by omega)]
  simp only [if_pos (show (0 : Int) ≤ (((l.length * w : Nat) : Int) + 7) / 8 by omega), if_pos (show ((((l.length * w : Nat) : Int) + 7) / 8).toNat ≤ 281474976710656 by omega)]
  rw [show ((((l.length * w : Nat) : Int) + 7) / 8).toNat = (l.length * w + 7) / 8 by omega, bofB_zero (pbit l w)]
  simpa using h

/-- A number that BitsPack takes. -/
def fits (w : Int) (n : Int) : Prop := 0 ≤ n ∧ (blen n.toNat : Int) ≤ w
instance (w n : Int) : Decidable (fits w n) := by unfold fits; exact inferInstance
/-- What BitsPack answers. -/
def bpk (l : List Int) (w : Int) : List Int × Bool := if l.length ≤ 2000 ∧ 0 ≤ w ∧ w ≤ 62 ∧ ∀ n ∈ l, fits w n then (packB l w.toNat, true) else ([], false)
theorem impl_BitsPack_ev (l : List Int) (w : Int) (hl : ∀ x ∈ l, (Lit.int .i64 x).wf = true) : Ev (fun k => impl_BitsPack.f k l w) (bpk l w) := by
  have bad : ∀ l' w', Ev (fun k => impl_BitsPack.j0 k l' w' true) ([], false) := fun l' w' => Ev.step (f := fun _ => some ([], false)) (fun k => by simp only [impl_BitsPack.j0]; rw [if_pos trivial]) (Ev.now _)
  unfold impl_BitsPack.f bpk
  by_cases h2 : l.length ≤ 2000
  · simp only [if_neg (show ¬ (l.length : Int) > 2000 by omega), impl_within_ev, Option.bind_some]
    by_cases hw : 0 ≤ w ∧ w ≤ 62
    · simp only [decide_eq_true hw, Bool.not_true]
      have key : ∀ (d i : Nat), i + d = l.length → (∀ n ∈ l.take i, fits w n) → Ev (fun k => impl_BitsPack.l0 k l w l l.length i) (if ∀ n ∈ l, fits w n then (packB l w.toNat, true) else ([], false)) := by
        intro d
        induction d with
        | zero =>
          intro i hi hf
          rw [show i = l.length by omega, List.take_length] at hf
          rw [if_pos hf]
          refine Ev.step (f := fun k => (impl_packed.f k l w).bind fun t => some (t, true)) (fun k => ?_) ?_
          · simp only [impl_BitsPack.l0]; rw [if_neg (by omega)]
          · have := impl_packed_ev l w.toNat (by omega) (by omega)
            rw [Int.toNat_of_nonneg hw.1] at this
            refine Ev.bind this ?_
            exact Ev.now _
        | succ d ih =>
          intro i hi hf
          have hm : rd l i = l[i] := rd_eq l i (by omega)
          have hmem : l[i] ∈ l := List.getElem_mem _
          have hwf := wf64 (hl _ hmem)
          by_cases hn : l[i] < 0
          · rw [if_neg (fun h => by have := (h _ hmem).1; omega)]
            refine Ev.step (f := fun _ => some ([], false)) (fun k => ?_) (Ev.now _)
            simp only [impl_BitsPack.l0]; rw [if_pos (by omega), if_pos (by omega), if_pos (by omega), hm, if_pos hn]
          · by_cases hb : (blen (l[i]).toNat : Int) ≤ w
            · have hnext := ih (i + 1) (by omega) (by
                intro n hn2
                rw [List.take_succ_eq_append_getElem (by omega)] at hn2
                rcases List.mem_append.1 hn2 with h | h
                · exact hf n h
                · rw [List.mem_singleton] at h; subst h; exact ⟨by omega, hb⟩)
              refine Ev.step (f := fun k => (impl_widthOf.f k l[i]).bind fun t => if t > w then some ([], false) else impl_BitsPack.l0 k l w l l.length ((i + 1 : Nat) : Int)) (fun k => ?_) ?_
              · simp only [impl_BitsPack.l0]; rw [if_pos (by omega), if_pos (by omega), if_pos (by omega), hm, if_neg hn, wrap_id (by omega) (by omega)]; push_cast; rfl
              · refine Ev.bind (impl_widthOf_ev _ (by omega) hwf.2) ?_
                simp only [if_neg (show ¬ (blen (l[i]).toNat : Int) > w by omega)]; exact hnext
            · rw [if_neg (fun h => hb (h _ hmem).2)]
              refine Ev.step (f := fun k => (impl_widthOf.f k l[i]).bind fun t => if t > w then some ([], false) else impl_BitsPack.l0 k l w l l.length ((i + 1 : Nat) : Int)) (fun k => ?_) ?_
              · simp only [impl_BitsPack.l0]; rw [if_pos (by omega), if_pos (by omega), if_pos (by omega), hm, if_neg hn, wrap_id (by omega) (by omega)]; push_cast; rfl
              · refine Ev.bind (impl_widthOf_ev _ (by omega) hwf.2) ?_
                simp only [if_pos (show (blen (l[i]).toNat : Int) > w by omega)]; exact Ev.now _
      have h := key l.length 0 (by omega) (by simp)
      have e : (if l.length ≤ 2000 ∧ 0 ≤ w ∧ w ≤ 62 ∧ ∀ n ∈ l, fits w n then (packB l w.toNat, true) else ([], false)) = (if ∀ n ∈ l, fits w n then (packB l w.toNat, true) else ([], false)) := by
        by_cases hf : ∀ n ∈ l, fits w n
        · rw [if_pos ⟨h2, hw.1, hw.2, hf⟩, if_pos hf]
        · rw [if_neg (fun h => hf h.2.2.2), if_neg hf]
      rw [e]
      refine Ev.step (fun k => ?_) h
      simp only [impl_BitsPack.j0]; rw [if_neg (by simp)]; rfl
    · simp only [decide_eq_false hw, Bool.not_false]
      rw [if_neg (fun h => hw ⟨h.2.1, h.2.2.1⟩)]; exact bad _ _
  · simp only [if_pos (show (l.length : Int) > 2000 by omega)]
    rw [if_neg (fun h => h2 h.1)]; exact bad _ _

theorem spec_l1In_ev (x a b : Int) : spec_l1In.f x a b = some (decide (a ≤ x ∧ x ≤ b)) := by
  unfold spec_l1In.f
  by_cases h : x ≥ a
  · rw [if_pos h]; congr 1; simp [show a ≤ x from h]
  · rw [if_neg h]; congr 1; simp [show ¬ a ≤ x from h]

theorem spec_BitsSize_ev (n w : Int) : spec_BitsSize.f n w = some (if 0 ≤ n ∧ n ≤ 2000 ∧ 0 ≤ w ∧ w ≤ 62 then (n * w + 7) / 8 else -1) := by
  unfold spec_BitsSize.f
  simp only [spec_l1In_ev, Option.bind_some]
  by_cases h1 : 0 ≤ n ∧ n ≤ 2000
  · simp only [decide_eq_true h1, if_true]
    by_cases h2 : 0 ≤ w ∧ w ≤ 62
    · simp only [decide_eq_true h2, if_true]
      have hm0 : 0 ≤ n * w := Int.mul_nonneg h1.1 h2.1
      have hm : n * w ≤ 2000 * 62 := Int.mul_le_mul h1.2 h2.2 h2.1 (by omega)
      rw [if_pos ⟨h1.1, h1.2, h2.1, h2.2⟩, wrap_id (n := n * w) (by omega) (by omega), wrap_id (n := n * w + 7) (by omega) (by omega), Int.tdiv_eq_ediv_of_nonneg (by omega), wrap_id (by omega) (by omega)]
    · simp only [decide_eq_false h2, Bool.false_eq_true, if_false]
      rw [if_neg (fun h => h2 h.2.2)]
  · simp only [decide_eq_false h1, Bool.false_eq_true, if_false]
    rw [if_neg (fun h => h1 ⟨h.1, h.2.1⟩)]

theorem shr_zero_iff (n : Int) (w : Nat) (h0 : 0 ≤ n) (hw : w ≤ 62) : (shr .i64 n w != 0) = !decide ((blen n.toNat : Int) ≤ w) := by
  rw [shr64 _ _ (by omega) (by omega), show (w : Int).toNat = w by omega]
  have hp : (0 : Int) < 2 ^ w := Int.pow_pos (by decide)
  have hc : ((2 ^ w : Nat) : Int) = 2 ^ w := by simp
  by_cases h : (blen n.toNat : Int) ≤ w
  · rw [decide_eq_true h]
    have := (blen_le n.toNat w).1 (by omega)
    have hlt : n < 2 ^ w := by rw [← hc]; omega
    rw [Int.ediv_eq_zero_of_lt h0 hlt]; rfl
  · rw [decide_eq_false h]
    have : ¬ n.toNat < 2 ^ w := fun hh => h (by have := (blen_le n.toNat w).2 hh; omega)
    have hge : (2 : Int) ^ w ≤ n := by rw [← hc]; omega
    have : 1 ≤ n / 2 ^ w := by rw [Int.le_ediv_iff_mul_le hp]; omega
    simp; omega
theorem spec_BitsPack_ev (l : List Int) (w : Int) (hl : ∀ x ∈ l, (Lit.int .i64 x).wf = true) (hlen : l.length ≤ 1000000000) : Ev (fun k => spec_BitsPack.f k l w) (bpk l w) := by
  unfold spec_BitsPack.f bpk
  simp only [spec_BitsSize_ev, Option.bind_some]
  by_cases hc : l.length ≤ 2000 ∧ 0 ≤ w ∧ w ≤ 62
  · obtain ⟨h2, hw0, hw1⟩ := id hc
    obtain ⟨v, rfl⟩ := Int.eq_ofNat_of_zero_le hw0
    have hv : v ≤ 62 := by omega
    rw [if_pos (show 0 ≤ (l.length : Int) ∧ (l.length : Int) ≤ 2000 ∧ 0 ≤ (v : Int) ∧ (v : Int) ≤ 62 by omega)]
    have hmul : l.length * v ≤ 124000 := Nat.mul_le_mul h2 hv
    have hmulc : ((l.length : Int) * (v : Int)) = ((l.length * v : Nat) : Int) := by push_cast; rfl
    rw [hmulc]
    simp only [if_neg (show ¬ (((l.length * v : Nat) : Int) + 7) / 8 < 0 by omega), if_pos (show (0 : Int) ≤ (((l.length * v : Nat) : Int) + 7) / 8 by omega), if_pos (show ((((l.length * v : Nat) : Int) + 7) / 8).toNat ≤ 281474976710656 by omega)]
    have einner : ∀ (d i j : Nat), i < l.length → j + d = v →
        ∀ R : List Int × Bool, Ev (fun k => spec_BitsPack.l0 k l v (bofB (upTo (pbit l v) ((i + 1) * v)) ((l.length * v + 7) / 8)) ((i + 1 : Nat) : Int)) R →
        Ev (fun k => spec_BitsPack.l1 k l v (bofB (upTo (pbit l v) (i * v + j)) ((l.length * v + 7) / 8)) i j) R := by
      intro d
      induction d with
      | zero =>
        intro i j hi hj R h
        refine Ev.step (fun k => ?_) h
        simp only [spec_BitsPack.l1]
        rw [if_neg (by omega), wrap_id (n := (i : Int) + 1) (by omega) (by omega), show j = v by omega, Nat.succ_mul]
        push_cast; rfl
      | succ d ih =>
        intro i j hi hj R h
        have hP : i * v + j < l.length * v := by
          have : (i + 1) * v ≤ l.length * v := Nat.mul_le_mul_right v hi
          rw [Nat.succ_mul] at this; omega
        have hc' : ((i * v : Nat) : Int) = (i : Int) * v := by push_cast; rfl
        have hst := byteOf_step (pbit_bits l v) ((i * v + j) / 8) ((i * v + j) % 8) (by omega)
        rw [show 8 * ((i * v + j) / 8) + (i * v + j) % 8 = i * v + j by omega] at hst
        have hbits := pbit_bits l v (i * v + j)
        have hb : Go.bits .and .i64 (shr .i64 (rd l i) j) 1 = pbit l v (i * v + j) := by
          rw [and_one, shr64 _ _ (by omega) (by omega), pbit_at l v i j (by omega)]; rfl
        refine Ev.step (fun k => ?_) (ih i (j + 1) hi (by omega) R h)
        simp only [spec_BitsPack.l1]
        rw [if_pos (show (j : Int) < v by omega), if_pos (show (0 : Int) ≤ i by omega), if_pos (show (i : Int) < l.length by omega), if_pos (show (0 : Int) ≤ j by omega), hb, wrap_id (n := (j : Int) + 1) (by omega) (by omega)]
        by_cases h1 : pbit l v (i * v + j) = 1
        · rw [if_pos h1, ← hc', wrap_id (n := ((i * v : Nat) : Int)) (by omega) (by omega), wrap_id (n := ((i * v : Nat) : Int) + j) (by omega) (by omega)]
          rw [Int.tdiv_eq_ediv_of_nonneg (by omega), Int.tmod_eq_emod_of_nonneg (by omega), wrap_id (n := (((i * v : Nat) : Int) + j) / 8) (by omega) (by omega)]
          rw [if_pos (by omega), if_pos (by rw [bofB_len]; omega), if_pos (by omega)]
          rw [shl8 _ _ (by omega) (by omega) (Or.inr rfl), rd_bofB _ _ _ (by omega) (by omega)]
          rw [show ((((i * v : Nat) : Int) + j) % 8).toNat = (i * v + j) % 8 by omega, show ((((i * v : Nat) : Int) + j) / 8).toNat = (i * v + j) / 8 by omega]
          rw [h1] at hst
          rw [or8 _ _ _ (by omega) hst.1 hst.2.1 (Or.inr rfl), ← hst.2.2, bofB_set _ _ _ _ rfl]
          push_cast; rfl
        · rw [if_neg h1]
          have h0 : pbit l v (i * v + j) = 0 := by omega
          have e : bofB (upTo (pbit l v) (i * v + (j + 1))) ((l.length * v + 7) / 8) = bofB (upTo (pbit l v) (i * v + j)) ((l.length * v + 7) / 8) := by
            have hs := bofB_set (pbit l v) (i * v + j) ((l.length * v + 7) / 8) _ rfl
            rw [hst.2.2, h0] at hs
            rw [← Nat.add_assoc, ← hs]
            apply List.ext_getElem
            · simp
            · intro n h3 h4
              rw [List.getElem_set]
              by_cases hn : (i * v + j) / 8 = n
              · rw [if_pos hn]; subst hn; simp [bofB]
              · rw [if_neg hn]
          rw [e]; push_cast; rfl
    have outer : ∀ (d i : Nat), i + d = l.length → (∀ n ∈ l.take i, fits v n) → Ev (fun k => spec_BitsPack.l0 k l v (bofB (upTo (pbit l v) (i * v)) ((l.length * v + 7) / 8)) i) (if ∀ n ∈ l, fits v n then (packB l v, true) else ([], false)) := by
      intro d
      induction d with
      | zero =>
        intro i hi hf
        rw [show i = l.length by omega, List.take_length] at hf
        rw [if_pos hf]
        refine Ev.step (f := fun _ => some (packB l v, true)) (fun k => ?_) (Ev.now _)
        simp only [spec_BitsPack.l0]; rw [if_neg (by omega), show i = l.length by omega]; rfl
      | succ d ih =>
        intro i hi hf
        have hm : rd l i = l[i] := rd_eq l i (by omega)
        have hmem : l[i] ∈ l := List.getElem_mem _
        have hwf := wf64 (hl _ hmem)
        have badj : Ev (fun k => spec_BitsPack.j1 k l v (bofB (upTo (pbit l v) (i * v)) ((l.length * v + 7) / 8)) i true) ([], false) := Ev.step (f := fun _ => some ([], false)) (fun k => by simp only [spec_BitsPack.j1]; rw [if_pos trivial]) (Ev.now _)
        by_cases hn : l[i] < 0
        · rw [if_neg (fun h => by have := (h _ hmem).1; omega)]
          refine Ev.step (fun k => ?_) badj
          simp only [spec_BitsPack.l0]; rw [if_pos (by omega), if_pos (by omega), hm, if_pos hn]
        · by_cases hb : (blen (l[i]).toNat : Int) ≤ v
          · have hnext := ih (i + 1) (by omega) (by
              intro n hn2
              rw [List.take_succ_eq_append_getElem (by omega)] at hn2
              rcases List.mem_append.1 hn2 with h | h
              · exact hf n h
              · rw [List.mem_singleton] at h; subst h; exact ⟨by omega, hb⟩)
            refine Ev.step (f := fun k => spec_BitsPack.j1 k l v (bofB (upTo (pbit l v) (i * v)) ((l.length * v + 7) / 8)) i false) (fun k => ?_) ?_
            · simp only [spec_BitsPack.l0]; rw [if_pos (by omega), if_pos (by omega), hm, if_neg hn, if_pos (by omega), shr_zero_iff _ _ (by omega) hv, decide_eq_true hb]; rfl
            · refine Ev.step (f := fun k => spec_BitsPack.l1 k l v (bofB (upTo (pbit l v) (i * v)) ((l.length * v + 7) / 8)) i 0) (fun k => by simp only [spec_BitsPack.j1]; rw [if_neg (by simp)]) ?_
              exact einner v i 0 (by omega) (by omega) _ hnext
          · rw [if_neg (fun h => hb (h _ hmem).2)]
            refine Ev.step (fun k => ?_) badj
            simp only [spec_BitsPack.l0]; rw [if_pos (by omega), if_pos (by omega), hm, if_neg hn, if_pos (by omega), shr_zero_iff _ _ (by omega) hv, decide_eq_false hb]; rfl
    have h := outer l.length 0 (by omega) (by simp)
    have e : (if l.length ≤ 2000 ∧ 0 ≤ (v : Int) ∧ (v : Int) ≤ 62 ∧ ∀ n ∈ l, fits v n then (packB l (v : Int).toNat, true) else ([], false)) = (if ∀ n ∈ l, fits v n then (packB l v, true) else ([], false)) := by
      by_cases hf : ∀ n ∈ l, fits v n
      · rw [if_pos ⟨h2, hw0, hw1, hf⟩, if_pos hf, show (v : Int).toNat = v by omega]
      · rw [if_neg (fun h => hf h.2.2.2), if_neg hf]
    rw [e, show ((((l.length * v : Nat) : Int) + 7) / 8).toNat = (l.length * v + 7) / 8 by omega, bofB_zero (pbit l v)]
    simpa using h
  · rw [if_neg (show ¬ (0 ≤ (l.length : Int) ∧ (l.length : Int) ≤ 2000 ∧ 0 ≤ w ∧ w ≤ 62) by omega), if_neg (fun h => hc ⟨h.1, h.2.1, h.2.2.1⟩)]
    simp only [if_pos (show (-1 : Int) < 0 by decide)]; exact Ev.now _

theorem heldByteS_ev (n : Nat) (m : Int) (h0 : 0 ≤ m) (hm : m ≤ 1000000000000000000) (hn : n ≤ 1000000000000000000) :
    Ev (fun k => laws_heldByteS.f k (mk8 n m) m) (m + n) := by
  have key : ∀ (d : Nat) (i : Nat), i + d = n → Ev (fun k => laws_heldByteS.l0 k (mk8 n m) (m + i) i) (m + n) := by
    intro d
    induction d with
    | zero =>
      intro i hd
      refine Ev.step (f := fun _ => some (m + n)) (fun k => ?_) (Ev.now _)
      simp only [laws_heldByteS.l0]; rw [if_neg (by simp [mk8_len]; omega)]
      rw [show i = n by omega]
    | succ d ih =>
      intro i hd
      refine Ev.step (f := fun k => laws_heldByteS.l0 k (mk8 n m) (m + (i + 1 : Nat)) (i + 1 : Nat)) (fun k => ?_) (ih (i + 1) (by omega))
      simp only [laws_heldByteS.l0]; rw [if_pos (by simp [mk8_len]; omega), if_pos (by omega), if_pos (by rw [rd_mk8 _ _ _ (by omega) (by omega)]), wrap_id (by omega) (by omega), wrap_id (by omega) (by omega)]
      push_cast; rw [Int.add_assoc]
  have h := key n 0 (by omega)
  unfold laws_heldByteS.f
  simpa using h

theorem FnExactBitsPack : laws_FnExactBitsPack.Pure := by
  intro l w hlen hsz hl hw
  refine Ev.rounds (g := fun k => laws_FnExactBitsPack.f k l w) ?_
  unfold laws_FnExactBitsPack.f
  by_cases hbig : (l.length : Int) > 1048576
  · simp only [if_pos hbig]; exact Ev.now _
  simp only [if_neg hbig]
  have e1 := spec_BitsPack_ev l w hl (by omega)
  have e2 := impl_BitsPack_ev l w hl
  have hln : (bpk l w).1.length ≤ 1000000000000000000 := by
    unfold bpk; split
    · rename_i h
      rw [packB_len]
      have : l.length * w.toNat ≤ 2000 * 62 := Nat.mul_le_mul h.1 (by omega)
      omega
    · simp
  generalize bpk l w = r at e1 e2 hln
  obtain ⟨b, ok⟩ := r
  have hlen' : b.length ≤ 1000000000000000000 := hln
  refine Ev.bind (toIntS_ev l (by omega)) ?_
  refine Ev.bind e1 ?_
  refine Ev.bind (toIntS_ev l (by omega)) ?_
  refine Ev.bind e2 ?_
  refine Ev.bind (eqByteS_self _ hlen') ?_
  simp only [if_true, bne_self_eq_false]
  refine Ev.step (fun k => by simp only [laws_FnExactBitsPack.j0]; rw [if_neg (by simp)]) ?_
  refine Ev.bind (toIntS_ev l (by omega)) ?_
  refine Ev.bind (eqIntS_self l (by omega)) ?_
  simp only [if_true]
  refine Ev.bind (markIntS_ev l 1 (by omega) (by omega) (by omega)) ?_
  simp only [if_neg (show ¬ (1 + (l.length : Int) < 0) by omega)]
  refine Ev.bind (eqByteS_self _ hlen') ?_
  simp only [if_true, bne_self_eq_false]
  refine Ev.step (fun k => by simp only [laws_FnExactBitsPack.j1]; rw [if_neg (by simp)]) ?_
  refine Ev.bind (markByteS_ev _ 1 (by omega) (by omega) hlen') ?_
  refine Ev.bind (heldByteS_ev _ 1 (by omega) (by omega) hlen') ?_
  simp only [if_neg (show ¬ (1 + (b.length : Int) < 0) by omega), if_true]
  refine Ev.bind (toIntS_ev l (by omega)) ?_
  refine Ev.bind e2 ?_
  refine Ev.bind (eqByteS_self _ hlen') ?_
  simp only [if_true, bne_self_eq_false]
  refine Ev.step (fun k => by simp only [laws_FnExactBitsPack.j2]; rw [if_neg (by simp)]) ?_
  refine Ev.bind (heldByteS_ev _ 1 (by omega) (by omega) hlen') ?_
  simp only [if_neg (show ¬ (1 + (b.length : Int) < 0) by omega), if_true]
  exact Ev.now _

end Go.Proofs.Ytbiibjbhgeenoaa.Pure
