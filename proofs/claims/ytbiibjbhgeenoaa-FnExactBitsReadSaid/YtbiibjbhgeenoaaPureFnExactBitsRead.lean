/- BitsRead answers as the reference does, for all bytes and all ints. -/
import Derived.Test.YtbiibjbhgeenoaaPFnExactBitsReadx3
import Derived.Test.YtbiibjbhgeenoaaCom
namespace Go.Proofs.Ytbiibjbhgeenoaa.Pure
open Go Go.RowKit Go.Proofs.Ytbiibjbhgeenoaa.PFnExactBitsRead Go.Proofs.YtbiibjbhgeenoaaW.PrintWords Go.Proofs.YtbiibjbhgeenoaaW.PrintLast Go.Proofs.YtbiibjbhgeenoaaW.PrintMore Go.Proofs.Ytbiibjbhgeenoaa.Com
set_option linter.unusedVariables false
set_option linter.unusedSimpArgs false

theorem toByteS_ev (a : List Int) (hn : a.length ≤ 1000000000000) : Ev (fun k => laws_toByteS.f k a) a := by
  have key : ∀ (d : Nat) (i : Nat) (r : List Int), r.length = d → i + d = a.length → Ev (fun k => laws_toByteS.l0 k a (a.take i ++ r) i) a := by
    intro d
    induction d with
    | zero =>
      intro i r hr hd
      obtain rfl : r = [] := List.length_eq_zero_iff.1 hr
      refine Ev.step (f := fun _ => some a) (fun k => ?_) (Ev.now _)
      simp only [laws_toByteS.l0]; rw [if_neg (by omega)]
      rw [show i = a.length by omega]; simp
    | succ d ih =>
      intro i r hr hd
      refine Ev.step (f := fun k => laws_toByteS.l0 k a (a.take (i + 1) ++ r.tail) (i + 1 : Nat)) (fun k => ?_) (ih (i + 1) r.tail (by simp [hr]) (by omega))
      simp only [laws_toByteS.l0]; rw [if_pos (by omega), if_pos (by omega), if_pos (by simp; omega), wrap_id (by omega) (by omega)]
      rw [set_mid _ _ _ _ (by simp; omega) (by omega), rd_eq' _ _ (by omega) (by simp; omega)]
      rw [List.take_succ_eq_append_getElem (by omega)]; simp
  have h := key a.length 0 (List.replicate a.length 0) (by simp) (by omega)
  unfold laws_toByteS.f
  simp only [if_pos (show (0:Int) ≤ a.length by omega), if_pos (show ((a.length : Int)).toNat ≤ 281474976710656 by omega)]
  simpa using h

theorem eqByteS_self (a : List Int) (hn : a.length ≤ 1000000000000000000) : Ev (fun k => laws_eqByteS.f k a a) true := by
  have key : ∀ (d : Nat) (i : Int), 0 ≤ i → i ≤ a.length → (a.length : Int) - i = d → Ev (fun k => laws_eqByteS.l0 k a a i) true := by
    intro d
    induction d with
    | zero =>
      intro i h0 h1 hd
      refine Ev.step (f := fun _ => some true) (fun k => ?_) (Ev.now _)
      simp only [laws_eqByteS.l0]; rw [if_neg (by omega)]
    | succ d ih =>
      intro i h0 h1 hd
      refine Ev.step (f := fun k => laws_eqByteS.l0 k a a (i + 1)) (fun k => ?_) (ih (i + 1) (by omega) (by omega) (by omega))
      simp only [laws_eqByteS.l0]; rw [if_pos (by omega), if_pos h0, if_pos (by omega), if_pos trivial, wrap_id (by omega) (by omega)]
  have h := key a.length 0 (by omega) (by omega) (by omega)
  unfold laws_eqByteS.f
  simpa using h

theorem eqIntS_self (a : List Int) (hn : a.length ≤ 1000000000000000000) : Ev (fun k => laws_eqIntS.f k a a) true := by
  have key : ∀ (d : Nat) (i : Int), 0 ≤ i → i ≤ a.length → (a.length : Int) - i = d → Ev (fun k => laws_eqIntS.l0 k a a i) true := by
    intro d
    induction d with
    | zero =>
      intro i h0 h1 hd
      refine Ev.step (f := fun _ => some true) (fun k => ?_) (Ev.now _)
      simp only [laws_eqIntS.l0]; rw [if_neg (by omega)]
    | succ d ih =>
      intro i h0 h1 hd
      refine Ev.step (f := fun k => laws_eqIntS.l0 k a a (i + 1)) (fun k => ?_) (ih (i + 1) (by omega) (by omega) (by omega))
      simp only [laws_eqIntS.l0]; rw [if_pos (by omega), if_pos h0, if_pos (by omega), if_pos trivial, wrap_id (by omega) (by omega)]
  have h := key a.length 0 (by omega) (by omega) (by omega)
  unfold laws_eqIntS.f
  simpa using h

theorem markByteS_ev (a : List Int) (m : Int) (h0 : 0 ≤ m) (hm : m ≤ 1000000000000000000) (hn : a.length ≤ 1000000000000000000) :
    Ev (fun k => laws_markByteS.f k a m) (m + a.length, mk8 a.length m) := by
  have key : ∀ (d : Nat) (i : Nat) (r : List Int), r.length = d → i + d = a.length → Ev (fun k => laws_markByteS.l0 k (mk8 i m ++ r) (m + i) i) (m + a.length, mk8 a.length m) := by
    intro d
    induction d with
    | zero =>
      intro i r hr hd
      obtain rfl : r = [] := List.length_eq_zero_iff.1 hr
      refine Ev.step (f := fun _ => some (m + a.length, mk8 a.length m)) (fun k => ?_) (Ev.now _)
      simp only [laws_markByteS.l0]; rw [if_neg (by simp [mk8_len])]
      rw [show i = a.length by omega]; simp
    | succ d ih =>
      intro i r hr hd
      refine Ev.step (f := fun k => laws_markByteS.l0 k (mk8 (i + 1) m ++ r.tail) (m + (i + 1 : Nat)) (i + 1 : Nat)) (fun k => ?_) (ih (i + 1) r.tail (by simp [hr]) (by omega))
      simp only [laws_markByteS.l0]; rw [if_pos (by simp [mk8_len]; omega), if_pos (by omega), wrap_id (by omega) (by omega), wrap_id (by omega) (by omega)]
      rw [set_mid _ _ _ _ (by simp [mk8_len]) (by omega), mk8_succ]; push_cast; rw [Int.add_assoc]
  have h := key a.length 0 a rfl (by omega)
  unfold laws_markByteS.f
  simpa [mk8] using h

theorem markIntS_ev (a : List Int) (m : Int) (h0 : 0 ≤ m) (hm : m ≤ 1000000000000000000) (hn : a.length ≤ 1000000000000000000) :
    Ev (fun k => laws_markIntS.f k a m) (m + a.length, mk64 a.length m) := by
  have key : ∀ (d : Nat) (i : Nat) (r : List Int), r.length = d → i + d = a.length → Ev (fun k => laws_markIntS.l0 k (mk64 i m ++ r) (m + i) i) (m + a.length, mk64 a.length m) := by
    intro d
    induction d with
    | zero =>
      intro i r hr hd
      obtain rfl : r = [] := List.length_eq_zero_iff.1 hr
      refine Ev.step (f := fun _ => some (m + a.length, mk64 a.length m)) (fun k => ?_) (Ev.now _)
      simp only [laws_markIntS.l0]; rw [if_neg (by simp [mk64_len])]
      rw [show i = a.length by omega]; simp
    | succ d ih =>
      intro i r hr hd
      refine Ev.step (f := fun k => laws_markIntS.l0 k (mk64 (i + 1) m ++ r.tail) (m + (i + 1 : Nat)) (i + 1 : Nat)) (fun k => ?_) (ih (i + 1) r.tail (by simp [hr]) (by omega))
      simp only [laws_markIntS.l0]; rw [if_pos (by simp [mk64_len]; omega), if_pos (by omega), wrap_id (by omega) (by omega), wrap_id (by omega) (by omega)]
      rw [set_mid _ _ _ _ (by simp [mk64_len]) (by omega), mk64_succ]; push_cast; rw [Int.add_assoc]
  have h := key a.length 0 a rfl (by omega)
  unfold laws_markIntS.f
  simpa [mk64] using h

theorem impl_within_ev (x a b : Int) : impl_within.f x a b = some (decide (a ≤ x ∧ x ≤ b)) := by
  unfold impl_within.f
  by_cases h : x ≥ a
  · rw [if_pos h]; congr 1; simp [show a ≤ x from h]
  · rw [if_neg h]; congr 1; simp [show ¬ a ≤ x from h]

theorem impl_BitsSize_ev (n w : Int) : impl_BitsSize.f n w = some (if 0 ≤ n ∧ n ≤ 2000 ∧ 0 ≤ w ∧ w ≤ 62 then (n * w + 7) / 8 else -1) := by
  unfold impl_BitsSize.f
  simp only [impl_within_ev, Option.bind_some]
  by_cases h1 : 0 ≤ n ∧ n ≤ 2000
  · simp only [decide_eq_true h1, if_true]
    by_cases h2 : 0 ≤ w ∧ w ≤ 62
    · simp only [decide_eq_true h2, if_true]
      have hm0 : 0 ≤ n * w := Int.mul_nonneg h1.1 h2.1
      have hm : n * w ≤ 2000 * 62 := Int.mul_le_mul h1.2 h2.2 h2.1 (by omega)
      rw [if_pos ⟨h1.1, h1.2, h2.1, h2.2⟩, wrap_id (n := n * w) (by omega) (by omega), wrap_id (n := n * w + 7) (by omega) (by omega), Int.tdiv_eq_ediv_of_nonneg (by omega), wrap_id (by omega) (by omega)]
    · simp only [decide_eq_false h2, Bool.false_eq_true, if_false]
      rw [if_neg (fun h => h2 h.2.2)]
  · simp only [decide_eq_false h1, Bool.false_eq_true, if_false]
    rw [if_neg (fun h => h1 ⟨h.1, h.2.1⟩)]

theorem impl_BitAt_ev (l : List Int) (k : Int) (hl : ∀ x ∈ l, (Lit.int .u8 x).wf = true) (h0 : -9223372036854775808 ≤ k) (h1 : k < 9223372036854775808) :
    impl_BitAt.f l k = some (if 0 ≤ k ∧ k / 8 < l.length then bitAt l k else -1) := by
  unfold impl_BitAt.f
  by_cases hk : k < 0
  · rw [if_pos hk, if_neg (by omega)]
  · have e : wrap64 (Int.tdiv k 8) = k / 8 := by rw [Int.tdiv_eq_ediv_of_nonneg (by omega), wrap_id (by omega) (by omega)]
    have e2 : Int.tmod k 8 = k % 8 := Int.tmod_eq_emod_of_nonneg (by omega)
    rw [if_neg hk, e, e2]
    by_cases hb : k / 8 ≥ (l.length : Int)
    · rw [if_pos hb, if_neg (by omega)]
    · rw [if_neg hb, if_pos (by omega), if_pos (by omega), if_pos (by omega), if_pos (by omega)]
      have hr := rd_rng8 hl (k / 8)
      unfold bitAt shr
      rw [show min (k % 8).toNat IntKind.u8.bits = (k % 8).toNat by simp [IntKind.bits]; omega]
      have hp : (0 : Int) < 2 ^ (k % 8).toNat := Int.pow_pos (by decide)
      have hd0 : 0 ≤ rd l (k / 8) / 2 ^ (k % 8).toNat := Int.ediv_nonneg hr.1 (by omega)
      have hd1 : rd l (k / 8) / 2 ^ (k % 8).toNat ≤ rd l (k / 8) := Int.ediv_le_self _ hr.1
      have hm := bits_mask .u8 8 (by decide) wraps_u8 1 (by decide) (rd l (k / 8) / 2 ^ (k % 8).toNat) hd0 (by omega)
      rw [show (2 : Int) ^ 1 - 1 = 1 by rfl] at hm
      rw [hm, wrap_id (by omega) (by omega)]; rfl

theorem impl_unpacked_ev (b : List Int) (a : Int) (many w : Nat) (hb : ∀ x ∈ b, (Lit.int .u8 x).wf = true) (hlen : b.length ≤ 1000000000000) (ha : 0 ≤ a) (hm : many ≤ 1000000) (hw : w ≤ 63) (hfit : 8 * a + many * w ≤ 8 * b.length) :
    Ev (fun k => impl_unpacked.f k b a many w) (unpackB b a many w) := by
  have inner : ∀ (d i j : Nat) (acc : List Int), i < many → j + d = w → acc.length ≤ 1000000 →
      ∀ R : List Int, Ev (fun k => impl_unpacked.l0 k b a w (acc ++ [wrap64 (unum b (8 * a + i * w) w)]) many ((i + 1 : Nat) : Int)) R →
      Ev (fun k => impl_unpacked.l1 k b a w acc i (wrap64 (unum b (8 * a + i * w) j)) many i w j) R := by
    intro d
    induction d with
    | zero =>
      intro i j acc hi hj hacc R h
      refine Ev.step (fun k => ?_) h
      simp only [impl_unpacked.l1]
      rw [if_neg (by omega), if_pos (by omega), wrap_id (n := (i : Int) + 1) (by omega) (by omega), show j = w by omega]
      push_cast; rfl
    | succ d ih =>
      intro i j acc hi hj hacc R h
      have hc : ((i * w : Nat) : Int) = (i : Int) * w := by push_cast; rfl
      have hle : (i + 1) * w ≤ many * w := Nat.mul_le_mul_right w hi
      rw [Nat.succ_mul] at hle
      have hmc : ((many * w : Nat) : Int) = (many : Int) * w := by push_cast; rfl
      rw [← hmc] at hfit
      refine Ev.step (fun k => ?_) (ih i (j + 1) acc hi (by omega) hacc R h)
      simp only [impl_unpacked.l1]
      rw [if_pos (by omega), wrap_id (n := 8 * a) (by omega) (by omega), ← hc, wrap_id (n := ((i * w : Nat) : Int)) (by omega) (by omega), wrap_id (n := 8 * a + ((i * w : Nat) : Int)) (by omega) (by omega), wrap_id (n := 8 * a + ((i * w : Nat) : Int) + j) (by omega) (by omega)]
      rw [impl_BitAt_ev b _ hb (by omega) (by omega), if_pos (by omega)]
      simp only [Option.bind_some]
      have hbit : 0 ≤ bitAt b (8 * a + ((i * w : Nat) : Int) + j) := by unfold bitAt; omega
      rw [if_pos (by omega), wrap_id (n := (j : Int) + 1) (by omega) (by omega), shl64 _ _ (by omega) (by omega), show (j : Int).toNat = j by omega]
      rw [or_add _ _ j (unum_rng _ _ _).1 (unum_rng _ _ _).2 hbit]
      push_cast; rfl
  have outer : ∀ (d i : Nat), i + d = many → Ev (fun k => impl_unpacked.l0 k b a w (unpackB b a i w) many i) (unpackB b a many w) := by
    intro d
    induction d with
    | zero =>
      intro i hi
      refine Ev.step (f := fun _ => some (unpackB b a many w)) (fun k => ?_) (Ev.now _)
      simp only [impl_unpacked.l0]; rw [if_neg (by omega), show i = many by omega]
    | succ d ih =>
      intro i hi
      have h := ih (i + 1) (by omega)
      have e : unpackB b a (i + 1) w = unpackB b a i w ++ [wrap64 (unum b (8 * a + i * w) w)] := by unfold unpackB; rw [List.range_succ]; simp
      rw [e] at h
      refine Ev.step (fun k => ?_) (inner w i 0 _ (by omega) (by omega) (by simp [unpackB]; omega) _ h)
      simp only [impl_unpacked.l0]; rw [if_pos (by omega)]
      simp [unum, show wrap64 0 = 0 by unfold wrap64; omega]
  have h := outer many 0 (by omega)
  unfold impl_unpacked.f
  simpa [unpackB] using h

/-- What BitsRead answers. -/
def brd (b : List Int) (a n w : Int) : List Int × Int × Bool :=
  if (0 ≤ n ∧ n ≤ 2000 ∧ 0 ≤ w ∧ w ≤ 62) ∧ 0 ≤ a ∧ a + (n * w + 7) / 8 ≤ b.length then (unpackB b a n.toNat w.toNat, a + (n * w + 7) / 8, true) else ([], 0, false)
theorem impl_BitsRead_ev (b : List Int) (a n w : Int) (hb : ∀ x ∈ b, (Lit.int .u8 x).wf = true) (hlen : b.length ≤ 1000000000000) (ha : -9223372036854775808 ≤ a ∧ a < 9223372036854775808) :
    Ev (fun k => impl_BitsRead.f k b a n w) (brd b a n w) := by
  unfold impl_BitsRead.f brd
  simp only [impl_BitsSize_ev, impl_within_ev, Option.bind_some]
  by_cases h1 : 0 ≤ n ∧ n ≤ 2000 ∧ 0 ≤ w ∧ w ≤ 62
  · simp only [if_pos h1]
    have hm0 : 0 ≤ n * w := Int.mul_nonneg h1.1 h1.2.2.1
    have hm : n * w ≤ 2000 * 62 := Int.mul_le_mul h1.2.1 h1.2.2.2 h1.2.2.1 (by omega)
    simp only [if_neg (show ¬ (n * w + 7) / 8 < 0 by omega)]
    by_cases h2 : 0 ≤ a ∧ a ≤ (b.length : Int)
    · simp only [decide_eq_true h2, if_true]
      rw [wrap_id (n := (b.length : Int) - a) (by omega) (by omega)]
      by_cases h3 : a + (n * w + 7) / 8 ≤ b.length
      · simp only [if_neg (show ¬ (n * w + 7) / 8 > (b.length : Int) - a by omega)]
        rw [if_pos ⟨h1, h2.1, h3⟩]
        obtain ⟨n', rfl⟩ := Int.eq_ofNat_of_zero_le h1.1
        obtain ⟨w', rfl⟩ := Int.eq_ofNat_of_zero_le h1.2.2.1
        have := impl_unpacked_ev b a n' w' hb hlen h2.1 (by omega) (by omega) (by omega)
        refine Ev.bind this ?_
        rw [wrap_id (n := a + ((n' : Int) * w' + 7) / 8) (by omega) (by omega)]
        exact Ev.now _
      · simp only [if_pos (show (n * w + 7) / 8 > (b.length : Int) - a by omega)]
        rw [if_neg (fun h => h3 h.2.2)]; exact Ev.now _
    · simp only [decide_eq_false h2, Bool.false_eq_true, if_false]
      rw [if_neg (fun h => h2 (by omega))]; exact Ev.now _
  · simp only [if_neg h1, if_pos (show (-1 : Int) < 0 by decide)]
    rw [if_neg (fun h => h1 h.1)]; exact Ev.now _

theorem spec_l1In_ev (x a b : Int) : spec_l1In.f x a b = some (decide (a ≤ x ∧ x ≤ b)) := by
  unfold spec_l1In.f
  by_cases h : x ≥ a
  · rw [if_pos h]; congr 1; simp [show a ≤ x from h]
  · rw [if_neg h]; congr 1; simp [show ¬ a ≤ x from h]

theorem spec_BitsSize_ev (n w : Int) : spec_BitsSize.f n w = some (if 0 ≤ n ∧ n ≤ 2000 ∧ 0 ≤ w ∧ w ≤ 62 then (n * w + 7) / 8 else -1) := by
  unfold spec_BitsSize.f
  simp only [spec_l1In_ev, Option.bind_some]
  by_cases h1 : 0 ≤ n ∧ n ≤ 2000
  · simp only [decide_eq_true h1, if_true]
    by_cases h2 : 0 ≤ w ∧ w ≤ 62
    · simp only [decide_eq_true h2, if_true]
      have hm0 : 0 ≤ n * w := Int.mul_nonneg h1.1 h2.1
      have hm : n * w ≤ 2000 * 62 := Int.mul_le_mul h1.2 h2.2 h2.1 (by omega)
      rw [if_pos ⟨h1.1, h1.2, h2.1, h2.2⟩, wrap_id (n := n * w) (by omega) (by omega), wrap_id (n := n * w + 7) (by omega) (by omega), Int.tdiv_eq_ediv_of_nonneg (by omega), wrap_id (by omega) (by omega)]
    · simp only [decide_eq_false h2, Bool.false_eq_true, if_false]
      rw [if_neg (fun h => h2 h.2.2)]
  · simp only [decide_eq_false h1, Bool.false_eq_true, if_false]
    rw [if_neg (fun h => h1 ⟨h.1, h.2.1⟩)]

theorem spec_l1Bit_ev (l : List Int) (k : Int) (hl : ∀ x ∈ l, (Lit.int .u8 x).wf = true) (h0 : 0 ≤ k) (h1 : k / 8 < l.length) (h2 : k < 9223372036854775808) :
    spec_l1Bit.f l k = some (bitAt l k) := by
  unfold spec_l1Bit.f
  have e : wrap64 (Int.tdiv k 8) = k / 8 := by rw [Int.tdiv_eq_ediv_of_nonneg (by omega), wrap_id (by omega) (by omega)]
  have e2 : Int.tmod k 8 = k % 8 := Int.tmod_eq_emod_of_nonneg (by omega)
  rw [e, e2, if_pos (by omega), if_pos (by omega), if_pos (by omega)]
  have hr := rd_rng8 hl (k / 8)
  rw [wrap_id (by omega) (by omega), shr64 _ _ (by omega) (by omega), and_one]; rfl

theorem spec_BitsRead_ev (b : List Int) (a n w : Int) (hb : ∀ x ∈ b, (Lit.int .u8 x).wf = true) (hlen : b.length ≤ 1000000000000) (ha : -9223372036854775808 ≤ a ∧ a < 9223372036854775808) :
    Ev (fun k => spec_BitsRead.f k b a n w) (brd b a n w) := by
  have bad : ∀ (y s : Int), Ev (fun k => spec_BitsRead.j0 k b a n w [] s true) ([], 0, false) := fun y s => Ev.step (f := fun _ => some ([], 0, false)) (fun k => by simp only [spec_BitsRead.j0]; rw [if_pos trivial]) (Ev.now _)
  unfold spec_BitsRead.f brd
  simp only [spec_BitsSize_ev, spec_l1In_ev, Option.bind_some]
  by_cases h1 : 0 ≤ n ∧ n ≤ 2000 ∧ 0 ≤ w ∧ w ≤ 62
  · simp only [if_pos h1]
    have hm0 : 0 ≤ n * w := Int.mul_nonneg h1.1 h1.2.2.1
    have hm : n * w ≤ 2000 * 62 := Int.mul_le_mul h1.2.1 h1.2.2.2 h1.2.2.1 (by omega)
    simp only [if_neg (show ¬ (n * w + 7) / 8 < 0 by omega)]
    by_cases h2 : 0 ≤ a ∧ a ≤ (b.length : Int)
    · simp only [decide_eq_true h2, if_true]
      rw [wrap_id (n := (b.length : Int) - a) (by omega) (by omega)]
      by_cases h3 : a + (n * w + 7) / 8 ≤ b.length
      · rw [decide_eq_false (show ¬ (b.length : Int) - a < (n * w + 7) / 8 by omega), if_pos ⟨h1, h2.1, h3⟩]
        obtain ⟨many, rfl⟩ := Int.eq_ofNat_of_zero_le h1.1
        obtain ⟨v, rfl⟩ := Int.eq_ofNat_of_zero_le h1.2.2.1
        have hfit : 8 * a + ((many * v : Nat) : Int) ≤ 8 * b.length := by push_cast; omega
        have inner : ∀ (d i j : Nat) (acc : List Int), i < many → j + d = v → acc.length ≤ 1000000 →
            ∀ R, Ev (fun k => spec_BitsRead.l0 k b a many v (acc ++ [wrap64 (unum b (8 * a + i * v) v)]) ((many * v + 7 : Int) / 8) ((i + 1 : Nat) : Int)) R →
            Ev (fun k => spec_BitsRead.l1 k b a many v acc ((many * v + 7 : Int) / 8) i (wrap64 (unum b (8 * a + i * v) j)) j) R := by
          intro d
          induction d with
          | zero =>
            intro i j acc hi hj hacc R h
            refine Ev.step (fun k => ?_) h
            simp only [spec_BitsRead.l1]
            rw [if_neg (by omega), if_pos (by omega), wrap_id (n := (i : Int) + 1) (by omega) (by omega), show j = v by omega]
            push_cast; rfl
          | succ d ih =>
            intro i j acc hi hj hacc R h
            have hc : ((i * v : Nat) : Int) = (i : Int) * v := by push_cast; rfl
            have hle : (i + 1) * v ≤ many * v := Nat.mul_le_mul_right v hi
            rw [Nat.succ_mul] at hle
            refine Ev.step (fun k => ?_) (ih i (j + 1) acc hi (by omega) hacc R h)
            simp only [spec_BitsRead.l1]
            rw [if_pos (show (j : Int) < v by omega), wrap_id (n := 8 * a) (by omega) (by omega), ← hc, wrap_id (n := ((i * v : Nat) : Int)) (by omega) (by omega), wrap_id (n := 8 * a + ((i * v : Nat) : Int)) (by omega) (by omega), wrap_id (n := 8 * a + ((i * v : Nat) : Int) + j) (by omega) (by omega)]
            rw [spec_l1Bit_ev b _ hb (by omega) (by omega) (by omega)]
            simp only [Option.bind_some]
            have hbit : 0 ≤ bitAt b (8 * a + ((i * v : Nat) : Int) + j) := by unfold bitAt; omega
            rw [if_pos (by omega), wrap_id (n := (j : Int) + 1) (by omega) (by omega), shl64 _ _ (by omega) (by omega), show (j : Int).toNat = j by omega]
            rw [or_add _ _ j (unum_rng _ _ _).1 (unum_rng _ _ _).2 hbit]
            push_cast; rfl
        have outer : ∀ (d i : Nat), i + d = many → Ev (fun k => spec_BitsRead.l0 k b a many v (unpackB b a i v) ((many * v + 7 : Int) / 8) i) (unpackB b a many v, a + (many * v + 7 : Int) / 8, true) := by
          intro d
          induction d with
          | zero =>
            intro i hi
            refine Ev.step (f := fun _ => some (unpackB b a many v, a + (many * v + 7 : Int) / 8, true)) (fun k => ?_) (Ev.now _)
            simp only [spec_BitsRead.l0]; rw [if_neg (by omega), show i = many by omega, wrap_id (by omega) (by omega)]
          | succ d ih =>
            intro i hi
            have h := ih (i + 1) (by omega)
            have e : unpackB b a (i + 1) v = unpackB b a i v ++ [wrap64 (unum b (8 * a + i * v) v)] := by unfold unpackB; rw [List.range_succ]; simp
            rw [e] at h
            refine Ev.step (fun k => ?_) (inner v i 0 _ (by omega) (by omega) (by simp [unpackB]; omega) _ h)
            simp only [spec_BitsRead.l0]; rw [if_pos (by omega)]
            simp [unum, show wrap64 0 = 0 by unfold wrap64; omega]
        have h := outer many 0 (by omega)
        refine Ev.step (f := fun k => spec_BitsRead.l0 k b a many v [] ((many * v + 7 : Int) / 8) 0) (fun k => by simp only [spec_BitsRead.j0]; rw [if_neg (by simp)]) ?_
        simpa [unpackB] using h
      · rw [decide_eq_true (show (b.length : Int) - a < (n * w + 7) / 8 by omega), if_neg (fun h => h3 h.2.2)]; exact bad 0 _
    · simp only [decide_eq_false h2, Bool.false_eq_true, if_false]
      rw [if_neg (fun h => h2 (by omega))]; exact bad 0 _
  · simp only [if_neg h1, if_pos (show (-1 : Int) < 0 by decide)]
    rw [if_neg (fun h => h1 h.1)]; exact bad 0 _

theorem heldIntS_ev (n : Nat) (m : Int) (h0 : 0 ≤ m) (hm : m ≤ 1000000000000000000) (hn : n ≤ 1000000000000000000) :
    Ev (fun k => laws_heldIntS.f k (mk64 n m) m) (m + n) := by
  have key : ∀ (d : Nat) (i : Nat), i + d = n → Ev (fun k => laws_heldIntS.l0 k (mk64 n m) (m + i) i) (m + n) := by
    intro d
    induction d with
    | zero =>
      intro i hd
      refine Ev.step (f := fun _ => some (m + n)) (fun k => ?_) (Ev.now _)
      simp only [laws_heldIntS.l0]; rw [if_neg (by simp [mk64_len]; omega)]
      rw [show i = n by omega]
    | succ d ih =>
      intro i hd
      refine Ev.step (f := fun k => laws_heldIntS.l0 k (mk64 n m) (m + (i + 1 : Nat)) (i + 1 : Nat)) (fun k => ?_) (ih (i + 1) (by omega))
      simp only [laws_heldIntS.l0]; rw [if_pos (by simp [mk64_len]; omega), if_pos (by omega), if_pos (by rw [rd_mk64 _ _ _ (by omega) (by omega)]), wrap_id (by omega) (by omega), wrap_id (by omega) (by omega)]
      push_cast; rw [Int.add_assoc]
  have h := key n 0 (by omega)
  unfold laws_heldIntS.f
  simpa using h

theorem FnExactBitsRead : laws_FnExactBitsRead.Pure := by
  intro l a n w hlen hsz hl ha hn hw
  have hv := wf64 ha
  refine Ev.rounds (g := fun k => laws_FnExactBitsRead.f k l a n w) ?_
  unfold laws_FnExactBitsRead.f
  by_cases hbig : (l.length : Int) > 1048576
  · simp only [if_pos hbig]; exact Ev.now _
  simp only [if_neg hbig]
  have e1 := spec_BitsRead_ev l a n w hl (by omega) hv
  have e2 := impl_BitsRead_ev l a n w hl (by omega) hv
  have hln : (brd l a n w).1.length ≤ 1000000000000000000 := by
    unfold brd; split
    · simp [unpackB]; omega
    · simp
  generalize brd l a n w = r at e1 e2 hln
  obtain ⟨b, nx, ok⟩ := r
  have hlen' : b.length ≤ 1000000000000000000 := hln
  refine Ev.bind (toByteS_ev l (by omega)) ?_
  refine Ev.bind e1 ?_
  refine Ev.bind (toByteS_ev l (by omega)) ?_
  refine Ev.bind e2 ?_
  refine Ev.bind (eqIntS_self _ hlen') ?_
  simp only [if_true, bne_self_eq_false]
  refine Ev.step (fun k => by simp only [laws_FnExactBitsRead.j0]; rw [if_neg (by simp)]) ?_
  refine Ev.bind (toByteS_ev l (by omega)) ?_
  refine Ev.bind (eqByteS_self l (by omega)) ?_
  simp only [if_true]
  refine Ev.bind (markByteS_ev l 1 (by omega) (by omega) (by omega)) ?_
  simp only [if_neg (show ¬ (1 + (l.length : Int) < 0) by omega)]
  refine Ev.bind (eqIntS_self _ hlen') ?_
  simp only [if_true, bne_self_eq_false]
  refine Ev.step (fun k => by simp only [laws_FnExactBitsRead.j1]; rw [if_neg (by simp)]) ?_
  refine Ev.bind (markIntS_ev _ 1 (by omega) (by omega) hlen') ?_
  refine Ev.bind (heldIntS_ev _ 1 (by omega) (by omega) hlen') ?_
  simp only [if_neg (show ¬ (1 + (b.length : Int) < 0) by omega), if_true]
  refine Ev.bind (toByteS_ev l (by omega)) ?_
  refine Ev.bind e2 ?_
  refine Ev.bind (eqIntS_self _ hlen') ?_
  simp only [if_true, bne_self_eq_false]
  refine Ev.step (fun k => by simp only [laws_FnExactBitsRead.j2]; rw [if_neg (by simp)]) ?_
  refine Ev.bind (heldIntS_ev _ 1 (by omega) (by omega) hlen') ?_
  simp only [if_neg (show ¬ (1 + (b.length : Int) < 0) by omega), if_true]
  exact Ev.now _

end Go.Proofs.Ytbiibjbhgeenoaa.Pure
