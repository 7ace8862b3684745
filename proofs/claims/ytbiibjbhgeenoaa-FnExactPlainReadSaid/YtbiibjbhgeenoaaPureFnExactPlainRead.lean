/- PlainRead answers as the reference does, for every type, all bytes and all ints. -/
import Derived.Test.YtbiibjbhgeenoaaPFnExactPlainReadx6
import Derived.Test.YtbiibjbhgeenoaaCom
namespace Go.Proofs.Ytbiibjbhgeenoaa.Pure
open Go Go.RowKit Go.Proofs.Ytbiibjbhgeenoaa.PFnExactPlainRead Go.Proofs.YtbiibjbhgeenoaaW.PrintWords Go.Proofs.YtbiibjbhgeenoaaW.PrintLast Go.Proofs.YtbiibjbhgeenoaaW.PrintMore Go.Proofs.Ytbiibjbhgeenoaa.Com
set_option linter.unusedVariables false
set_option linter.unusedSimpArgs false

theorem toByteS_ev (a : List Int) (hn : a.length ≤ 1000000000000) : Ev (fun k => laws_toByteS.f k a) a := by
  have key : ∀ (d : Nat) (i : Nat) (r : List Int), r.length = d → i + d = a.length → Ev (fun k => laws_toByteS.l0 k a (a.take i ++ r) i) a := by
    intro d
    induction d with
    | zero =>
      intro i r hr hd
      obtain rfl : r = [] := List.length_eq_zero_iff.1 hr
      refine Ev.step (f := fun _ => some a) (fun k => ?_) (Ev.now _)
      simp only [laws_toByteS.l0]; rw [if_neg (by omega)]
      rw [show i = a.length by omega]; simp
    | succ d ih =>
      intro i r hr hd
      refine Ev.step (f := fun k => laws_toByteS.l0 k a (a.take (i + 1) ++ r.tail) (i + 1 : Nat)) (fun k => ?_) (ih (i + 1) r.tail (by simp [hr]) (by omega))
      simp only [laws_toByteS.l0]; rw [if_pos (by omega), if_pos (by omega), if_pos (by simp; omega), wrap_id (by omega) (by omega)]
      rw [set_mid _ _ _ _ (by simp; omega) (by omega), rd_eq' _ _ (by omega) (by simp; omega)]
      rw [List.take_succ_eq_append_getElem (by omega)]; simp
  have h := key a.length 0 (List.replicate a.length 0) (by simp) (by omega)
  unfold laws_toByteS.f
  simp only [if_pos (show (0:Int) ≤ a.length by omega), if_pos (show ((a.length : Int)).toNat ≤ 281474976710656 by omega)]
  simpa using h

theorem eqByteS_self (a : List Int) (hn : a.length ≤ 1000000000000000000) : Ev (fun k => laws_eqByteS.f k a a) true := by
  have key : ∀ (d : Nat) (i : Int), 0 ≤ i → i ≤ a.length → (a.length : Int) - i = d → Ev (fun k => laws_eqByteS.l0 k a a i) true := by
    intro d
    induction d with
    | zero =>
      intro i h0 h1 hd
      refine Ev.step (f := fun _ => some true) (fun k => ?_) (Ev.now _)
      simp only [laws_eqByteS.l0]; rw [if_neg (by omega)]
    | succ d ih =>
      intro i h0 h1 hd
      refine Ev.step (f := fun k => laws_eqByteS.l0 k a a (i + 1)) (fun k => ?_) (ih (i + 1) (by omega) (by omega) (by omega))
      simp only [laws_eqByteS.l0]; rw [if_pos (by omega), if_pos h0, if_pos (by omega), if_pos trivial, wrap_id (by omega) (by omega)]
  have h := key a.length 0 (by omega) (by omega) (by omega)
  unfold laws_eqByteS.f
  simpa using h

theorem eqVal_refl (a : Int) (b : ByteArray) : laws_eqVal.f a b a b = some true := by simp [laws_eqVal.f]
theorem eqValS_self (a : List S47) (hn : a.length ≤ 1000000000000000000) : Ev (fun k => laws_eqValS.f k a a) true := by
  have key : ∀ (d : Nat) (i : Int), 0 ≤ i → i ≤ a.length → (a.length : Int) - i = d → Ev (fun k => laws_eqValS.l0 k a a i) true := by
    intro d
    induction d with
    | zero =>
      intro i h0 h1 hd
      refine Ev.step (f := fun _ => some true) (fun k => ?_) (Ev.now _)
      simp only [laws_eqValS.l0]; rw [if_neg (by omega)]
    | succ d ih =>
      intro i h0 h1 hd
      refine Ev.step (f := fun k => laws_eqValS.l0 k a a (i + 1)) (fun k => ?_) (ih (i + 1) (by omega) (by omega) (by omega))
      simp only [laws_eqValS.l0]; rw [if_pos (by omega), if_pos h0, if_pos (by omega), eqVal_refl]
      simp only [Option.bind_some, if_true]; rw [wrap_id (by omega) (by omega)]
  have h := key a.length 0 (by omega) (by omega) (by omega)
  unfold laws_eqValS.f
  simpa using h

theorem markByteS_ev (a : List Int) (m : Int) (h0 : 0 ≤ m) (hm : m ≤ 1000000000000000000) (hn : a.length ≤ 1000000000000000000) :
    Ev (fun k => laws_markByteS.f k a m) (m + a.length, mk8 a.length m) := by
  have key : ∀ (d : Nat) (i : Nat) (r : List Int), r.length = d → i + d = a.length → Ev (fun k => laws_markByteS.l0 k (mk8 i m ++ r) (m + i) i) (m + a.length, mk8 a.length m) := by
    intro d
    induction d with
    | zero =>
      intro i r hr hd
      obtain rfl : r = [] := List.length_eq_zero_iff.1 hr
      refine Ev.step (f := fun _ => some (m + a.length, mk8 a.length m)) (fun k => ?_) (Ev.now _)
      simp only [laws_markByteS.l0]; rw [if_neg (by simp [mk8_len])]
      rw [show i = a.length by omega]; simp
    | succ d ih =>
      intro i r hr hd
      refine Ev.step (f := fun k => laws_markByteS.l0 k (mk8 (i + 1) m ++ r.tail) (m + (i + 1 : Nat)) (i + 1 : Nat)) (fun k => ?_) (ih (i + 1) r.tail (by simp [hr]) (by omega))
      simp only [laws_markByteS.l0]; rw [if_pos (by simp [mk8_len]; omega), if_pos (by omega), wrap_id (by omega) (by omega), wrap_id (by omega) (by omega)]
      rw [set_mid _ _ _ _ (by simp [mk8_len]) (by omega), mk8_succ]; push_cast; rw [Int.add_assoc]
  have h := key a.length 0 a rfl (by omega)
  unfold laws_markByteS.f
  simpa [mk8] using h

theorem markText_l (d : Nat) : ∀ (n : Int) (acc : ByteArray), 0 ≤ n → n < 9223372036854775808 → n < 10 ^ d → acc.size + d ≤ 100 → ∃ r, Ev (fun k => laws_markText.l0 k n acc) r := by
  induction d with
  | zero =>
    intro n acc h0 h9 h1 ha
    refine ⟨_, Ev.step (f := fun _ => some ((⟨#[109]⟩ : ByteArray) ++ acc)) (fun k => ?_) (Ev.now _)⟩
    simp only [laws_markText.l0]; rw [if_neg (by omega), if_pos (by omega)]
  | succ d ih =>
    intro n acc h0 h9 h1 ha
    by_cases hn : n > 0
    · rw [Int.pow_succ] at h1
      obtain ⟨r, e⟩ := ih (n / 10) ((strOfNums [(wrap64 (48 + (Int.tmod n 10))) % 256]) ++ acc) (by omega) (by omega) (by omega) (by rw [ByteArray.size_append, strOfNums_size]; simp; omega)
      refine ⟨r, Ev.step (fun k => ?_) e⟩
      simp only [laws_markText.l0, Option.bind_some]
      rw [if_pos hn, if_pos (by rw [strOfNums_size]; simp; omega), Int.tdiv_eq_ediv_of_nonneg (by omega), wrap_id (n := n / 10) (by omega) (by omega)]
    · refine ⟨_, Ev.step (f := fun _ => some ((⟨#[109]⟩ : ByteArray) ++ acc)) (fun k => ?_) (Ev.now _)⟩
      simp only [laws_markText.l0]; rw [if_neg (by omega), if_pos (by omega)]
theorem markText_ev : ∃ t : Int → ByteArray, ∀ n, -9223372036854775808 ≤ n → n < 9223372036854775808 → Ev (fun k => laws_markText.f k n) (t n) := by
  have h : ∀ n : Int, ∃ t, -9223372036854775808 ≤ n → n < 9223372036854775808 → Ev (fun k => laws_markText.f k n) t := by
    intro n
    by_cases hr : -9223372036854775808 ≤ n ∧ n < 9223372036854775808
    · by_cases h0 : n ≤ 0
      · exact ⟨⟨#[109, 48]⟩, fun _ _ => by unfold laws_markText.f; simp only [if_pos h0]; exact Ev.now _⟩
      · obtain ⟨r, e⟩ := markText_l 19 n ⟨#[]⟩ (by omega) (by omega) (by omega) (by decide)
        refine ⟨r, fun _ _ => ?_⟩
        unfold laws_markText.f; simp only [if_neg h0]; exact e
    · exact ⟨⟨#[]⟩, fun a b => absurd ⟨a, b⟩ hr⟩
  exact ⟨fun n => Classical.choose (h n), fun n => Classical.choose_spec (h n)⟩

theorem rd_val (l : List S47) (i : Int) (_h0 : 0 ≤ i) (h : i.toNat < l.length) : rd_T47 l i = l[i.toNat] := by
  unfold rd_T47; simp [h]
/-- What marks leave. -/
def mkv (t : Int → ByteArray) (n : Nat) (m : Int) : List S47 := (List.range n).map fun i : Nat => ⟨m + 2 * i, t (m + 2 * i + 1)⟩
theorem mkv_len (t : Int → ByteArray) (n : Nat) (m : Int) : (mkv t n m).length = n := by simp [mkv]
theorem mkv_succ (t : Int → ByteArray) (n : Nat) (m : Int) : mkv t (n + 1) m = mkv t n m ++ [⟨m + 2 * n, t (m + 2 * n + 1)⟩] := by simp [mkv, List.range_succ]
theorem markValS_ev (t : Int → ByteArray) (ht : ∀ n, -9223372036854775808 ≤ n → n < 9223372036854775808 → Ev (fun k => laws_markText.f k n) (t n)) (a : List S47) (m : Int) (h0 : 0 ≤ m) (hm : m ≤ 1000000000000) (hn : a.length ≤ 1000000000000) :
    Ev (fun k => laws_markValS.f k a m) (m + 2 * a.length, mkv t a.length m) := by
  have key : ∀ (d : Nat) (i : Nat) (r : List S47), r.length = d → i + d = a.length → Ev (fun k => laws_markValS.l0 k (mkv t i m ++ r) (m + 2 * i) i) (m + 2 * a.length, mkv t a.length m) := by
    intro d
    induction d with
    | zero =>
      intro i r hr hd
      obtain rfl : r = [] := List.length_eq_zero_iff.1 hr
      refine Ev.step (f := fun _ => some (m + 2 * a.length, mkv t a.length m)) (fun k => ?_) (Ev.now _)
      simp only [laws_markValS.l0]; rw [if_neg (by simp [mkv_len])]
      rw [show i = a.length by omega]; simp
    | succ d ih =>
      intro i r hr hd
      have h := ih (i + 1) r.tail (by simp [hr]) (by omega)
      refine Ev.step (f := fun k => (laws_markText.f k (m + 2 * (i : Int) + 1)).bind fun t' => laws_markValS.l0 k (mkv t i m ++ [⟨m + 2 * (i : Int), t'⟩] ++ r.tail) (m + 2 * ((i + 1 : Nat) : Int)) ((i + 1 : Nat) : Int)) (fun k => ?_) ?_
      · simp only [laws_markValS.l0]
        rw [if_pos (by simp [mkv_len]; omega), if_pos (by omega)]
        simp only [Option.bind_some]
        rw [wrap_id (n := m + 2 * (i : Int) + 1) (by omega) (by omega), wrap_id (n := m + 2 * (i : Int) + 1 + 1) (by omega) (by omega), wrap_id (n := (i : Int) + 1) (by omega) (by omega)]
        rw [set_mid _ _ _ _ (by simp [mkv_len]) (by omega)]
        have hrd : rd_T47 (mkv t i m ++ [(⟨m + 2 * (i : Int), (rd_T47 (mkv t i m ++ r) i).f1⟩ : S47)] ++ r.tail) (i : Int) = ⟨m + 2 * (i : Int), (rd_T47 (mkv t i m ++ r) i).f1⟩ := by
          rw [rd_val _ _ (by omega) (by simp [mkv_len])]
          simp only [Int.toNat_natCast]
          rw [List.getElem_append_left (by simp [mkv_len]), List.getElem_append_right (by simp [mkv_len])]
          simp [mkv_len]
        rw [hrd]
        have hset : ∀ v : S47, (mkv t i m ++ [(⟨m + 2 * (i : Int), (rd_T47 (mkv t i m ++ r) i).f1⟩ : S47)] ++ r.tail).set ((i : Int)).toNat v = mkv t i m ++ [v] ++ r.tail := by
          intro v
          rw [List.append_assoc, set_mid _ _ _ _ (by simp [mkv_len]) (by simp)]; simp
        simp only [hset]
        congr 1; funext t'; congr 1; push_cast; omega
      · refine Ev.bind (ht _ (by omega) (by omega)) ?_
        rw [← mkv_succ]; exact h
  have h := key a.length 0 a rfl (by omega)
  unfold laws_markValS.f
  simpa [mkv] using h

theorem heldValS_ev (t : Int → ByteArray) (ht : ∀ n, -9223372036854775808 ≤ n → n < 9223372036854775808 → Ev (fun k => laws_markText.f k n) (t n)) (n : Nat) (m : Int) (h0 : 0 ≤ m) (hm : m ≤ 1000000000000) (hn : n ≤ 1000000000000) :
    Ev (fun k => laws_heldValS.f k (mkv t n m) m) (m + 2 * n) := by
  have key : ∀ (d : Nat) (i : Nat), i + d = n → Ev (fun k => laws_heldValS.l0 k (mkv t n m) (m + 2 * i) i) (m + 2 * n) := by
    intro d
    induction d with
    | zero =>
      intro i hd
      refine Ev.step (f := fun _ => some (m + 2 * n)) (fun k => ?_) (Ev.now _)
      simp only [laws_heldValS.l0]; rw [if_neg (by simp [mkv_len]; omega)]
      rw [show i = n by omega]
    | succ d ih =>
      intro i hd
      have hrd : rd_T47 (mkv t n m) (i : Int) = ⟨m + 2 * (i : Int), t (m + 2 * (i : Int) + 1)⟩ := by
        rw [rd_val _ _ (by omega) (by simp [mkv_len]; omega)]; simp [mkv]
      refine Ev.step (f := fun k => (laws_markText.f k (m + 2 * (i : Int) + 1)).bind fun t' => if (t (m + 2 * (i : Int) + 1)).toList = t'.toList then laws_heldValS.l0 k (mkv t n m) (m + 2 * ((i + 1 : Nat) : Int)) ((i + 1 : Nat) : Int) else some (-1)) (fun k => ?_) ?_
      · simp only [laws_heldValS.l0]
        rw [if_pos (by simp [mkv_len]; omega), if_pos (by omega), hrd]
        rw [if_pos rfl, wrap_id (n := m + 2 * (i : Int) + 1) (by omega) (by omega), wrap_id (n := m + 2 * (i : Int) + 1 + 1) (by omega) (by omega), wrap_id (n := (i : Int) + 1) (by omega) (by omega)]
        congr 1; funext t'; congr 2; push_cast; omega
      · refine Ev.bind (ht _ (by omega) (by omega)) ?_
        simp only [if_true]; exact ih (i + 1) (by omega)
  have h := key n 0 (by omega)
  unfold laws_heldValS.f
  simpa using h

theorem spec_l5Type_ev (t : Int) : spec_l5Type.f t = some (decide (t = 0 ∨ t = 1 ∨ t = 2 ∨ t = 5 ∨ t = 6)) := by
  unfold spec_l5Type.f
  by_cases h0 : t = 0
  · rw [if_pos h0, decide_eq_true (by omega)]
  rw [if_neg h0]
  by_cases h1 : t = 1
  · rw [if_pos h1, decide_eq_true (by omega)]
  rw [if_neg h1]
  by_cases h2 : t = 2
  · rw [if_pos h2, decide_eq_true (by omega)]
  rw [if_neg h2]
  by_cases h5 : t = 5
  · rw [if_pos h5, decide_eq_true (by omega)]
  rw [if_neg h5]
  by_cases h6 : t = 6
  · rw [if_pos h6, decide_eq_true (by omega)]
  rw [if_neg h6, decide_eq_false (by omega)]

theorem spec_l1In_ev (x a b : Int) : spec_l1In.f x a b = some (decide (a ≤ x ∧ x ≤ b)) := by
  unfold spec_l1In.f
  by_cases h : x ≥ a
  · rw [if_pos h]; congr 1; simp [show a ≤ x from h]
  · rw [if_neg h]; congr 1; simp [show ¬ a ≤ x from h]

theorem impl_within_ev (x a b : Int) : impl_within.f x a b = some (decide (a ≤ x ∧ x ≤ b)) := by
  unfold impl_within.f
  by_cases h : x ≥ a
  · rw [if_pos h]; congr 1; simp [show a ≤ x from h]
  · rw [if_neg h]; congr 1; simp [show ¬ a ≤ x from h]

theorem impl_BitsSize_ev (n w : Int) : impl_BitsSize.f n w = some (if 0 ≤ n ∧ n ≤ 2000 ∧ 0 ≤ w ∧ w ≤ 62 then (n * w + 7) / 8 else -1) := by
  unfold impl_BitsSize.f
  simp only [impl_within_ev, Option.bind_some]
  by_cases h1 : 0 ≤ n ∧ n ≤ 2000
  · simp only [decide_eq_true h1, if_true]
    by_cases h2 : 0 ≤ w ∧ w ≤ 62
    · simp only [decide_eq_true h2, if_true]
      have hm0 : 0 ≤ n * w := Int.mul_nonneg h1.1 h2.1
      have hm : n * w ≤ 2000 * 62 := Int.mul_le_mul h1.2 h2.2 h2.1 (by omega)
      rw [if_pos ⟨h1.1, h1.2, h2.1, h2.2⟩, wrap_id (n := n * w) (by omega) (by omega), wrap_id (n := n * w + 7) (by omega) (by omega), Int.tdiv_eq_ediv_of_nonneg (by omega), wrap_id (by omega) (by omega)]
    · simp only [decide_eq_false h2, Bool.false_eq_true, if_false]
      rw [if_neg (fun h => h2 h.2.2)]
  · simp only [decide_eq_false h1, Bool.false_eq_true, if_false]
    rw [if_neg (fun h => h1 ⟨h.1, h.2.1⟩)]

theorem impl_BitAt_ev (l : List Int) (k : Int) (hl : ∀ x ∈ l, (Lit.int .u8 x).wf = true) (h0 : -9223372036854775808 ≤ k) (h1 : k < 9223372036854775808) :
    impl_BitAt.f l k = some (if 0 ≤ k ∧ k / 8 < l.length then bitAt l k else -1) := by
  unfold impl_BitAt.f
  by_cases hk : k < 0
  · rw [if_pos hk, if_neg (by omega)]
  · have e : wrap64 (Int.tdiv k 8) = k / 8 := by rw [Int.tdiv_eq_ediv_of_nonneg (by omega), wrap_id (by omega) (by omega)]
    have e2 : Int.tmod k 8 = k % 8 := Int.tmod_eq_emod_of_nonneg (by omega)
    rw [if_neg hk, e, e2]
    by_cases hb : k / 8 ≥ (l.length : Int)
    · rw [if_pos hb, if_neg (by omega)]
    · rw [if_neg hb, if_pos (by omega), if_pos (by omega), if_pos (by omega), if_pos (by omega)]
      have hr := rd_rng8 hl (k / 8)
      unfold bitAt shr
      rw [show min (k % 8).toNat IntKind.u8.bits = (k % 8).toNat by simp [IntKind.bits]; omega]
      have hp : (0 : Int) < 2 ^ (k % 8).toNat := Int.pow_pos (by decide)
      have hd0 : 0 ≤ rd l (k / 8) / 2 ^ (k % 8).toNat := Int.ediv_nonneg hr.1 (by omega)
      have hd1 : rd l (k / 8) / 2 ^ (k % 8).toNat ≤ rd l (k / 8) := Int.ediv_le_self _ hr.1
      have hm := bits_mask .u8 8 (by decide) wraps_u8 1 (by decide) (rd l (k / 8) / 2 ^ (k % 8).toNat) hd0 (by omega)
      rw [show (2 : Int) ^ 1 - 1 = 1 by rfl] at hm
      rw [hm, wrap_id (by omega) (by omega)]; rfl

theorem impl_unpacked_ev (b : List Int) (a : Int) (many w : Nat) (hb : ∀ x ∈ b, (Lit.int .u8 x).wf = true) (hlen : b.length ≤ 1000000000000) (ha : 0 ≤ a) (hm : many ≤ 1000000) (hw : w ≤ 63) (hfit : 8 * a + many * w ≤ 8 * b.length) :
    Ev (fun k => impl_unpacked.f k b a many w) (unpackB b a many w) := by
  have inner : ∀ (d i j : Nat) (acc : List Int), i < many → j + d = w → acc.length ≤ 1000000 →
      ∀ R : List Int, Ev (fun k => impl_unpacked.l0 k b a w (acc ++ [wrap64 (unum b (8 * a + i * w) w)]) many ((i + 1 : Nat) : Int)) R →
      Ev (fun k => impl_unpacked.l1 k b a w acc i (wrap64 (unum b (8 * a + i * w) j)) many i w j) R := by
    intro d
    induction d with
    | zero =>
      intro i j acc hi hj hacc R h
      refine Ev.step (fun k => ?_) h
      simp only [impl_unpacked.l1]
      rw [if_neg (by omega), if_pos (by omega), wrap_id (n := (i : Int) + 1) (by omega) (by omega), show j = w by omega]
      push_cast; rfl
    | succ d ih =>
      intro i j acc hi hj hacc R h
      have hc : ((i * w : Nat) : Int) = (i : Int) * w := by push_cast; rfl
      have hle : (i + 1) * w ≤ many * w := Nat.mul_le_mul_right w hi
      rw [Nat.succ_mul] at hle
      have hmc : ((many * w : Nat) : Int) = (many : Int) * w := by push_cast; rfl
      rw [← hmc] at hfit
      refine Ev.step (fun k => ?_) (ih i (j + 1) acc hi (by omega) hacc R h)
      simp only [impl_unpacked.l1]
      rw [if_pos (by omega), wrap_id (n := 8 * a) (by omega) (by omega), ← hc, wrap_id (n := ((i * w : Nat) : Int)) (by omega) (by omega), wrap_id (n := 8 * a + ((i * w : Nat) : Int)) (by omega) (by omega), wrap_id (n := 8 * a + ((i * w : Nat) : Int) + j) (by omega) (by omega)]
      rw [impl_BitAt_ev b _ hb (by omega) (by omega), if_pos (by omega)]
      simp only [Option.bind_some]
      have hbit : 0 ≤ bitAt b (8 * a + ((i * w : Nat) : Int) + j) := by unfold bitAt; omega
      rw [if_pos (by omega), wrap_id (n := (j : Int) + 1) (by omega) (by omega), shl64 _ _ (by omega) (by omega), show (j : Int).toNat = j by omega]
      rw [or_add _ _ j (unum_rng _ _ _).1 (unum_rng _ _ _).2 hbit]
      push_cast; rfl
  have outer : ∀ (d i : Nat), i + d = many → Ev (fun k => impl_unpacked.l0 k b a w (unpackB b a i w) many i) (unpackB b a many w) := by
    intro d
    induction d with
    | zero =>
      intro i hi
      refine Ev.step (f := fun _ => some (unpackB b a many w)) (fun k => ?_) (Ev.now _)
      simp only [impl_unpacked.l0]; rw [if_neg (by omega), show i = many by omega]
    | succ d ih =>
      intro i hi
      have h := ih (i + 1) (by omega)
      have e : unpackB b a (i + 1) w = unpackB b a i w ++ [wrap64 (unum b (8 * a + i * w) w)] := by unfold unpackB; rw [List.range_succ]; simp
      rw [e] at h
      refine Ev.step (fun k => ?_) (inner w i 0 _ (by omega) (by omega) (by simp [unpackB]; omega) _ h)
      simp only [impl_unpacked.l0]; rw [if_pos (by omega)]
      simp [unum, show wrap64 0 = 0 by unfold wrap64; omega]
  have h := outer many 0 (by omega)
  unfold impl_unpacked.f
  simpa [unpackB] using h

/-- What BitsRead answers. -/
def brd (b : List Int) (a n w : Int) : List Int × Int × Bool :=
  if (0 ≤ n ∧ n ≤ 2000 ∧ 0 ≤ w ∧ w ≤ 62) ∧ 0 ≤ a ∧ a + (n * w + 7) / 8 ≤ b.length then (unpackB b a n.toNat w.toNat, a + (n * w + 7) / 8, true) else ([], 0, false)
theorem impl_BitsRead_ev (b : List Int) (a n w : Int) (hb : ∀ x ∈ b, (Lit.int .u8 x).wf = true) (hlen : b.length ≤ 1000000000000) (ha : -9223372036854775808 ≤ a ∧ a < 9223372036854775808) :
    Ev (fun k => impl_BitsRead.f k b a n w) (brd b a n w) := by
  unfold impl_BitsRead.f brd
  simp only [impl_BitsSize_ev, impl_within_ev, Option.bind_some]
  by_cases h1 : 0 ≤ n ∧ n ≤ 2000 ∧ 0 ≤ w ∧ w ≤ 62
  · simp only [if_pos h1]
    have hm0 : 0 ≤ n * w := Int.mul_nonneg h1.1 h1.2.2.1
    have hm : n * w ≤ 2000 * 62 := Int.mul_le_mul h1.2.1 h1.2.2.2 h1.2.2.1 (by omega)
    simp only [if_neg (show ¬ (n * w + 7) / 8 < 0 by omega)]
    by_cases h2 : 0 ≤ a ∧ a ≤ (b.length : Int)
    · simp only [decide_eq_true h2, if_true]
      rw [wrap_id (n := (b.length : Int) - a) (by omega) (by omega)]
      by_cases h3 : a + (n * w + 7) / 8 ≤ b.length
      · simp only [if_neg (show ¬ (n * w + 7) / 8 > (b.length : Int) - a by omega)]
        rw [if_pos ⟨h1, h2.1, h3⟩]
        obtain ⟨n', rfl⟩ := Int.eq_ofNat_of_zero_le h1.1
        obtain ⟨w', rfl⟩ := Int.eq_ofNat_of_zero_le h1.2.2.1
        have := impl_unpacked_ev b a n' w' hb hlen h2.1 (by omega) (by omega) (by omega)
        refine Ev.bind this ?_
        rw [wrap_id (n := a + ((n' : Int) * w' + 7) / 8) (by omega) (by omega)]
        exact Ev.now _
      · simp only [if_pos (show (n * w + 7) / 8 > (b.length : Int) - a by omega)]
        rw [if_neg (fun h => h3 h.2.2)]; exact Ev.now _
    · simp only [decide_eq_false h2, Bool.false_eq_true, if_false]
      rw [if_neg (fun h => h2 (by omega))]; exact Ev.now _
  · simp only [if_neg h1, if_pos (show (-1 : Int) < 0 by decide)]
    rw [if_neg (fun h => h1 h.1)]; exact Ev.now _

theorem spec_BitsSize_ev (n w : Int) : spec_BitsSize.f n w = some (if 0 ≤ n ∧ n ≤ 2000 ∧ 0 ≤ w ∧ w ≤ 62 then (n * w + 7) / 8 else -1) := by
  unfold spec_BitsSize.f
  simp only [spec_l1In_ev, Option.bind_some]
  by_cases h1 : 0 ≤ n ∧ n ≤ 2000
  · simp only [decide_eq_true h1, if_true]
    by_cases h2 : 0 ≤ w ∧ w ≤ 62
    · simp only [decide_eq_true h2, if_true]
      have hm0 : 0 ≤ n * w := Int.mul_nonneg h1.1 h2.1
      have hm : n * w ≤ 2000 * 62 := Int.mul_le_mul h1.2 h2.2 h2.1 (by omega)
      rw [if_pos ⟨h1.1, h1.2, h2.1, h2.2⟩, wrap_id (n := n * w) (by omega) (by omega), wrap_id (n := n * w + 7) (by omega) (by omega), Int.tdiv_eq_ediv_of_nonneg (by omega), wrap_id (by omega) (by omega)]
    · simp only [decide_eq_false h2, Bool.false_eq_true, if_false]
      rw [if_neg (fun h => h2 h.2.2)]
  · simp only [decide_eq_false h1, Bool.false_eq_true, if_false]
    rw [if_neg (fun h => h1 ⟨h.1, h.2.1⟩)]

theorem spec_l1Bit_ev (l : List Int) (k : Int) (hl : ∀ x ∈ l, (Lit.int .u8 x).wf = true) (h0 : 0 ≤ k) (h1 : k / 8 < l.length) (h2 : k < 9223372036854775808) :
    spec_l1Bit.f l k = some (bitAt l k) := by
  unfold spec_l1Bit.f
  have e : wrap64 (Int.tdiv k 8) = k / 8 := by rw [Int.tdiv_eq_ediv_of_nonneg (by omega), wrap_id (by omega) (by omega)]
  have e2 : Int.tmod k 8 = k % 8 := Int.tmod_eq_emod_of_nonneg (by omega)
  rw [e, e2, if_pos (by omega), if_pos (by omega), if_pos (by omega)]
  have hr := rd_rng8 hl (k / 8)
  rw [wrap_id (by omega) (by omega), shr64 _ _ (by omega) (by omega), and_one]; rfl

theorem spec_BitsRead_ev (b : List Int) (a n w : Int) (hb : ∀ x ∈ b, (Lit.int .u8 x).wf = true) (hlen : b.length ≤ 1000000000000) (ha : -9223372036854775808 ≤ a ∧ a < 9223372036854775808) :
    Ev (fun k => spec_BitsRead.f k b a n w) (brd b a n w) := by
  have bad : ∀ (y s : Int), Ev (fun k => spec_BitsRead.j0 k b a n w [] s true) ([], 0, false) := fun y s => Ev.step (f := fun _ => some ([], 0, false)) (fun k => by simp only [spec_BitsRead.j0]; rw [if_pos trivial]) (Ev.now _)
  unfold spec_BitsRead.f brd
  simp only [spec_BitsSize_ev, spec_l1In_ev, Option.bind_some]
  by_cases h1 : 0 ≤ n ∧ n ≤ 2000 ∧ 0 ≤ w ∧ w ≤ 62
  · simp only [if_pos h1]
    have hm0 : 0 ≤ n * w := Int.mul_nonneg h1.1 h1.2.2.1
    have hm : n * w ≤ 2000 * 62 := Int.mul_le_mul h1.2.1 h1.2.2.2 h1.2.2.1 (by omega)
    simp only [if_neg (show ¬ (n * w + 7) / 8 < 0 by omega)]
    by_cases h2 : 0 ≤ a ∧ a ≤ (b.length : Int)
    · simp only [decide_eq_true h2, if_true]
      rw [wrap_id (n := (b.length : Int) - a) (by omega) (by omega)]
      by_cases h3 : a + (n * w + 7) / 8 ≤ b.length
      · rw [decide_eq_false (show ¬ (b.length : Int) - a < (n * w + 7) / 8 by omega), if_pos ⟨h1, h2.1, h3⟩]
        obtain ⟨many, rfl⟩ := Int.eq_ofNat_of_zero_le h1.1
        obtain ⟨v, rfl⟩ := Int.eq_ofNat_of_zero_le h1.2.2.1
        have hfit : 8 * a + ((many * v : Nat) : Int) ≤ 8 * b.length := by push_cast; omega
        have inner : ∀ (d i j : Nat) (acc : List Int), i < many → j + d = v → acc.length ≤ 1000000 →
            ∀ R, Ev (fun k => spec_BitsRead.l0 k b a many v (acc ++ [wrap64 (unum b (8 * a + i * v) v)]) ((many * v + 7 : Int) / 8) ((i + 1 : Nat) : Int)) R →
            Ev (fun k => spec_BitsRead.l1 k b a many v acc ((many * v + 7 : Int) / 8) i (wrap64 (unum b (8 * a + i * v) j)) j) R := by
          intro d
          induction d with
          | zero =>
            intro i j acc hi hj hacc R h
            refine Ev.step (fun k => ?_) h
            simp only [spec_BitsRead.l1]
            rw [if_neg (by omega), if_pos (by omega), wrap_id (n := (i : Int) + 1) (by omega) (by omega), show j = v by omega]
            push_cast; rfl
          | succ d ih =>
            intro i j acc hi hj hacc R h
            have hc : ((i * v : Nat) : Int) = (i : Int) * v := by push_cast; rfl
            have hle : (i + 1) * v ≤ many * v := Nat.mul_le_mul_right v hi
            rw [Nat.succ_mul] at hle
            refine Ev.step (fun k => ?_) (ih i (j + 1) acc hi (by omega) hacc R h)
            simp only [spec_BitsRead.l1]
            rw [if_pos (show (j : Int) < v by omega), wrap_id (n := 8 * a) (by omega) (by omega), ← hc, wrap_id (n := ((i * v : Nat) : Int)) (by omega) (by omega), wrap_id (n := 8 * a + ((i * v : Nat) : Int)) (by omega) (by omega), wrap_id (n := 8 * a + ((i * v : Nat) : Int) + j) (by omega) (by omega)]
            rw [spec_l1Bit_ev b _ hb (by omega) (by omega) (by omega)]
            simp only [Option.bind_some]
            have hbit : 0 ≤ bitAt b (8 * a + ((i * v : Nat) : Int) + j) := by unfold bitAt; omega
            rw [if_pos (by omega), wrap_id (n := (j : Int) + 1) (by omega) (by omega), shl64 _ _ (by omega) (by omega), show (j : Int).toNat = j by omega]
            rw [or_add _ _ j (unum_rng _ _ _).1 (unum_rng _ _ _).2 hbit]
            push_cast; rfl
        have outer : ∀ (d i : Nat), i + d = many → Ev (fun k => spec_BitsRead.l0 k b a many v (unpackB b a i v) ((many * v + 7 : Int) / 8) i) (unpackB b a many v, a + (many * v + 7 : Int) / 8, true) := by
          intro d
          induction d with
          | zero =>
            intro i hi
            refine Ev.step (f := fun _ => some (unpackB b a many v, a + (many * v + 7 : Int) / 8, true)) (fun k => ?_) (Ev.now _)
            simp only [spec_BitsRead.l0]; rw [if_neg (by omega), show i = many by omega, wrap_id (by omega) (by omega)]
          | succ d ih =>
            intro i hi
            have h := ih (i + 1) (by omega)
            have e : unpackB b a (i + 1) v = unpackB b a i v ++ [wrap64 (unum b (8 * a + i * v) v)] := by unfold unpackB; rw [List.range_succ]; simp
            rw [e] at h
            refine Ev.step (fun k => ?_) (inner v i 0 _ (by omega) (by omega) (by simp [unpackB]; omega) _ h)
            simp only [spec_BitsRead.l0]; rw [if_pos (by omega)]
            simp [unum, show wrap64 0 = 0 by unfold wrap64; omega]
        have h := outer many 0 (by omega)
        refine Ev.step (f := fun k => spec_BitsRead.l0 k b a many v [] ((many * v + 7 : Int) / 8) 0) (fun k => by simp only [spec_BitsRead.j0]; rw [if_neg (by simp)]) ?_
        simpa [unpackB] using h
      · rw [decide_eq_true (show (b.length : Int) - a < (n * w + 7) / 8 by omega), if_neg (fun h => h3 h.2.2)]; exact bad 0 _
    · simp only [decide_eq_false h2, Bool.false_eq_true, if_false]
      rw [if_neg (fun h => h2 (by omega))]; exact bad 0 _
  · simp only [if_neg h1, if_pos (show (-1 : Int) < 0 by decide)]
    rw [if_neg (fun h => h1 h.1)]; exact bad 0 _

theorem impl_WordGet_ev (l : List Int) (a n : Int) (hl : ∀ x ∈ l, (Lit.int .u8 x).wf = true) (hlen : l.length ≤ 1000000000000) (ha : -9223372036854775808 ≤ a ∧ a < 9223372036854775808) (hn : -9223372036854775808 ≤ n ∧ n < 9223372036854775808) :
    Ev (fun k => impl_WordGet.f k l a n) (wget l a n) := by
  unfold impl_WordGet.f wget
  simp only [impl_within_ev, Option.bind_some]
  have bad : Ev (fun k => impl_WordGet.j0 k l a n true) (0, 0, false) := Ev.step (f := fun _ => some (0, 0, false)) (fun k => by simp only [impl_WordGet.j0]; rw [if_pos trivial]) (Ev.now _)
  by_cases hn8 : 1 ≤ n ∧ n ≤ 8
  · obtain ⟨h1, h8⟩ := id hn8
    · simp only [decide_eq_true hn8, if_true]
      by_cases h2 : a < 0
      · simp only [if_pos h2]; rw [if_neg (show ¬ (1 ≤ n ∧ n ≤ 8 ∧ 0 ≤ a ∧ a + n ≤ (l.length : Int)) by omega)]; exact bad
      · simp only [if_neg h2]
        rw [wrap_id (n := (l.length : Int) - n) (by omega) (by omega)]
        by_cases h3 : a + n ≤ l.length
        · rw [if_pos (show (1 ≤ n ∧ n ≤ 8 ∧ 0 ≤ a ∧ a + n ≤ (l.length : Int)) by omega)]
          have key : ∀ (d : Nat) (i : Nat), (i : Int) + d = n → Ev (fun k => impl_WordGet.l0 k l a n (wrap64 (wnum l a i)) n i) (wrap64 (wnum l a n.toNat), a + n, true) := by
            intro d
            induction d with
            | zero =>
              intro i hd
              refine Ev.step (f := fun _ => some (wrap64 (wnum l a n.toNat), a + n, true)) (fun k => ?_) (Ev.now _)
              simp only [impl_WordGet.l0]; rw [if_neg (by omega), show n.toNat = i by omega, wrap_id (n := a + n) (by omega) (by omega)]
            | succ d ih =>
              intro i hd
              refine Ev.step (f := fun k => impl_WordGet.l0 k l a n (wrap64 (wnum l a (i + 1))) n (i + 1 : Nat)) (fun k => ?_) (ih (i + 1) (by omega))
              simp only [impl_WordGet.l0]
              have hr := rd_rng8 hl (a + i)
              rw [if_pos (by omega), wrap_id (n := a + (i : Int)) (by omega) (by omega), wrap_id (n := 8 * (i : Int)) (by omega) (by omega), if_pos (by omega), if_pos (by omega), if_pos (by omega), wrap_id (n := rd l (a + i)) (by omega) (by omega), wrap_id (n := (i : Int) + 1) (by omega) (by omega), shl64 _ _ (by omega) (by omega), show (8 * (i : Int)).toNat = 8 * i by omega]
              rw [or_add _ _ (8 * i) (wnum_rng hl a i).1 (wnum_rng hl a i).2 hr.1]
              push_cast; rfl
          refine Ev.step (f := fun k => impl_WordGet.l0 k l a n 0 n 0) (fun k => ?_) ?_
          · simp only [impl_WordGet.j0]; rw [if_neg (by simp; omega)]
          · have h := key n.toNat 0 (by omega)
            simpa [wnum, show wrap64 0 = 0 by unfold wrap64; omega] using h
        · rw [if_neg (show ¬ (1 ≤ n ∧ n ≤ 8 ∧ 0 ≤ a ∧ a + n ≤ (l.length : Int)) by omega)]
          simpa [show a > (l.length : Int) - n by omega] using bad
  · simp only [decide_eq_false hn8, Bool.false_eq_true, if_false]
    rw [if_neg (show ¬ (1 ≤ n ∧ n ≤ 8 ∧ 0 ≤ a ∧ a + n ≤ (l.length : Int)) by omega)]; exact bad

def sgn32 (x : Int) : Int := if x > 2147483647 then x - 4294967296 else x
/-- One plain value that is no Bool. -/
def pone (t : Int) (b : List Int) (a : Int) : Int × ByteArray × Int × Bool :=
  if t = 6 then
    if (wget b a 4).2.2 = true ∧ (wget b a 4).1 ≤ 40 ∧ (wget b a 4).1 ≤ (b.length : Int) - (wget b a 4).2.1 then
      (0, strOfNums ((b.take ((wget b a 4).2.1 + (wget b a 4).1).toNat).drop (wget b a 4).2.1.toNat), (wget b a 4).2.1 + (wget b a 4).1, true)
    else (0, ⟨#[]⟩, 0, false)
  else if t = 1 then (sgn32 (wget b a 4).1, ⟨#[]⟩, (wget b a 4).2.1, (wget b a 4).2.2)
  else ((wget b a 8).1, ⟨#[]⟩, (wget b a 8).2.1, (wget b a 8).2.2)
theorem wget4_rng (b : List Int) (a : Int) (hb : ∀ x ∈ b, (Lit.int .u8 x).wf = true) : 0 ≤ (wget b a 4).1 ∧ (wget b a 4).1 < 4294967296 := by
  unfold wget
  split
  · have hr := wnum_rng hb a (4 : Int).toNat
    rw [show (2 : Int) ^ (8 * (4 : Int).toNat) = 4294967296 by rfl] at hr
    simp only; rw [wrap_id (by omega) (by omega)]; exact hr
  · simp
theorem impl_plainOne_ev (t : Int) (b : List Int) (a : Int) (ht : t = 1 ∨ t = 2 ∨ t = 5 ∨ t = 6) (hb : ∀ x ∈ b, (Lit.int .u8 x).wf = true) (hlen : b.length ≤ 1000000000) (ha : -9223372036854775808 ≤ a ∧ a < 9223372036854775808) :
    Ev (fun k => impl_plainOne.f k t b a) (pone t b a) := by
  unfold impl_plainOne.f pone
  by_cases h6 : t = 6
  · simp only [if_pos h6]
    refine Ev.bind (impl_WordGet_ev b a 4 hb (by omega) ha (by decide)) ?_
    by_cases hok : (wget b a 4).2.2 = true
    · have hx := wget_ok b a 4 hb (by decide) hok
      simp only [if_pos hok]
      by_cases h40 : (wget b a 4).1 ≤ 40
      · simp only [if_neg (show ¬ (wget b a 4).1 > 40 by omega)]
        rw [wrap_id (n := (b.length : Int) - (wget b a 4).2.1) (by omega) (by omega)]
        by_cases hl : (wget b a 4).1 ≤ (b.length : Int) - (wget b a 4).2.1
        · rw [if_pos (show (wget b a 4).2.2 = true ∧ (wget b a 4).1 ≤ 40 ∧ (wget b a 4).1 ≤ (b.length : Int) - (wget b a 4).2.1 from ⟨hok, h40, hl⟩)]
          rw [wrap_id (n := (wget b a 4).2.1 + (wget b a 4).1) (by omega) (by omega)]
          simp only [if_neg (show ¬ (wget b a 4).1 > (b.length : Int) - (wget b a 4).2.1 by omega), if_pos (show 0 ≤ (wget b a 4).2.1 by omega), if_pos (show (wget b a 4).2.1 ≤ (wget b a 4).2.1 + (wget b a 4).1 by omega), if_pos (show (wget b a 4).2.1 + (wget b a 4).1 ≤ (b.length : Int) by omega)]
          exact Ev.now _
        · rw [if_neg (show ¬ ((wget b a 4).2.2 = true ∧ (wget b a 4).1 ≤ 40 ∧ (wget b a 4).1 ≤ (b.length : Int) - (wget b a 4).2.1) from fun h => hl h.2.2)]
          simp only [if_pos (show (wget b a 4).1 > (b.length : Int) - (wget b a 4).2.1 by omega)]; exact Ev.now _
      · rw [if_neg (show ¬ ((wget b a 4).2.2 = true ∧ (wget b a 4).1 ≤ 40 ∧ (wget b a 4).1 ≤ (b.length : Int) - (wget b a 4).2.1) from fun h => h40 h.2.1)]
        simp only [if_pos (show (wget b a 4).1 > 40 by omega)]; exact Ev.now _
    · simp only [if_neg hok]; rw [if_neg (show ¬ ((wget b a 4).2.2 = true ∧ (wget b a 4).1 ≤ 40 ∧ (wget b a 4).1 ≤ (b.length : Int) - (wget b a 4).2.1) from fun h => hok h.1)]; exact Ev.now _
  · simp only [if_neg h6]
    by_cases h1 : t = 1
    · have hw : impl_wideOf.f t = some 4 := by unfold impl_wideOf.f; rw [if_pos h1]
      simp only [hw, Option.bind_some, if_pos h1]
      refine Ev.bind (impl_WordGet_ev b a 4 hb (by omega) ha (by decide)) ?_
      have hr := wget4_rng b a hb
      have hs : impl_signed.f (wget b a 4).1 4 = some (sgn32 (wget b a 4).1) := by
        unfold impl_signed.f sgn32 wrap32; rw [if_pos rfl, wrap_id (by omega) (by omega)]
        congr 1; split <;> omega
      simp only [hs, Option.bind_some]; exact Ev.now _
    · have hw : impl_wideOf.f t = some 8 := by
        unfold impl_wideOf.f; rw [if_neg h1]
        by_cases h2 : t = 2
        · rw [if_pos h2]
        · rw [if_neg h2, if_pos (by omega)]
      simp only [hw, Option.bind_some, if_neg h1]
      refine Ev.bind (impl_WordGet_ev b a 8 hb (by omega) ha (by decide)) ?_
      have hs : impl_signed.f (wget b a 8).1 8 = some (wget b a 8).1 := by unfold impl_signed.f; rw [if_neg (by decide)]
      simp only [hs, Option.bind_some]; exact Ev.now _

theorem spec_WordGet_ev (l : List Int) (a n : Int) (hl : ∀ x ∈ l, (Lit.int .u8 x).wf = true) (hlen : l.length ≤ 1000000000000) (ha : -9223372036854775808 ≤ a ∧ a < 9223372036854775808) (hn : -9223372036854775808 ≤ n ∧ n < 9223372036854775808) :
    Ev (fun k => spec_WordGet.f k l a n) (wget l a n) := by
  unfold spec_WordGet.f wget
  simp only [spec_l1In_ev, Option.bind_some]
  have bad : Ev (fun k => spec_WordGet.j0 k l a n true) (0, 0, false) := Ev.step (f := fun _ => some (0, 0, false)) (fun k => by simp only [spec_WordGet.j0]; rw [if_pos trivial]) (Ev.now _)
  by_cases hn8 : 1 ≤ n ∧ n ≤ 8
  · obtain ⟨h1, h8⟩ := id hn8
    · simp only [decide_eq_true hn8, if_true]
      by_cases h2 : a < 0
      · simp only [if_pos h2]; rw [if_neg (show ¬ (1 ≤ n ∧ n ≤ 8 ∧ 0 ≤ a ∧ a + n ≤ (l.length : Int)) by omega)]; exact bad
      · simp only [if_neg h2]
        by_cases h4 : a > (l.length : Int)
        · simp only [if_pos h4]; rw [if_neg (show ¬ (1 ≤ n ∧ n ≤ 8 ∧ 0 ≤ a ∧ a + n ≤ (l.length : Int)) by omega)]; exact bad
        simp only [if_neg h4]
        rw [wrap_id (n := (l.length : Int) - a) (by omega) (by omega)]
        by_cases h3 : a + n ≤ l.length
        · rw [if_pos (show (1 ≤ n ∧ n ≤ 8 ∧ 0 ≤ a ∧ a + n ≤ (l.length : Int)) by omega)]
          have key : ∀ (d : Nat) (i : Nat), (i : Int) + d = n → Ev (fun k => spec_WordGet.l0 k l a n (wrap64 (wnum l a i)) i) (wrap64 (wnum l a n.toNat), a + n, true) := by
            intro d
            induction d with
            | zero =>
              intro i hd
              refine Ev.step (f := fun _ => some (wrap64 (wnum l a n.toNat), a + n, true)) (fun k => ?_) (Ev.now _)
              simp only [spec_WordGet.l0]; rw [if_neg (by omega), show n.toNat = i by omega, wrap_id (n := a + n) (by omega) (by omega)]
            | succ d ih =>
              intro i hd
              refine Ev.step (f := fun k => spec_WordGet.l0 k l a n (wrap64 (wnum l a (i + 1))) (i + 1 : Nat)) (fun k => ?_) (ih (i + 1) (by omega))
              simp only [spec_WordGet.l0]
              have hr := rd_rng8 hl (a + i)
              rw [if_pos (by omega), wrap_id (n := a + (i : Int)) (by omega) (by omega), wrap_id (n := 8 * (i : Int)) (by omega) (by omega), if_pos (by omega), if_pos (by omega), if_pos (by omega), wrap_id (n := rd l (a + i)) (by omega) (by omega), wrap_id (n := (i : Int) + 1) (by omega) (by omega), shl64 _ _ (by omega) (by omega), show (8 * (i : Int)).toNat = 8 * i by omega]
              rw [or_add _ _ (8 * i) (wnum_rng hl a i).1 (wnum_rng hl a i).2 hr.1]
              push_cast; rfl
          refine Ev.step (f := fun k => spec_WordGet.l0 k l a n 0 0) (fun k => ?_) ?_
          · simp only [spec_WordGet.j0]; rw [if_neg (by simp; omega)]
          · have h := key n.toNat 0 (by omega)
            simpa [wnum, show wrap64 0 = 0 by unfold wrap64; omega] using h
        · rw [if_neg (show ¬ (1 ≤ n ∧ n ≤ 8 ∧ 0 ≤ a ∧ a + n ≤ (l.length : Int)) by omega)]
          simpa [show (l.length : Int) - a < n by omega] using bad
  · simp only [decide_eq_false hn8, Bool.false_eq_true, if_false]
    rw [if_neg (show ¬ (1 ≤ n ∧ n ≤ 8 ∧ 0 ≤ a ∧ a + n ≤ (l.length : Int)) by omega)]; exact bad

theorem spec_l7One_ev (t : Int) (b : List Int) (a : Int) (ht : t = 1 ∨ t = 2 ∨ t = 5 ∨ t = 6) (hb : ∀ x ∈ b, (Lit.int .u8 x).wf = true) (hlen : b.length ≤ 1000000000) (ha : -9223372036854775808 ≤ a ∧ a < 9223372036854775808) :
    Ev (fun k => spec_l7One.f k t b a) (pone t b a) := by
  unfold spec_l7One.f pone
  by_cases h6 : t = 6
  · have h1 : ¬ t = 1 := by omega
    simp only [if_neg h1, if_pos h6]
    refine Ev.bind (spec_WordGet_ev b a 4 hb (by omega) ha (by decide)) ?_
    by_cases hok : (wget b a 4).2.2 = true
    · have hx := wget_ok b a 4 hb (by decide) hok
      simp only [if_pos hok]
      by_cases h40 : (wget b a 4).1 ≤ 40
      · simp only [if_neg (show ¬ (wget b a 4).1 > 40 by omega)]
        rw [wrap_id (n := (b.length : Int) - (wget b a 4).2.1) (by omega) (by omega)]
        by_cases hl : (wget b a 4).1 ≤ (b.length : Int) - (wget b a 4).2.1
        · rw [if_pos (show (wget b a 4).2.2 = true ∧ (wget b a 4).1 ≤ 40 ∧ (wget b a 4).1 ≤ (b.length : Int) - (wget b a 4).2.1 from ⟨hok, h40, hl⟩)]
          rw [wrap_id (n := (wget b a 4).2.1 + (wget b a 4).1) (by omega) (by omega)]
          simp only [if_neg (show ¬ (wget b a 4).1 > (b.length : Int) - (wget b a 4).2.1 by omega), if_pos (show 0 ≤ (wget b a 4).2.1 by omega), if_pos (show (wget b a 4).2.1 ≤ (wget b a 4).2.1 + (wget b a 4).1 by omega), if_pos (show (wget b a 4).2.1 + (wget b a 4).1 ≤ (b.length : Int) by omega)]
          exact Ev.now _
        · rw [if_neg (show ¬ ((wget b a 4).2.2 = true ∧ (wget b a 4).1 ≤ 40 ∧ (wget b a 4).1 ≤ (b.length : Int) - (wget b a 4).2.1) from fun h => hl h.2.2)]
          simp only [if_pos (show (wget b a 4).1 > (b.length : Int) - (wget b a 4).2.1 by omega)]; exact Ev.now _
      · rw [if_neg (show ¬ ((wget b a 4).2.2 = true ∧ (wget b a 4).1 ≤ 40 ∧ (wget b a 4).1 ≤ (b.length : Int) - (wget b a 4).2.1) from fun h => h40 h.2.1)]
        simp only [if_pos (show (wget b a 4).1 > 40 by omega)]; exact Ev.now _
    · simp only [if_neg hok]; rw [if_neg (show ¬ ((wget b a 4).2.2 = true ∧ (wget b a 4).1 ≤ 40 ∧ (wget b a 4).1 ≤ (b.length : Int) - (wget b a 4).2.1) from fun h => hok h.1)]; exact Ev.now _
  · by_cases h1 : t = 1
    · simp only [if_pos h1]; rw [if_neg h6]
      refine Ev.bind (spec_WordGet_ev b a 4 hb (by omega) ha (by decide)) ?_
      have hr := wget4_rng b a hb
      unfold sgn32
      by_cases hx : (wget b a 4).1 > 2147483647
      · simp only [if_pos hx]; rw [wrap_id (by omega) (by omega)]; exact Ev.now _
      · simp only [if_neg hx]; exact Ev.now _
    · simp only [if_neg h1, if_neg h6]
      refine Ev.bind (spec_WordGet_ev b a 8 hb (by omega) ha (by decide)) ?_
      exact Ev.now _

theorem impl_TypeOk_ev (t : Int) : impl_TypeOk.f t = some (decide (t = 0 ∨ t = 1 ∨ t = 2 ∨ t = 5 ∨ t = 6)) := by
  unfold impl_TypeOk.f
  simp only [impl_within_ev, Option.bind_some]
  by_cases h : 0 ≤ t ∧ t ≤ 2
  · simp only [decide_eq_true h, if_true]; rw [decide_eq_true (by omega)]
  · simp only [decide_eq_false h, Bool.false_eq_true, if_false]
    by_cases h5 : t = 5
    · rw [if_pos h5, decide_eq_true (by omega)]
    · rw [if_neg h5]; congr 1
      by_cases h6 : t = 6
      · subst h6; rfl
      · rw [decide_eq_false (by omega)]; simpa using h6

def prl (t : Int) (b : List Int) : Nat → Int → List S47 → List S47 × Int × Bool
  | 0, a, acc => (acc, a, true)
  | d + 1, a, acc => if (pone t b a).2.2.2 = true then prl t b d (pone t b a).2.2.1 (acc ++ [⟨(pone t b a).1, (pone t b a).2.1⟩]) else ([], 0, false)
def ofNums (l : List Int) : List S47 := l.map fun n => ⟨n, ⟨#[]⟩⟩
/-- What PlainRead answers. -/
def prd (t : Int) (b : List Int) (a many : Int) : List S47 × Int × Bool :=
  if (t = 0 ∨ t = 1 ∨ t = 2 ∨ t = 5 ∨ t = 6) ∧ (0 ≤ many ∧ many ≤ 2000) ∧ (0 ≤ a ∧ a ≤ b.length) then
    if t = 0 then (ofNums (brd b a many 1).1, (brd b a many 1).2.1, (brd b a many 1).2.2) else prl t b many.toNat a []
  else ([], 0, false)
theorem pone_next (t : Int) (b : List Int) (a : Int) (hb : ∀ x ∈ b, (Lit.int .u8 x).wf = true) (h : (pone t b a).2.2.2 = true) : 0 ≤ (pone t b a).2.2.1 ∧ (pone t b a).2.2.1 ≤ b.length := by
  have w8 : (wget b a 8).2.2 = true → 0 ≤ (wget b a 8).2.1 ∧ (wget b a 8).2.1 ≤ b.length := by
    intro h
    unfold wget at h ⊢
    by_cases hc : (1 : Int) ≤ 8 ∧ (8 : Int) ≤ 8 ∧ 0 ≤ a ∧ a + 8 ≤ b.length
    · rw [if_pos hc]; simp only; omega
    · rw [if_neg hc] at h; cases h
  unfold pone at h ⊢
  by_cases h6 : t = 6
  · rw [if_pos h6] at h ⊢
    by_cases hc : (wget b a 4).2.2 = true ∧ (wget b a 4).1 ≤ 40 ∧ (wget b a 4).1 ≤ (b.length : Int) - (wget b a 4).2.1
    · have hx := wget_ok b a 4 hb (by decide) hc.1
      rw [if_pos hc]; simp only; omega
    · rw [if_neg hc] at h; cases h
  · rw [if_neg h6] at h ⊢
    by_cases h1 : t = 1
    · rw [if_pos h1] at h ⊢
      have hx := wget_ok b a 4 hb (by decide) h
      simp only; omega
    · rw [if_neg h1] at h ⊢; exact w8 h
theorem prl_len (t : Int) (b : List Int) : ∀ (d : Nat) (a : Int) (acc : List S47), (prl t b d a acc).1.length ≤ acc.length + d := by
  intro d
  induction d with
  | zero => intro a acc; simp [prl]
  | succ d ih =>
    intro a acc
    unfold prl
    split
    · have := ih (pone t b a).2.2.1 (acc ++ [⟨(pone t b a).1, (pone t b a).2.1⟩])
      simp at this; omega
    · simp
theorem prd_len (t : Int) (b : List Int) (a many : Int) : (prd t b a many).1.length ≤ 2000 := by
  unfold prd
  split
  · rename_i h
    split
    · unfold ofNums brd
      simp only [List.length_map]
      split
      · simp [unpackB]; omega
      · simp
    · have := prl_len t b many.toNat a []
      simp at this; omega
  · simp
theorem impl_valsOf_ev (l : List Int) (hl : l.length ≤ 1000000) : Ev (fun k => impl_valsOf.f k l) (ofNums l) := by
  have key : ∀ (d i : Nat), i + d = l.length → Ev (fun k => impl_valsOf.l0 k (ofNums (l.take i)) l l.length i) (ofNums l) := by
    intro d
    induction d with
    | zero =>
      intro i hi
      refine Ev.step (f := fun _ => some (ofNums l)) (fun k => ?_) (Ev.now _)
      simp only [impl_valsOf.l0]; rw [if_neg (by omega), show i = l.length by omega, List.take_length]
    | succ d ih =>
      intro i hi
      refine Ev.step (fun k => ?_) (ih (i + 1) (by omega))
      simp only [impl_valsOf.l0]
      rw [if_pos (by omega), if_pos (by omega), if_pos (by omega), if_pos (by simp [ofNums]; omega), wrap_id (n := (i : Int) + 1) (by omega) (by omega), List.take_succ_eq_append_getElem (by omega), rd_eq l i (by omega)]
      have e : ∀ x, ofNums (l.take i ++ [x]) = ofNums (l.take i) ++ [⟨x, ⟨#[]⟩⟩] := fun x => by unfold ofNums; rw [List.map_append]; rfl
      rw [e]; push_cast; rfl
  have h := key l.length 0 (by omega)
  unfold impl_valsOf.f
  simpa [ofNums] using h
theorem impl_PlainRead_l (t : Int) (b : List Int) (many : Nat) (ht : t = 1 ∨ t = 2 ∨ t = 5 ∨ t = 6) (hb : ∀ x ∈ b, (Lit.int .u8 x).wf = true) (hlen : b.length ≤ 1000000000) (hm : many ≤ 2000) :
    ∀ (d i : Nat) (a : Int) (acc : List S47), i + d = many → acc.length = i → 0 ≤ a → a ≤ b.length → Ev (fun k => impl_PlainRead.l0 k t b a acc many i) (prl t b d a acc) := by
  intro d
  induction d with
  | zero =>
    intro i a acc hi hacc h0 h1
    refine Ev.step (f := fun _ => some (acc, a, true)) (fun k => ?_) (Ev.now _)
    simp only [impl_PlainRead.l0]; rw [if_neg (by omega)]
  | succ d ih =>
    intro i a acc hi hacc h0 h1
    unfold prl
    refine Ev.step (fun k => by simp only [impl_PlainRead.l0]; rw [if_pos (show (i : Int) < many by omega)]) ?_
    refine Ev.bind (impl_plainOne_ev t b a ht hb hlen (by omega)) ?_
    by_cases hok : (pone t b a).2.2.2 = true
    · have hx := pone_next t b a hb hok
      rw [if_pos hok]
      simp only [if_pos hok, if_pos (show acc.length < 5864062014805 by omega)]
      rw [wrap_id (n := (i : Int) + 1) (by omega) (by omega)]
      exact ih (i + 1) _ _ (by omega) (by simp; omega) hx.1 hx.2
    · rw [if_neg hok]
      simp only [if_neg hok]; exact Ev.now _
theorem impl_PlainRead_ev (t : Int) (b : List Int) (a many : Int) (hb : ∀ x ∈ b, (Lit.int .u8 x).wf = true) (hlen : b.length ≤ 1000000000) : Ev (fun k => impl_PlainRead.f k t b a many) (prd t b a many) := by
  have bad : Ev (fun k => impl_PlainRead.j0 k t b a many true) ([], 0, false) := Ev.step (f := fun _ => some ([], 0, false)) (fun k => by simp only [impl_PlainRead.j0]; rw [if_pos trivial]) (Ev.now _)
  unfold impl_PlainRead.f prd
  simp only [impl_TypeOk_ev, impl_within_ev, Option.bind_some]
  by_cases h1 : t = 0 ∨ t = 1 ∨ t = 2 ∨ t = 5 ∨ t = 6
  · simp only [decide_eq_true h1, if_true]
    by_cases h2 : 0 ≤ many ∧ many ≤ 2000
    · simp only [decide_eq_true h2, if_true]
      by_cases h3 : 0 ≤ a ∧ a ≤ (b.length : Int)
      · simp only [decide_eq_true h3, Bool.not_true]
        rw [if_pos ⟨h1, h2, h3⟩]
        by_cases ht0 : t = 0
        · rw [if_pos ht0]
          refine Ev.step (fun k => by simp only [impl_PlainRead.j0]; rw [if_neg (by simp), if_pos ht0]) ?_
          refine Ev.bind (impl_BitsRead_ev b a many 1 hb (by omega) (by omega)) ?_
          have hl : (brd b a many 1).1.length ≤ 1000000 := by
            unfold brd
            split
            · simp [unpackB]; omega
            · simp
          refine Ev.bind (impl_valsOf_ev _ hl) ?_
          exact Ev.now _
        · rw [if_neg ht0]
          refine Ev.step (fun k => by simp only [impl_PlainRead.j0]; rw [if_neg (by simp), if_neg ht0]) ?_
          have h := impl_PlainRead_l t b many.toNat (by omega) hb hlen (by omega) many.toNat 0 a [] (by omega) rfl h3.1 h3.2
          rw [Int.toNat_of_nonneg h2.1] at h
          exact h
      · simp only [decide_eq_false h3, Bool.not_false]; rw [if_neg (fun h => h3 h.2.2)]; exact bad
    · simp only [decide_eq_false h2, Bool.false_eq_true, if_false]; rw [if_neg (fun h => h2 h.2.1)]; exact bad
  · simp only [decide_eq_false h1, Bool.false_eq_true, if_false]; rw [if_neg (fun h => h1 h.1)]; exact bad

theorem spec_PlainRead_l (t : Int) (b : List Int) (many : Nat) (ht : t = 1 ∨ t = 2 ∨ t = 5 ∨ t = 6) (hb : ∀ x ∈ b, (Lit.int .u8 x).wf = true) (hlen : b.length ≤ 1000000000) (hm : many ≤ 2000) :
    ∀ (d i : Nat) (a : Int) (acc : List S47), i + d = many → acc.length = i → 0 ≤ a → a ≤ b.length → Ev (fun k => spec_PlainRead.l1 k t b a many acc i) (prl t b d a acc) := by
  intro d
  induction d with
  | zero =>
    intro i a acc hi hacc h0 h1
    refine Ev.step (f := fun _ => some (acc, a, true)) (fun k => ?_) (Ev.now _)
    simp only [spec_PlainRead.l1]; rw [if_neg (by omega)]
  | succ d ih =>
    intro i a acc hi hacc h0 h1
    unfold prl
    refine Ev.step (fun k => by simp only [spec_PlainRead.l1]; rw [if_pos (show (i : Int) < many by omega)]) ?_
    refine Ev.bind (spec_l7One_ev t b a ht hb hlen (by omega)) ?_
    by_cases hok : (pone t b a).2.2.2 = true
    · have hx := pone_next t b a hb hok
      rw [if_pos hok]
      simp only [if_pos hok, if_pos (show acc.length < 5864062014805 by omega)]
      rw [wrap_id (n := (i : Int) + 1) (by omega) (by omega)]
      exact ih (i + 1) _ _ (by omega) (by simp; omega) hx.1 hx.2
    · rw [if_neg hok]
      simp only [if_neg hok]; exact Ev.now _
theorem spec_PlainRead_ev (t : Int) (b : List Int) (a many : Int) (hb : ∀ x ∈ b, (Lit.int .u8 x).wf = true) (hlen : b.length ≤ 1000000000) : Ev (fun k => spec_PlainRead.f k t b a many) (prd t b a many) := by
  have bad : Ev (fun k => spec_PlainRead.j0 k t b a many [] true) ([], 0, false) := Ev.step (f := fun _ => some ([], 0, false)) (fun k => by simp only [spec_PlainRead.j0]; rw [if_pos trivial]) (Ev.now _)
  unfold spec_PlainRead.f prd
  simp only [spec_l5Type_ev, spec_l1In_ev, Option.bind_some]
  by_cases h1 : t = 0 ∨ t = 1 ∨ t = 2 ∨ t = 5 ∨ t = 6
  · simp only [decide_eq_true h1, if_true]
    by_cases h2 : 0 ≤ many ∧ many ≤ 2000
    · simp only [decide_eq_true h2, if_true]
      by_cases h3 : 0 ≤ a ∧ a ≤ (b.length : Int)
      · simp only [decide_eq_true h3, Bool.not_true]
        rw [if_pos ⟨h1, h2, h3⟩]
        by_cases ht0 : t = 0
        · rw [if_pos ht0]
          refine Ev.step (fun k => by simp only [spec_PlainRead.j0]; rw [if_neg (by simp), if_pos ht0]) ?_
          refine Ev.bind (spec_BitsRead_ev b a many 1 hb (by omega) (by omega)) ?_
          have hl : (brd b a many 1).1.length ≤ 1000000 := by
            unfold brd
            split
            · simp [unpackB]; omega
            · simp
          generalize brd b a many 1 = R at hl
          obtain ⟨l, p, ok⟩ := R
          have hl : l.length ≤ 1000000 := hl
          have key : ∀ (d i : Nat), i + d = l.length → Ev (fun k => spec_PlainRead.l0 k (ofNums (l.take i)) l p ok i) (ofNums l, p, ok) := by
            intro d
            induction d with
            | zero =>
              intro i hi
              refine Ev.step (f := fun _ => some (ofNums l, p, ok)) (fun k => ?_) (Ev.now _)
              simp only [spec_PlainRead.l0]; rw [if_neg (by omega), show i = l.length by omega, List.take_length]
            | succ d ih =>
              intro i hi
              refine Ev.step (fun k => ?_) (ih (i + 1) (by omega))
              simp only [spec_PlainRead.l0]
              rw [if_pos (by omega), if_pos (by omega), if_pos (by simp [ofNums]; omega), wrap_id (n := (i : Int) + 1) (by omega) (by omega), List.take_succ_eq_append_getElem (by omega), rd_eq l i (by omega)]
              have e : ∀ x, ofNums (l.take i ++ [x]) = ofNums (l.take i) ++ [⟨x, ⟨#[]⟩⟩] := fun x => by unfold ofNums; rw [List.map_append]; rfl
              rw [e]; push_cast; rfl
          have h := key l.length 0 (by omega)
          simpa [ofNums] using h
        · rw [if_neg ht0]
          refine Ev.step (fun k => by simp only [spec_PlainRead.j0]; rw [if_neg (by simp), if_neg ht0]) ?_
          have h := spec_PlainRead_l t b many.toNat (by omega) hb hlen (by omega) many.toNat 0 a [] (by omega) rfl h3.1 h3.2
          rw [Int.toNat_of_nonneg h2.1] at h
          exact h
      · simp only [decide_eq_false h3, Bool.not_false]; rw [if_neg (fun h => h3 h.2.2)]; exact bad
    · simp only [decide_eq_false h2, Bool.false_eq_true, if_false]; rw [if_neg (fun h => h2 h.2.1)]; exact bad
  · simp only [decide_eq_false h1, Bool.false_eq_true, if_false]; rw [if_neg (fun h => h1 h.1)]; exact bad

theorem FnExactPlainRead : laws_FnExactPlainRead.Pure := by
  intro ty l a n hty hlen hsz hl ha hn
  obtain ⟨tx, htx⟩ := markText_ev
  refine Ev.rounds (g := fun k => laws_FnExactPlainRead.f k ty l a n) ?_
  unfold laws_FnExactPlainRead.f
  by_cases hbig : (l.length : Int) > 1048576
  · simp only [if_pos hbig]; exact Ev.now _
  simp only [if_neg hbig]
  have e1 := spec_PlainRead_ev ty l a n hl (by omega)
  have e2 := impl_PlainRead_ev ty l a n hl (by omega)
  have hln : (prd ty l a n).1.length ≤ 1000000000000 := by have := prd_len ty l a n; omega
  generalize prd ty l a n = r at e1 e2 hln
  obtain ⟨b, nx, ok⟩ := r
  have hlen' : b.length ≤ 1000000000000 := hln
  refine Ev.bind (toByteS_ev l (by omega)) ?_
  refine Ev.bind e1 ?_
  refine Ev.bind (toByteS_ev l (by omega)) ?_
  refine Ev.bind e2 ?_
  refine Ev.bind (eqValS_self _ (by omega)) ?_
  simp only [if_true, bne_self_eq_false]
  refine Ev.step (fun k => by simp only [laws_FnExactPlainRead.j0]; rw [if_neg (by simp)]) ?_
  refine Ev.bind (toByteS_ev l (by omega)) ?_
  refine Ev.bind (eqByteS_self l (by omega)) ?_
  simp only [if_true]
  refine Ev.bind (markByteS_ev l 1 (by omega) (by omega) (by omega)) ?_
  simp only [if_neg (show ¬ (1 + (l.length : Int) < 0) by omega)]
  refine Ev.bind (eqValS_self _ (by omega)) ?_
  simp only [if_true, bne_self_eq_false]
  refine Ev.step (fun k => by simp only [laws_FnExactPlainRead.j1]; rw [if_neg (by simp)]) ?_
  refine Ev.bind (markValS_ev tx htx _ 1 (by omega) (by omega) hlen') ?_
  refine Ev.bind (heldValS_ev tx htx _ 1 (by omega) (by omega) hlen') ?_
  simp only [if_neg (show ¬ (1 + 2 * (b.length : Int) < 0) by omega), if_true]
  refine Ev.bind (toByteS_ev l (by omega)) ?_
  refine Ev.bind e2 ?_
  refine Ev.bind (eqValS_self _ (by omega)) ?_
  simp only [if_true, bne_self_eq_false]
  refine Ev.step (fun k => by simp only [laws_FnExactPlainRead.j2]; rw [if_neg (by simp)]) ?_
  refine Ev.bind (heldValS_ev tx htx _ 1 (by omega) (by omega) hlen') ?_
  simp only [if_neg (show ¬ (1 + 2 * (b.length : Int) < 0) by omega), if_true]
  exact Ev.now _

end Go.Proofs.Ytbiibjbhgeenoaa.Pure
