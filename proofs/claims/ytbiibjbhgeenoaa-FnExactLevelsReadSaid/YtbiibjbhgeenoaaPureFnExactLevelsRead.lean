/- LevelsRead answers as the reference does, for all bytes and all ints. -/
import Derived.Test.YtbiibjbhgeenoaaPFnExactLevelsReadx9
import Derived.Test.YtbiibjbhgeenoaaCom
namespace Go.Proofs.Ytbiibjbhgeenoaa.Pure
open Go Go.RowKit Go.Proofs.Ytbiibjbhgeenoaa.PFnExactLevelsRead Go.Proofs.YtbiibjbhgeenoaaW.PrintWords Go.Proofs.YtbiibjbhgeenoaaW.PrintLast Go.Proofs.YtbiibjbhgeenoaaW.PrintMore Go.Proofs.Ytbiibjbhgeenoaa.Com
set_option linter.unusedVariables false
set_option linter.unusedSimpArgs false

theorem toByteS_ev (a : List Int) (hn : a.length ≤ 1000000000000) : Ev (fun k => laws_toByteS.f k a) a := by
  have key : ∀ (d : Nat) (i : Nat) (r : List Int), r.length = d → i + d = a.length → Ev (fun k => laws_toByteS.l0 k a (a.take i ++ r) i) a := by
    intro d
    induction d with
    | zero =>
      intro i r hr hd
      obtain rfl : r = [] := List.length_eq_zero_iff.1 hr
      refine Ev.step (f := fun _ => some a) (fun k => ?_) (Ev.now _)
      simp only [laws_toByteS.l0]; rw [if_neg (by omega)]
      rw [show i = a.length by omega]; simp
    | succ d ih =>
      intro i r hr hd
      refine Ev.step (f := fun k => laws_toByteS.l0 k a (a.take (i + 1) ++ r.tail) (i + 1 : Nat)) (fun k => ?_) (ih (i + 1) r.tail (by simp [hr]) (by omega))
      simp only [laws_toByteS.l0]; rw [if_pos (by omega), if_pos (by omega), if_pos (by simp; omega), wrap_id (by omega) (by omega)]
      rw [set_mid _ _ _ _ (by simp; omega) (by omega), rd_eq' _ _ (by omega) (by simp; omega)]
      rw [List.take_succ_eq_append_getElem (by omega)]; simp
  have h := key a.length 0 (List.replicate a.length 0) (by simp) (by omega)
  unfold laws_toByteS.f
  simp only [if_pos (show (0:Int) ≤ a.length by omega), if_pos (show ((a.length : Int)).toNat ≤ 281474976710656 by omega)]
  simpa using h

theorem eqByteS_self (a : List Int) (hn : a.length ≤ 1000000000000000000) : Ev (fun k => laws_eqByteS.f k a a) true := by
  have key : ∀ (d : Nat) (i : Int), 0 ≤ i → i ≤ a.length → (a.length : Int) - i = d → Ev (fun k => laws_eqByteS.l0 k a a i) true := by
    intro d
    induction d with
    | zero =>
      intro i h0 h1 hd
      refine Ev.step (f := fun _ => some true) (fun k => ?_) (Ev.now _)
      simp only [laws_eqByteS.l0]; rw [if_neg (by omega)]
    | succ d ih =>
      intro i h0 h1 hd
      refine Ev.step (f := fun k => laws_eqByteS.l0 k a a (i + 1)) (fun k => ?_) (ih (i + 1) (by omega) (by omega) (by omega))
      simp only [laws_eqByteS.l0]; rw [if_pos (by omega), if_pos h0, if_pos (by omega), if_pos trivial, wrap_id (by omega) (by omega)]
  have h := key a.length 0 (by omega) (by omega) (by omega)
  unfold laws_eqByteS.f
  simpa using h

theorem eqIntS_self (a : List Int) (hn : a.length ≤ 1000000000000000000) : Ev (fun k => laws_eqIntS.f k a a) true := by
  have key : ∀ (d : Nat) (i : Int), 0 ≤ i → i ≤ a.length → (a.length : Int) - i = d → Ev (fun k => laws_eqIntS.l0 k a a i) true := by
    intro d
    induction d with
    | zero =>
      intro i h0 h1 hd
      refine Ev.step (f := fun _ => some true) (fun k => ?_) (Ev.now _)
      simp only [laws_eqIntS.l0]; rw [if_neg (by omega)]
    | succ d ih =>
      intro i h0 h1 hd
      refine Ev.step (f := fun k => laws_eqIntS.l0 k a a (i + 1)) (fun k => ?_) (ih (i + 1) (by omega) (by omega) (by omega))
      simp only [laws_eqIntS.l0]; rw [if_pos (by omega), if_pos h0, if_pos (by omega), if_pos trivial, wrap_id (by omega) (by omega)]
  have h := key a.length 0 (by omega) (by omega) (by omega)
  unfold laws_eqIntS.f
  simpa using h

theorem markByteS_ev (a : List Int) (m : Int) (h0 : 0 ≤ m) (hm : m ≤ 1000000000000000000) (hn : a.length ≤ 1000000000000000000) :
    Ev (fun k => laws_markByteS.f k a m) (m + a.length, mk8 a.length m) := by
  have key : ∀ (d : Nat) (i : Nat) (r : List Int), r.length = d → i + d = a.length → Ev (fun k => laws_markByteS.l0 k (mk8 i m ++ r) (m + i) i) (m + a.length, mk8 a.length m) := by
    intro d
    induction d with
    | zero =>
      intro i r hr hd
      obtain rfl : r = [] := List.length_eq_zero_iff.1 hr
      refine Ev.step (f := fun _ => some (m + a.length, mk8 a.length m)) (fun k => ?_) (Ev.now _)
      simp only [laws_markByteS.l0]; rw [if_neg (by simp [mk8_len])]
      rw [show i = a.length by omega]; simp
    | succ d ih =>
      intro i r hr hd
      refine Ev.step (f := fun k => laws_markByteS.l0 k (mk8 (i + 1) m ++ r.tail) (m + (i + 1 : Nat)) (i + 1 : Nat)) (fun k => ?_) (ih (i + 1) r.tail (by simp [hr]) (by omega))
      simp only [laws_markByteS.l0]; rw [if_pos (by simp [mk8_len]; omega), if_pos (by omega), wrap_id (by omega) (by omega), wrap_id (by omega) (by omega)]
      rw [set_mid _ _ _ _ (by simp [mk8_len]) (by omega), mk8_succ]; push_cast; rw [Int.add_assoc]
  have h := key a.length 0 a rfl (by omega)
  unfold laws_markByteS.f
  simpa [mk8] using h

theorem markIntS_ev (a : List Int) (m : Int) (h0 : 0 ≤ m) (hm : m ≤ 1000000000000000000) (hn : a.length ≤ 1000000000000000000) :
    Ev (fun k => laws_markIntS.f k a m) (m + a.length, mk64 a.length m) := by
  have key : ∀ (d : Nat) (i : Nat) (r : List Int), r.length = d → i + d = a.length → Ev (fun k => laws_markIntS.l0 k (mk64 i m ++ r) (m + i) i) (m + a.length, mk64 a.length m) := by
    intro d
    induction d with
    | zero =>
      intro i r hr hd
      obtain rfl : r = [] := List.length_eq_zero_iff.1 hr
      refine Ev.step (f := fun _ => some (m + a.length, mk64 a.length m)) (fun k => ?_) (Ev.now _)
      simp only [laws_markIntS.l0]; rw [if_neg (by simp [mk64_len])]
      rw [show i = a.length by omega]; simp
    | succ d ih =>
      intro i r hr hd
      refine Ev.step (f := fun k => laws_markIntS.l0 k (mk64 (i + 1) m ++ r.tail) (m + (i + 1 : Nat)) (i + 1 : Nat)) (fun k => ?_) (ih (i + 1) r.tail (by simp [hr]) (by omega))
      simp only [laws_markIntS.l0]; rw [if_pos (by simp [mk64_len]; omega), if_pos (by omega), wrap_id (by omega) (by omega), wrap_id (by omega) (by omega)]
      rw [set_mid _ _ _ _ (by simp [mk64_len]) (by omega), mk64_succ]; push_cast; rw [Int.add_assoc]
  have h := key a.length 0 a rfl (by omega)
  unfold laws_markIntS.f
  simpa [mk64] using h

theorem heldIntS_ev (n : Nat) (m : Int) (h0 : 0 ≤ m) (hm : m ≤ 1000000000000000000) (hn : n ≤ 1000000000000000000) :
    Ev (fun k => laws_heldIntS.f k (mk64 n m) m) (m + n) := by
  have key : ∀ (d : Nat) (i : Nat), i + d = n → Ev (fun k => laws_heldIntS.l0 k (mk64 n m) (m + i) i) (m + n) := by
    intro d
    induction d with
    | zero =>
      intro i hd
      refine Ev.step (f := fun _ => some (m + n)) (fun k => ?_) (Ev.now _)
      simp only [laws_heldIntS.l0]; rw [if_neg (by simp [mk64_len]; omega)]
      rw [show i = n by omega]
    | succ d ih =>
      intro i hd
      refine Ev.step (f := fun k => laws_heldIntS.l0 k (mk64 n m) (m + (i + 1 : Nat)) (i + 1 : Nat)) (fun k => ?_) (ih (i + 1) (by omega))
      simp only [laws_heldIntS.l0]; rw [if_pos (by simp [mk64_len]; omega), if_pos (by omega), if_pos (by rw [rd_mk64 _ _ _ (by omega) (by omega)]), wrap_id (by omega) (by omega), wrap_id (by omega) (by omega)]
      push_cast; rw [Int.add_assoc]
  have h := key n 0 (by omega)
  unfold laws_heldIntS.f
  simpa using h

theorem spec_l1In_ev (x a b : Int) : spec_l1In.f x a b = some (decide (a ≤ x ∧ x ≤ b)) := by
  unfold spec_l1In.f
  by_cases h : x ≥ a
  · rw [if_pos h]; congr 1; simp [show a ≤ x from h]
  · rw [if_neg h]; congr 1; simp [show ¬ a ≤ x from h]

theorem impl_within_ev (x a b : Int) : impl_within.f x a b = some (decide (a ≤ x ∧ x ≤ b)) := by
  unfold impl_within.f
  by_cases h : x ≥ a
  · rw [if_pos h]; congr 1; simp [show a ≤ x from h]
  · rw [if_neg h]; congr 1; simp [show ¬ a ≤ x from h]

theorem impl_UvarGet_l (b : List Int) (a : Int) (hb : ∀ x ∈ b, (Lit.int .u8 x).wf = true) (hl : b.length ≤ 1000000000000) (ha0 : 0 ≤ a) (ha : a < 9223372036854775808) :
    ∀ (d i : Nat) (acc : Int), i + d = 10 → 0 ≤ acc → acc < 2 ^ (7 * i) →
    Ev (fun k => impl_UvarGet.l0 k b a acc i) (ugetOf acc (a + i) ((ugl d (b.drop (a + i).toNat)).map fun p => (p.1 * 2 ^ (7 * i), p.2))) := by
  have fail : ∀ acc i, Ev (fun k => impl_UvarGet.j1 k b a acc i false) (0, 0, false) := fun acc i => Ev.step (f := fun _ => some (0, 0, false)) (fun k => by simp only [impl_UvarGet.j1]; rw [if_neg (by simp)]) (Ev.now _)
  intro d
  induction d with
  | zero =>
    intro i acc hi h0 h1
    rw [ugl_zero]
    refine Ev.step (f := fun k => impl_UvarGet.j1 k b a acc i false) (fun k => ?_) (fail acc i)
    simp only [impl_UvarGet.l0]; rw [if_neg (by omega)]
  | succ d ih =>
    intro i acc hi h0 h1
    refine Ev.step (f := fun k => impl_UvarGet.j1 k b a acc i (decide ((i : Int) < b.length - a))) (fun k => ?_) ?_
    · simp only [impl_UvarGet.l0]; rw [if_pos (by omega), wrap_id (by omega) (by omega)]
    by_cases hlt : (i : Int) < b.length - a
    · have hr := rd_rng8 hb (a + i)
      rw [decide_eq_true hlt, drop_rd b (a + i) (by omega) (by omega), ugl_cons]
      have hp : (0 : Int) < 2 ^ (7 * i) := Int.pow_pos (by decide)
      refine Ev.step (f := fun k => impl_UvarGet.j2 k b a acc i (rd b (a + i)) (decide (i = 9 ∧ rd b (a + i) > 1))) (fun k => ?_) ?_
      · simp only [impl_UvarGet.j1]
        rw [if_pos trivial, wrap_id (n := a + (i : Int)) (by omega) (by omega), if_pos (by omega), if_pos (by omega)]
        by_cases h9 : i = 9
        · subst h9; simp
        · rw [if_neg (by omega)]; simp [h9]
      by_cases hbad : i = 9 ∧ rd b (a + i) > 1
      · rw [decide_eq_true hbad, if_pos ⟨by omega, hbad.2⟩]
        exact Ev.step (f := fun _ => some (0, 0, false)) (fun k => by simp only [impl_UvarGet.j2]; rw [if_pos trivial]) (Ev.now _)
      · rw [decide_eq_false hbad, if_neg (by omega)]
        have hsum : acc + rd b (a + i) % 128 * 2 ^ (7 * i) < 18446744073709551616 ∧ (i ≤ 8 → acc + rd b (a + i) % 128 * 2 ^ (7 * i) < 2 ^ (7 * (i + 1))) := by
          have hm : 0 ≤ rd b (a + i) % 128 ∧ rd b (a + i) % 128 ≤ 127 := by omega
          generalize hc : rd b (a + i) % 128 = c at hm ⊢
          have hle : c * 2 ^ (7 * i) ≤ 127 * 2 ^ (7 * i) := Int.mul_le_mul_of_nonneg_right hm.2 (by omega)
          by_cases h9 : i = 9
          · subst h9
            have hc1 : c ≤ 1 := by omega
            have : c * 2 ^ (7 * 9) ≤ 1 * 2 ^ (7 * 9) := Int.mul_le_mul_of_nonneg_right hc1 (by omega)
            refine ⟨?_, fun h => by omega⟩
            have e : (2 : Int) ^ (7 * 9) = 9223372036854775808 := by rfl
            omega
          · have hpw : (2 : Int) ^ (7 * (i + 1)) ≤ 9223372036854775808 := by
              have : (2 : Nat) ^ (7 * (i + 1)) ≤ 2 ^ 63 := Nat.pow_le_pow_right (by decide) (by omega)
              have h2 : ((2 ^ (7 * (i + 1)) : Nat) : Int) ≤ ((2 ^ 63 : Nat) : Int) := by exact_mod_cast this
              simpa using h2
            have e : (2 : Int) ^ (7 * (i + 1)) = 128 * 2 ^ (7 * i) := by rw [show 7 * (i + 1) = 7 * i + 7 by omega, Int.pow_add]; omega
            constructor
            · omega
            · intro _; omega
        have ebits : Go.bits .or .u64 acc (shl .u64 (IntKind.u64.wrap (Go.bits .and .u8 (rd b (a + i)) 127)) (7 * (i : Int))) = acc + rd b (a + i) % 128 * 2 ^ (7 * i) := by
          rw [and127 _ hr.1 hr.2, uwrap_id (by omega) (by omega), shlu _ _ (by omega) (by omega), show (7 * (i : Int)).toNat = 7 * i by omega]
          have h2 : 0 ≤ rd b (a + i) % 128 * 2 ^ (7 * i) := Int.mul_nonneg (by omega) (by omega)
          rw [Int.emod_eq_of_lt h2 (by omega)]
          exact or_addu _ _ _ h0 h1 (by omega) hsum.1
        by_cases hc : rd b (a + i) < 128
        · rw [if_pos hc]
          refine Ev.step (f := fun _ => some (wrap64 (acc + rd b (a + i) * 2 ^ (7 * i)), a + i + 1, true)) (fun k => ?_) (Ev.now _)
          simp only [impl_UvarGet.j2]
          rw [if_neg (by simp), wrap_id (n := 7 * (i : Int)) (by omega) (by omega), if_pos (by omega), if_pos hc, ebits, wrap_id (n := a + (i : Int)) (by omega) (by omega), wrap_id (n := a + (i : Int) + 1) (by omega) (by omega)]
          rw [show rd b (a + i) % 128 = rd b (a + i) by omega]
        · rw [if_neg hc]
          have hi8 : i ≤ 8 := by omega
          have h := ih (i + 1) (acc + rd b (a + i) % 128 * 2 ^ (7 * i)) (by omega) (by have := Int.mul_nonneg (show 0 ≤ rd b (a + i) % 128 by omega) (show (0:Int) ≤ 2 ^ (7 * i) by omega); omega) (hsum.2 hi8)
          have egoal : ugetOf acc (a + i) (((ugl d (b.drop (a + i + 1).toNat)).map fun p => (rd b (a + i) - 128 + 128 * p.1, p.2 + 1)).map fun p => (p.1 * 2 ^ (7 * i), p.2))
              = ugetOf (acc + rd b (a + i) % 128 * 2 ^ (7 * i)) (a + ((i + 1 : Nat) : Int)) ((ugl d (b.drop (a + ((i + 1 : Nat) : Int)).toNat)).map fun p => (p.1 * 2 ^ (7 * (i + 1)), p.2)) := by
            rw [show a + ((i + 1 : Nat) : Int) = a + i + 1 by push_cast; omega]
            cases ugl d (b.drop (a + i + 1).toNat) with
            | none => rfl
            | some p =>
              simp only [Option.map_some, ugetOf]
              rw [show rd b (a + i) % 128 = rd b (a + i) - 128 by omega, show 7 * (i + 1) = 7 + 7 * i by omega, Int.pow_add]
              refine congr (congrArg Prod.mk (congrArg wrap64 ?_)) (congrArg (fun z => (z, true)) (by omega))
              generalize (2 : Int) ^ (7 * i) = q
              rw [show ((2 : Int) ^ 7) = 128 by rfl, Int.add_mul, ← Int.mul_assoc, Int.mul_comm 128 p.1]; omega
          rw [egoal]
          refine Ev.step (fun k => ?_) h
          simp only [impl_UvarGet.j2]
          rw [if_neg (by simp), wrap_id (n := 7 * (i : Int)) (by omega) (by omega), if_pos (by omega), if_neg hc, ebits, wrap_id (n := (i : Int) + 1) (by omega) (by omega)]
          push_cast; rfl
    · rw [decide_eq_false hlt, List.drop_eq_nil_of_le (by omega), ugl_nil]
      exact fail acc i
theorem impl_UvarGet_ev (b : List Int) (a : Int) (hb : ∀ x ∈ b, (Lit.int .u8 x).wf = true) (hl : b.length ≤ 1000000000000) (ha : a < 9223372036854775808) :
    Ev (fun k => impl_UvarGet.f k b a) (uget b a) := by
  unfold impl_UvarGet.f uget
  by_cases h0 : a < 0
  · simp only [if_pos h0]; exact Ev.now _
  · simp only [if_neg h0]
    have h := impl_UvarGet_l b a hb hl (by omega) ha 10 0 0 (by omega) (by omega) (by simp)
    simpa using h

theorem impl_WordGet_ev (l : List Int) (a n : Int) (hl : ∀ x ∈ l, (Lit.int .u8 x).wf = true) (hlen : l.length ≤ 1000000000000) (ha : -9223372036854775808 ≤ a ∧ a < 9223372036854775808) (hn : -9223372036854775808 ≤ n ∧ n < 9223372036854775808) :
    Ev (fun k => impl_WordGet.f k l a n) (wget l a n) := by
  unfold impl_WordGet.f wget
  simp only [impl_within_ev, Option.bind_some]
  have bad : Ev (fun k => impl_WordGet.j0 k l a n true) (0, 0, false) := Ev.step (f := fun _ => some (0, 0, false)) (fun k => by simp only [impl_WordGet.j0]; rw [if_pos trivial]) (Ev.now _)
  by_cases hn8 : 1 ≤ n ∧ n ≤ 8
  · obtain ⟨h1, h8⟩ := id hn8
    · simp only [decide_eq_true hn8, if_true]
      by_cases h2 : a < 0
      · simp only [if_pos h2]; rw [if_neg (show ¬ (1 ≤ n ∧ n ≤ 8 ∧ 0 ≤ a ∧ a + n ≤ (l.length : Int)) by omega)]; exact bad
      · simp only [if_neg h2]
        rw [wrap_id (n := (l.length : Int) - n) (by omega) (by omega)]
        by_cases h3 : a + n ≤ l.length
        · rw [if_pos (show (1 ≤ n ∧ n ≤ 8 ∧ 0 ≤ a ∧ a + n ≤ (l.length : Int)) by omega)]
          have key : ∀ (d : Nat) (i : Nat), (i : Int) + d = n → Ev (fun k => impl_WordGet.l0 k l a n (wrap64 (wnum l a i)) n i) (wrap64 (wnum l a n.toNat), a + n, true) := by
            intro d
            induction d with
            | zero =>
              intro i hd
              refine Ev.step (f := fun _ => some (wrap64 (wnum l a n.toNat), a + n, true)) (fun k => ?_) (Ev.now _)
              simp only [impl_WordGet.l0]; rw [if_neg (by omega), show n.toNat = i by omega, wrap_id (n := a + n) (by omega) (by omega)]
            | succ d ih =>
              intro i hd
              refine Ev.step (f := fun k => impl_WordGet.l0 k l a n (wrap64 (wnum l a (i + 1))) n (i + 1 : Nat)) (fun k => ?_) (ih (i + 1) (by omega))
              simp only [impl_WordGet.l0]
              have hr := rd_rng8 hl (a + i)
              rw [if_pos (by omega), wrap_id (n := a + (i : Int)) (by omega) (by omega), wrap_id (n := 8 * (i : Int)) (by omega) (by omega), if_pos (by omega), if_pos (by omega), if_pos (by omega), wrap_id (n := rd l (a + i)) (by omega) (by omega), wrap_id (n := (i : Int) + 1) (by omega) (by omega), shl64 _ _ (by omega) (by omega), show (8 * (i : Int)).toNat = 8 * i by omega]
              rw [or_add _ _ (8 * i) (wnum_rng hl a i).1 (wnum_rng hl a i).2 hr.1]
              push_cast; rfl
          refine Ev.step (f := fun k => impl_WordGet.l0 k l a n 0 n 0) (fun k => ?_) ?_
          · simp only [impl_WordGet.j0]; rw [if_neg (by simp; omega)]
          · have h := key n.toNat 0 (by omega)
            simpa [wnum, show wrap64 0 = 0 by unfold wrap64; omega] using h
        · rw [if_neg (show ¬ (1 ≤ n ∧ n ≤ 8 ∧ 0 ≤ a ∧ a + n ≤ (l.length : Int)) by omega)]
          simpa [show a > (l.length : Int) - n by omega] using bad
  · simp only [decide_eq_false hn8, Bool.false_eq_true, if_false]
    rw [if_neg (show ¬ (1 ≤ n ∧ n ≤ 8 ∧ 0 ≤ a ∧ a + n ≤ (l.length : Int)) by omega)]; exact bad

theorem impl_BitsSize_ev (n w : Int) : impl_BitsSize.f n w = some (if 0 ≤ n ∧ n ≤ 2000 ∧ 0 ≤ w ∧ w ≤ 62 then (n * w + 7) / 8 else -1) := by
  unfold impl_BitsSize.f
  simp only [impl_within_ev, Option.bind_some]
  by_cases h1 : 0 ≤ n ∧ n ≤ 2000
  · simp only [decide_eq_true h1, if_true]
    by_cases h2 : 0 ≤ w ∧ w ≤ 62
    · simp only [decide_eq_true h2, if_true]
      have hm0 : 0 ≤ n * w := Int.mul_nonneg h1.1 h2.1
      have hm : n * w ≤ 2000 * 62 := Int.mul_le_mul h1.2 h2.2 h2.1 (by omega)
      rw [if_pos ⟨h1.1, h1.2, h2.1, h2.2⟩, wrap_id (n := n * w) (by omega) (by omega), wrap_id (n := n * w + 7) (by omega) (by omega), Int.tdiv_eq_ediv_of_nonneg (by omega), wrap_id (by omega) (by omega)]
    · simp only [decide_eq_false h2, Bool.false_eq_true, if_false]
      rw [if_neg (fun h => h2 h.2.2)]
  · simp only [decide_eq_false h1, Bool.false_eq_true, if_false]
    rw [if_neg (fun h => h1 ⟨h.1, h.2.1⟩)]

theorem len8_ev (i : Int) (h0 : 0 ≤ i) (h : i < 256) : bt (⟨#[0, 1, 2, 2, 3, 3, 3, 3, 4, 4, 4, 4, 4, 4, 4, 4, 5, 5, 5, 5, 5, 5, 5, 5, 5, 5, 5, 5, 5, 5, 5, 5, 6, 6, 6, 6, 6, 6, 6, 6, 6, 6, 6, 6, 6, 6, 6, 6, 6, 6, 6, 6, 6, 6, 6, 6, 6, 6, 6, 6, 6, 6, 6, 6, 7, 7, 7, 7, 7, 7, 7, 7, 7, 7, 7, 7, 7, 7, 7, 7, 7, 7, 7, 7, 7, 7, 7, 7, 7, 7, 7, 7, 7, 7, 7, 7, 7, 7, 7, 7, 7, 7, 7, 7, 7, 7, 7, 7, 7, 7, 7, 7, 7, 7, 7, 7, 7, 7, 7, 7, 7, 7, 7, 7, 7, 7, 7, 7, 8, 8, 8, 8, 8, 8, 8, 8, 8, 8, 8, 8, 8, 8, 8, 8, 8, 8, 8, 8, 8, 8, 8, 8, 8, 8, 8, 8, 8, 8, 8, 8, 8, 8, 8, 8, 8, 8, 8, 8, 8, 8, 8, 8, 8, 8, 8, 8, 8, 8, 8, 8, 8, 8, 8, 8, 8, 8, 8, 8, 8, 8, 8, 8, 8, 8, 8, 8, 8, 8, 8, 8, 8, 8, 8, 8, 8, 8, 8, 8, 8, 8, 8, 8, 8, 8, 8, 8, 8, 8, 8, 8, 8, 8, 8, 8, 8, 8, 8, 8, 8, 8, 8, 8, 8, 8, 8, 8, 8, 8, 8, 8, 8, 8, 8, 8, 8, 8, 8, 8, 8, 8, 8, 8, 8, 8, 8, 8]⟩ : ByteArray) i = blen i.toNat := by
  have e : ∀ j : Nat, j < 256 → bt (⟨#[0, 1, 2, 2, 3, 3, 3, 3, 4, 4, 4, 4, 4, 4, 4, 4, 5, 5, 5, 5, 5, 5, 5, 5, 5, 5, 5, 5, 5, 5, 5, 5, 6, 6, 6, 6, 6, 6, 6, 6, 6, 6, 6, 6, 6, 6, 6, 6, 6, 6, 6, 6, 6, 6, 6, 6, 6, 6, 6, 6, 6, 6, 6, 6, 7, 7, 7, 7, 7, 7, 7, 7, 7, 7, 7, 7, 7, 7, 7, 7, 7, 7, 7, 7, 7, 7, 7, 7, 7, 7, 7, 7, 7, 7, 7, 7, 7, 7, 7, 7, 7, 7, 7, 7, 7, 7, 7, 7, 7, 7, 7, 7, 7, 7, 7, 7, 7, 7, 7, 7, 7, 7, 7, 7, 7, 7, 7, 7, 8, 8, 8, 8, 8, 8, 8, 8, 8, 8, 8, 8, 8, 8, 8, 8, 8, 8, 8, 8, 8, 8, 8, 8, 8, 8, 8, 8, 8, 8, 8, 8, 8, 8, 8, 8, 8, 8, 8, 8, 8, 8, 8, 8, 8, 8, 8, 8, 8, 8, 8, 8, 8, 8, 8, 8, 8, 8, 8, 8, 8, 8, 8, 8, 8, 8, 8, 8, 8, 8, 8, 8, 8, 8, 8, 8, 8, 8, 8, 8, 8, 8, 8, 8, 8, 8, 8, 8, 8, 8, 8, 8, 8, 8, 8, 8, 8, 8, 8, 8, 8, 8, 8, 8, 8, 8, 8, 8, 8, 8, 8, 8, 8, 8, 8, 8, 8, 8, 8, 8, 8, 8, 8, 8, 8, 8, 8, 8]⟩ : ByteArray) (j : Int) = blen j := by decide +kernel
  have := e i.toNat (by omega)
  rwa [Int.toNat_of_nonneg h0] at this
set_option maxRecDepth 100000 in
theorem bits_Len64_j (n : Nat) (b : Int) (hb : 0 ≤ b) (hb2 : b ≤ 100) (hn : n < 4294967296) : Ev (fun k => bits_Len64.j0 k n b) (b + blen n) := by
  refine Ev.step (f := fun _ => some (b + blen n)) (fun k => ?_) (Ev.now _)
  have h8 : ∀ m : Nat, m < 256 → (blen m : Int) ≤ 8 := fun m hm => by have := (blen_le m 8).2 hm; omega
  rw [bits_Len64.j0]
  by_cases h1 : n < 65536
  · rw [if_neg (by omega)]
    by_cases h2 : n < 256
    · rw [if_neg (by omega), if_pos (by omega), if_pos (by omega), show ((n : Int) % 256) = n by omega, len8_ev _ (by omega) (by omega), show ((n : Int)).toNat = n by omega]
      have := h8 n h2
      rw [wrap_id (n := (blen n : Int)) (by omega) (by omega), wrap_id (by omega) (by omega)]
    · have e := blen_div n 8 (by omega)
      have hlt : n / 2 ^ 8 < 256 := by omega
      rw [if_pos (by omega), if_pos (by omega), if_pos (by omega), len8_ev _ (by omega) (by omega), show ((n : Int) / 256 % 256).toNat = n / 2 ^ 8 by omega]
      have := h8 _ hlt
      rw [wrap_id (n := (blen (n / 2 ^ 8) : Int)) (by omega) (by omega), wrap_id (n := b + 8) (by omega) (by omega), wrap_id (by omega) (by omega), e]
      congr 1; push_cast; omega
  · rw [if_pos (by omega)]
    by_cases h2 : n / 65536 < 256
    · have e := blen_div n 16 (by omega)
      rw [if_neg (by omega), if_pos (by omega), if_pos (by omega), len8_ev _ (by omega) (by omega), show ((n : Int) / 65536 % 256).toNat = n / 2 ^ 16 by omega]
      have := h8 (n / 2 ^ 16) (by omega)
      rw [wrap_id (n := (blen (n / 2 ^ 16) : Int)) (by omega) (by omega), wrap_id (n := b + 16) (by omega) (by omega), wrap_id (by omega) (by omega), e]
      congr 1; push_cast; omega
    · have e := blen_div n 24 (by omega)
      rw [if_pos (by omega), if_pos (by omega), if_pos (by omega), len8_ev _ (by omega) (by omega), show ((n : Int) / 65536 / 256 % 256).toNat = n / 2 ^ 24 by omega]
      have := h8 (n / 2 ^ 24) (by omega)
      rw [wrap_id (n := (blen (n / 2 ^ 24) : Int)) (by omega) (by omega), wrap_id (n := b + 16) (by omega) (by omega), wrap_id (n := b + 16 + 8) (by omega) (by omega), wrap_id (by omega) (by omega), e]
      congr 1; push_cast; omega
theorem bits_Len64_ev (n : Nat) (h : n < 18446744073709551616) : Ev (fun k => bits_Len64.f k n) (blen n) := by
  unfold bits_Len64.f
  by_cases h1 : n < 4294967296
  · refine Ev.congr (fun k => if_neg (show ¬ (n : Int) ≥ 4294967296 by omega)) ?_
    have := bits_Len64_j n 0 (by omega) (by omega) h1
    rw [Int.zero_add] at this; exact this
  · refine Ev.congr (fun k => if_pos (show (n : Int) ≥ 4294967296 by omega)) ?_
    have e := blen_div n 32 (by omega)
    have := bits_Len64_j (n / 4294967296) 32 (by omega) (by omega) (by omega)
    rw [e, show n / 2 ^ 32 = n / 4294967296 by rfl]
    rw [show ((blen (n / 4294967296) + 32 : Nat) : Int) = 32 + (blen (n / 4294967296) : Int) by omega]
    rw [show ((n / 4294967296 : Nat) : Int) = (n : Int) / 4294967296 by omega] at this
    exact this
theorem impl_widthOf_ev (n : Int) (h0 : 0 ≤ n) (h : n < 9223372036854775808) : Ev (fun k => impl_widthOf.f k n) (blen n.toNat) := by
  unfold impl_widthOf.f
  rw [uwrap_id h0 (by omega)]
  have := bits_Len64_ev n.toNat (by omega)
  rw [Int.toNat_of_nonneg h0] at this
  refine Ev.bind this ?_
  exact Ev.now _

theorem impl_BitAt_ev (l : List Int) (k : Int) (hl : ∀ x ∈ l, (Lit.int .u8 x).wf = true) (h0 : -9223372036854775808 ≤ k) (h1 : k < 9223372036854775808) :
    impl_BitAt.f l k = some (if 0 ≤ k ∧ k / 8 < l.length then bitAt l k else -1) := by
  unfold impl_BitAt.f
  by_cases hk : k < 0
  · rw [if_pos hk, if_neg (by omega)]
  · have e : wrap64 (Int.tdiv k 8) = k / 8 := by rw [Int.tdiv_eq_ediv_of_nonneg (by omega), wrap_id (by omega) (by omega)]
    have e2 : Int.tmod k 8 = k % 8 := Int.tmod_eq_emod_of_nonneg (by omega)
    rw [if_neg hk, e, e2]
    by_cases hb : k / 8 ≥ (l.length : Int)
    · rw [if_pos hb, if_neg (by omega)]
    · rw [if_neg hb, if_pos (by omega), if_pos (by omega), if_pos (by omega), if_pos (by omega)]
      have hr := rd_rng8 hl (k / 8)
      unfold bitAt shr
      rw [show min (k % 8).toNat IntKind.u8.bits = (k % 8).toNat by simp [IntKind.bits]; omega]
      have hp : (0 : Int) < 2 ^ (k % 8).toNat := Int.pow_pos (by decide)
      have hd0 : 0 ≤ rd l (k / 8) / 2 ^ (k % 8).toNat := Int.ediv_nonneg hr.1 (by omega)
      have hd1 : rd l (k / 8) / 2 ^ (k % 8).toNat ≤ rd l (k / 8) := Int.ediv_le_self _ hr.1
      have hm := bits_mask .u8 8 (by decide) wraps_u8 1 (by decide) (rd l (k / 8) / 2 ^ (k % 8).toNat) hd0 (by omega)
      rw [show (2 : Int) ^ 1 - 1 = 1 by rfl] at hm
      rw [hm, wrap_id (by omega) (by omega)]; rfl

theorem impl_unpacked_ev (b : List Int) (a : Int) (many w : Nat) (hb : ∀ x ∈ b, (Lit.int .u8 x).wf = true) (hlen : b.length ≤ 1000000000000) (ha : 0 ≤ a) (hm : many ≤ 1000000) (hw : w ≤ 63) (hfit : 8 * a + many * w ≤ 8 * b.length) :
    Ev (fun k => impl_unpacked.f k b a many w) (unpackB b a many w) := by
  have inner : ∀ (d i j : Nat) (acc : List Int), i < many → j + d = w → acc.length ≤ 1000000 →
      ∀ R : List Int, Ev (fun k => impl_unpacked.l0 k b a w (acc ++ [wrap64 (unum b (8 * a + i * w) w)]) many ((i + 1 : Nat) : Int)) R →
      Ev (fun k => impl_unpacked.l1 k b a w acc i (wrap64 (unum b (8 * a + i * w) j)) many i w j) R := by
    intro d
    induction d with
    | zero =>
      intro i j acc hi hj hacc R h
      refine Ev.step (fun k => ?_) h
      simp only [impl_unpacked.l1]
      rw [if_neg (by omega), if_pos (by omega), wrap_id (n := (i : Int) + 1) (by omega) (by omega), show j = w by omega]
      push_cast; rfl
    | succ d ih =>
      intro i j acc hi hj hacc R h
      have hc : ((i * w : Nat) : Int) = (i : Int) * w := by push_cast; rfl
      have hle : (i + 1) * w ≤ many * w := Nat.mul_le_mul_right w hi
      rw [Nat.succ_mul] at hle
      have hmc : ((many * w : Nat) : Int) = (many : Int) * w := by push_cast; rfl
      rw [← hmc] at hfit
      refine Ev.step (fun k => ?_) (ih i (j + 1) acc hi (by omega) hacc R h)
      simp only [impl_unpacked.l1]
      rw [if_pos (by omega), wrap_id (n := 8 * a) (by omega) (by omega), ← hc, wrap_id (n := ((i * w : Nat) : Int)) (by omega) (by omega), wrap_id (n := 8 * a + ((i * w : Nat) : Int)) (by omega) (by omega), wrap_id (n := 8 * a + ((i * w : Nat) : Int) + j) (by omega) (by omega)]
      rw [impl_BitAt_ev b _ hb (by omega) (by omega), if_pos (by omega)]
      simp only [Option.bind_some]
      have hbit : 0 ≤ bitAt b (8 * a + ((i * w : Nat) : Int) + j) := by unfold bitAt; omega
      rw [if_pos (by omega), wrap_id (n := (j : Int) + 1) (by omega) (by omega), shl64 _ _ (by omega) (by omega), show (j : Int).toNat = j by omega]
      rw [or_add _ _ j (unum_rng _ _ _).1 (unum_rng _ _ _).2 hbit]
      push_cast; rfl
  have outer : ∀ (d i : Nat), i + d = many → Ev (fun k => impl_unpacked.l0 k b a w (unpackB b a i w) many i) (unpackB b a many w) := by
    intro d
    induction d with
    | zero =>
      intro i hi
      refine Ev.step (f := fun _ => some (unpackB b a many w)) (fun k => ?_) (Ev.now _)
      simp only [impl_unpacked.l0]; rw [if_neg (by omega), show i = many by omega]
    | succ d ih =>
      intro i hi
      have h := ih (i + 1) (by omega)
      have e : unpackB b a (i + 1) w = unpackB b a i w ++ [wrap64 (unum b (8 * a + i * w) w)] := by unfold unpackB; rw [List.range_succ]; simp
      rw [e] at h
      refine Ev.step (fun k => ?_) (inner w i 0 _ (by omega) (by omega) (by simp [unpackB]; omega) _ h)
      simp only [impl_unpacked.l0]; rw [if_pos (by omega)]
      simp [unum, show wrap64 0 = 0 by unfold wrap64; omega]
  have h := outer many 0 (by omega)
  unfold impl_unpacked.f
  simpa [unpackB] using h

theorem impl_runNumber_ev (b : List Int) (a : Int) (w : Nat) (hb : ∀ x ∈ b, (Lit.int .u8 x).wf = true) (hlen : b.length ≤ 1000000000) (hw : w ≤ 24) (ha : 0 ≤ a) (hal : a ≤ b.length) :
    Ev (fun k => impl_runNumber.f k b a w) (runNum b a w) := by
  unfold impl_runNumber.f runNum
  by_cases h0 : w = 0
  · simp only [if_pos (show (w : Int) = 0 by omega), if_pos h0]; exact Ev.now _
  · simp only [if_neg (show ¬ (w : Int) = 0 by omega), if_neg h0, impl_BitsSize_ev, Option.bind_some]
    rw [if_pos (by omega), show ((1 : Int) * w + 7) / 8 = (((w + 7) / 8 : Nat) : Int) by omega]
    refine Ev.bind (impl_WordGet_ev b a _ hb (by omega) (by omega) (by omega)) ?_
    by_cases hok : (wget b a ((w + 7) / 8 : Nat)).2.2 = true
    · have hx := wget_ok b a _ hb (by omega) hok
      simp only [if_pos hok]
      refine Ev.bind (impl_widthOf_ev _ hx.1 hx.2.1) ?_
      by_cases hl : blen (wget b a ((w + 7) / 8 : Nat)).1.toNat ≤ w
      · rw [if_pos (show (wget b a ((w + 7) / 8 : Nat)).2.2 = true ∧ blen (wget b a ((w + 7) / 8 : Nat)).1.toNat ≤ w from ⟨hok, hl⟩)]
        simp only [if_neg (show ¬ ((blen (wget b a ((w + 7) / 8 : Nat)).1.toNat : Nat) : Int) > w by omega)]; exact Ev.now _
      · rw [if_neg (show ¬ ((wget b a ((w + 7) / 8 : Nat)).2.2 = true ∧ blen (wget b a ((w + 7) / 8 : Nat)).1.toNat ≤ w) from fun h => hl h.2)]
        simp only [if_pos (show ((blen (wget b a ((w + 7) / 8 : Nat)).1.toNat : Nat) : Int) > w by omega)]; exact Ev.now _
    · simp only [if_neg hok]; rw [if_neg (show ¬ ((wget b a ((w + 7) / 8 : Nat)).2.2 = true ∧ blen (wget b a ((w + 7) / 8 : Nat)).1.toNat ≤ w) from fun h => hok h.1)]; exact Ev.now _
theorem mn_nat (a b : Nat) : mn (a : Int) (b : Int) = ((min a b : Nat) : Int) := by
  unfold mn; split <;> omega
theorem impl_RunRead_l (b : List Int) (many w : Nat) (hb : ∀ x ∈ b, (Lit.int .u8 x).wf = true) (hlen : b.length ≤ 1000000000) (hm : many ≤ 2000) (hw : w ≤ 24) :
    ∀ (f : Nat) (a : Int) (acc : List Int), 0 ≤ a → a ≤ b.length → (b.length : Int) - a < f → acc.length ≤ many → Ev (fun k => impl_RunRead.l0 k b a many w acc) (runs b many w f a acc) := by
  have inner : ∀ (d j m : Nat) (x nx : Int) (acc : List Int) (R : List Int × Int × Bool), j + d = m → m ≤ 2000 → acc.length + d ≤ 2000 →
      Ev (fun k => impl_RunRead.l0 k b nx many w (acc ++ List.replicate d x)) R → Ev (fun k => impl_RunRead.l1 k b many w acc x nx m j) R := by
    intro d
    induction d with
    | zero =>
      intro j m x nx acc R hj hm2 hacc h
      simp only [List.replicate_zero, List.append_nil] at h
      refine Ev.step (fun k => ?_) h
      simp only [impl_RunRead.l1]; rw [if_neg (by omega)]
    | succ d ih =>
      intro j m x nx acc R hj hm2 hacc h
      have h2 := ih (j + 1) m x nx (acc ++ [x]) R (by omega) hm2 (by simp; omega) (by rw [List.append_assoc]; simpa [List.replicate_succ] using h)
      refine Ev.step (fun k => ?_) h2
      simp only [impl_RunRead.l1]; rw [if_pos (by omega), if_pos (by omega), wrap_id (n := (j : Int) + 1) (by omega) (by omega)]; push_cast; rfl
  intro f
  induction f with
  | zero => intro a acc h0 h1 hf; omega
  | succ f ih =>
    intro a acc h0 h1 hf hacc
    rw [runs_succ]
    by_cases hlt : acc.length < many
    · rw [if_pos hlt]
      have hur := uget_rng b a
      refine Ev.step (fun k => by simp only [impl_RunRead.l0]; rw [if_pos (show (acc.length : Int) < many by omega)]) ?_
      refine Ev.bind (impl_UvarGet_ev b a hb (by omega) (by omega)) ?_
      by_cases hok : (uget b a).2.2 = true
      · have hu := uget_ok b a hok
        simp only [if_pos hok, and_one]
        have hcnt : wrap64 (IntKind.u64.wrap (uget b a).1 / 2) = ((ux (uget b a).1 / 2 : Nat) : Int) := by
          rw [uwrap, wrap_id (by omega) (by omega)]; unfold ux; omega
        have hcb : ux (uget b a).1 / 2 < 9223372036854775808 := by have := ux_lt (uget b a).1; omega
        rw [hcnt, wrap_id (n := (many : Int) - (acc.length : Int)) (by omega) (by omega), show (many : Int) - (acc.length : Int) = ((many - acc.length : Nat) : Int) by omega, mn_nat]
        by_cases he : (uget b a).1 % 2 = 0
        · simp only [if_pos he]
          refine Ev.bind (impl_runNumber_ev b _ w hb hlen hw (by omega) hu.2.2) ?_
          by_cases hn : (runNum b (uget b a).2.1 w).2.2 = true
          · have hno := runNum_ok b _ w hb hw (by omega) hu.2.2 hn
            simp only [if_pos hn]
            exact inner _ 0 _ _ _ acc _ (by omega) (by omega) (by omega) (ih _ _ (by omega) (by omega) (by omega) (by simp; omega))
          · simp only [if_neg hn]; exact Ev.now _
        · simp only [if_neg he]
          by_cases hbig : 2000 < ux (uget b a).1 / 2
          · simp only [if_pos (show ((ux (uget b a).1 / 2 : Nat) : Int) > 2000 by omega)]
            rw [if_pos (Or.inl hbig)]; exact Ev.now _
          · simp only [if_neg (show ¬ ((ux (uget b a).1 / 2 : Nat) : Int) > 2000 by omega)]
            have hmul : ux (uget b a).1 / 2 * w ≤ 2000 * 24 := Nat.mul_le_mul (by omega) hw
            rw [show ((ux (uget b a).1 / 2 : Nat) : Int) * (w : Int) = ((ux (uget b a).1 / 2 * w : Nat) : Int) by push_cast; rfl, wrap_id (n := ((ux (uget b a).1 / 2 * w : Nat) : Int)) (by omega) (by omega), wrap_id (n := (b.length : Int) - (uget b a).2.1) (by omega) (by omega)]
            by_cases hfit : (b.length : Int) - (uget b a).2.1 < (ux (uget b a).1 / 2 * w : Nat)
            · simp only [if_pos (show ((ux (uget b a).1 / 2 * w : Nat) : Int) > (b.length : Int) - (uget b a).2.1 by omega)]
              rw [if_pos (Or.inr hfit)]; exact Ev.now _
            · simp only [if_neg (show ¬ ((ux (uget b a).1 / 2 * w : Nat) : Int) > (b.length : Int) - (uget b a).2.1 by omega)]
              rw [if_neg (fun h => h.elim hbig hfit)]
              rw [wrap_id (n := 8 * ((ux (uget b a).1 / 2 : Nat) : Int)) (by omega) (by omega), show 8 * ((ux (uget b a).1 / 2 : Nat) : Int) = ((8 * (ux (uget b a).1 / 2) : Nat) : Int) by omega, mn_nat, wrap_id (n := (uget b a).2.1 + ((ux (uget b a).1 / 2 * w : Nat) : Int)) (by omega) (by omega)]
              have hle : min (8 * (ux (uget b a).1 / 2)) (many - acc.length) * w ≤ 8 * (ux (uget b a).1 / 2) * w := Nat.mul_le_mul_right w (Nat.min_le_left _ _)
              have hfits : 8 * (uget b a).2.1 + ((min (8 * (ux (uget b a).1 / 2)) (many - acc.length) : Nat) : Int) * (w : Int) ≤ 8 * (b.length : Int) := by
                have e : ((min (8 * (ux (uget b a).1 / 2)) (many - acc.length) : Nat) : Int) * (w : Int) = ((min (8 * (ux (uget b a).1 / 2)) (many - acc.length) * w : Nat) : Int) := (Int.natCast_mul _ _).symm
                rw [e]; rw [Nat.mul_assoc] at hle; omega
              refine Ev.bind (impl_unpacked_ev b _ _ w hb (by omega) (by omega) (by omega) (by omega) hfits) ?_
              simp only [if_pos (show acc.length + (unpackB b (uget b a).2.1 (min (8 * (ux (uget b a).1 / 2)) (many - acc.length)) w).length < 17592186044416 by simp [unpackB]; omega)]
              exact ih _ _ (by omega) (by omega) (by omega) (by simp [unpackB]; omega)
      · simp only [if_neg hok]; exact Ev.now _
    · rw [if_neg hlt]
      refine Ev.step (f := fun _ => some (acc, a, true)) (fun k => ?_) (Ev.now _)
      simp only [impl_RunRead.l0]; rw [if_neg (by omega)]
/-- What RunRead answers. -/
def rrd (b : List Int) (a many w : Int) : List Int × Int × Bool := if (0 ≤ w ∧ w ≤ 24) ∧ (0 ≤ many ∧ many ≤ 2000) ∧ (0 ≤ a ∧ a ≤ b.length) then runs b many.toNat w.toNat (b.length + 1) a [] else ([], 0, false)
theorem impl_RunRead_ev (b : List Int) (a many w : Int) (hb : ∀ x ∈ b, (Lit.int .u8 x).wf = true) (hlen : b.length ≤ 1000000000) : Ev (fun k => impl_RunRead.f k b a many w) (rrd b a many w) := by
  have bad : Ev (fun k => impl_RunRead.j0 k b a many w true) ([], 0, false) := Ev.step (f := fun _ => some ([], 0, false)) (fun k => by simp only [impl_RunRead.j0]; rw [if_pos trivial]) (Ev.now _)
  unfold impl_RunRead.f rrd
  simp only [impl_within_ev, Option.bind_some]
  by_cases h1 : 0 ≤ w ∧ w ≤ 24
  · simp only [decide_eq_true h1, if_true]
    by_cases h2 : 0 ≤ many ∧ many ≤ 2000
    · simp only [decide_eq_true h2, if_true]
      by_cases h3 : 0 ≤ a ∧ a ≤ (b.length : Int)
      · simp only [decide_eq_true h3, Bool.not_true]
        rw [if_pos ⟨h1, h2, h3⟩]
        obtain ⟨m, rfl⟩ := Int.eq_ofNat_of_zero_le h2.1
        obtain ⟨v, rfl⟩ := Int.eq_ofNat_of_zero_le h1.1
        refine Ev.step (fun k => by simp only [impl_RunRead.j0]; rw [if_neg (by simp)]) ?_
        exact impl_RunRead_l b m v hb hlen (by omega) (by omega) (b.length + 1) a [] h3.1 h3.2 (by omega) (by simp)
      · simp only [decide_eq_false h3, Bool.not_false]; rw [if_neg (fun h => h3 h.2.2)]; exact bad
    · simp only [decide_eq_false h2, Bool.false_eq_true, if_false]; rw [if_neg (fun h => h2 h.2.1)]; exact bad
  · simp only [decide_eq_false h1, Bool.false_eq_true, if_false]; rw [if_neg (fun h => h1 h.1)]; exact bad

theorem runs_len (b : List Int) (many w : Nat) : ∀ (f : Nat) (a : Int) (acc : List Int), acc.length ≤ many → (runs b many w f a acc).1.length ≤ many := by
  intro f
  induction f with
  | zero => intro a acc h; simp [runs]
  | succ f ih =>
    intro a acc h
    rw [runs_succ]
    split
    · split
      · split
        · split
          · exact ih _ _ (by simp; omega)
          · simp
        · split
          · simp
          · exact ih _ _ (by simp [unpackB]; omega)
      · simp
    · exact h
theorem rrd_len (b : List Int) (a many w : Int) : (rrd b a many w).1.length ≤ 2000 := by
  unfold rrd
  split
  · rename_i h
    have := runs_len b many.toNat w.toNat (b.length + 1) a [] (by simp)
    omega
  · simp

/-- What BitsWidth answers. -/
def bw (m : Int) : Int := if m < 0 then -1 else if blen m.toNat > 62 then -1 else blen m.toNat
theorem impl_BitsWidth_ev (m : Int) (h1 : m < 9223372036854775808) : Ev (fun k => impl_BitsWidth.f k m) (bw m) := by
  unfold impl_BitsWidth.f bw
  by_cases h : m < 0
  · simp only [if_pos h]; exact Ev.now _
  · simp only [if_neg h]
    refine Ev.bind (impl_widthOf_ev m (by omega) h1) ?_
    by_cases h2 : blen m.toNat > 62
    · simp only [if_pos h2, if_pos (show (blen m.toNat : Int) > 62 by omega)]; exact Ev.now _
    · simp only [if_neg h2, if_neg (show ¬ (blen m.toNat : Int) > 62 by omega)]
      refine Ev.bind (impl_widthOf_ev m (by omega) h1) ?_
      exact Ev.now _

/-- What LevelsRead answers. -/
def lrd (b : List Int) (a many m : Int) : List Int × Int × Bool :=
  if (0 ≤ m ∧ m ≤ 255) ∧ (0 ≤ many ∧ many ≤ 2000) ∧ (0 ≤ a ∧ a ≤ b.length) then
    if m = 0 then (List.replicate many.toNat 0, a, true)
    else if (wget b a 4).2.2 = true ∧ (wget b a 4).1 ≤ (b.length : Int) - (wget b a 4).2.1 then
      if (rrd ((b.take ((wget b a 4).2.1 + (wget b a 4).1).toNat).drop (wget b a 4).2.1.toNat) 0 many (bw m)).2.2 = true ∧ ∀ x ∈ (rrd ((b.take ((wget b a 4).2.1 + (wget b a 4).1).toNat).drop (wget b a 4).2.1.toNat) 0 many (bw m)).1, x ≤ m then
        ((rrd ((b.take ((wget b a 4).2.1 + (wget b a 4).1).toNat).drop (wget b a 4).2.1.toNat) 0 many (bw m)).1, (wget b a 4).2.1 + (wget b a 4).1, true)
      else ([], 0, false)
    else ([], 0, false)
  else ([], 0, false)
theorem impl_LevelsRead_l (m sz nx : Int) (r : List Int) (hr : r.length ≤ 2000) (h0 : 0 ≤ nx + sz) (h1 : nx + sz < 9223372036854775808) :
    Ev (fun k => impl_LevelsRead.l0 k m sz nx r r r.length 0) (if ∀ x ∈ r, x ≤ m then (r, nx + sz, true) else ([], 0, false)) := by
  have key : ∀ (d i : Nat), i + d = r.length → (∀ x ∈ r.take i, x ≤ m) → Ev (fun k => impl_LevelsRead.l0 k m sz nx r r r.length i) (if ∀ x ∈ r, x ≤ m then (r, nx + sz, true) else ([], 0, false)) := by
    intro d
    induction d with
    | zero =>
      intro i hi hf
      rw [show i = r.length by omega, List.take_length] at hf
      rw [if_pos hf]
      refine Ev.step (f := fun _ => some (r, nx + sz, true)) (fun k => ?_) (Ev.now _)
      simp only [impl_LevelsRead.l0]; rw [if_neg (by omega), wrap_id (by omega) (by omega)]
    | succ d ih =>
      intro i hi hf
      have hm : rd r i = r[i] := rd_eq r i (by omega)
      by_cases hx : r[i] > m
      · rw [if_neg (fun h => by have := h _ (List.getElem_mem (show i < r.length by omega)); omega)]
        refine Ev.step (f := fun _ => some ([], 0, false)) (fun k => ?_) (Ev.now _)
        simp only [impl_LevelsRead.l0]; rw [if_pos (by omega), if_pos (by omega), if_pos (by omega), hm, if_pos hx]
      · have h := ih (i + 1) (by omega) (by
          intro x hx2
          rw [List.take_succ_eq_append_getElem (by omega)] at hx2
          rcases List.mem_append.1 hx2 with h | h
          · exact hf x h
          · rw [List.mem_singleton] at h; subst h; omega)
        refine Ev.step (fun k => ?_) h
        simp only [impl_LevelsRead.l0]; rw [if_pos (by omega), if_pos (by omega), if_pos (by omega), hm, if_neg hx, wrap_id (n := (i : Int) + 1) (by omega) (by omega)]; push_cast; rfl
  exact key r.length 0 (by omega) (by simp)
theorem impl_LevelsRead_ev (b : List Int) (a many m : Int) (hb : ∀ x ∈ b, (Lit.int .u8 x).wf = true) (hlen : b.length ≤ 1000000000) : Ev (fun k => impl_LevelsRead.f k b a many m) (lrd b a many m) := by
  have bad : Ev (fun k => impl_LevelsRead.j0 k b a many m true) ([], 0, false) := Ev.step (f := fun _ => some ([], 0, false)) (fun k => by simp only [impl_LevelsRead.j0]; rw [if_pos trivial]) (Ev.now _)
  unfold impl_LevelsRead.f lrd
  simp only [impl_within_ev, Option.bind_some]
  by_cases h1 : 0 ≤ m ∧ m ≤ 255
  · simp only [decide_eq_true h1, if_true]
    by_cases h2 : 0 ≤ many ∧ many ≤ 2000
    · simp only [decide_eq_true h2, if_true]
      by_cases h3 : 0 ≤ a ∧ a ≤ (b.length : Int)
      · simp only [decide_eq_true h3, Bool.not_true]
        rw [if_pos ⟨h1, h2, h3⟩]
        by_cases hm0 : m = 0
        · rw [if_pos hm0]
          refine Ev.step (f := fun _ => some (List.replicate many.toNat 0, a, true)) (fun k => ?_) (Ev.now _)
          simp only [impl_LevelsRead.j0]; rw [if_neg (by simp), if_pos hm0, if_pos h2.1, if_pos (by omega)]
        · rw [if_neg hm0]
          refine Ev.step (fun k => by simp only [impl_LevelsRead.j0]; rw [if_neg (by simp), if_neg hm0]) ?_
          refine Ev.bind (impl_WordGet_ev b a 4 hb (by omega) (by omega) (by decide)) ?_
          have badj : ∀ s n, Ev (fun k => impl_LevelsRead.j1 k b many m s n true) ([], 0, false) := fun s n => Ev.step (f := fun _ => some ([], 0, false)) (fun k => by simp only [impl_LevelsRead.j1]; rw [if_pos trivial]) (Ev.now _)
          by_cases hg : (wget b a 4).2.2 = true
          · have hx := wget_ok b a 4 hb (by decide) hg
            simp only [if_pos hg]
            rw [wrap_id (n := (b.length : Int) - (wget b a 4).2.1) (by omega) (by omega)]
            generalize hsz : (wget b a 4).1 = sz at hx ⊢
            generalize hnx : (wget b a 4).2.1 = nx at hx ⊢
            by_cases hl : sz ≤ (b.length : Int) - nx
            · rw [decide_eq_false (show ¬ sz > (b.length : Int) - nx by omega), if_pos ⟨hg, hl⟩]
              refine Ev.step (fun k => by simp only [impl_LevelsRead.j1]; rw [if_neg (by simp), wrap_id (n := nx + sz) (by omega) (by omega), if_pos (show 0 ≤ nx by omega), if_pos (show nx ≤ nx + sz by omega), if_pos (show nx + sz ≤ (b.length : Int) by omega)]) ?_
              refine Ev.bind (impl_BitsWidth_ev m (by omega)) ?_
              have wsub : ∀ x ∈ (b.take (nx + sz).toNat).drop nx.toNat, (Lit.int .u8 x).wf = true := fun x hx => hb x (List.mem_of_mem_take (List.mem_of_mem_drop hx))
              refine Ev.bind (impl_RunRead_ev _ 0 many (bw m) wsub (by rw [List.length_drop, List.length_take]; omega)) ?_
              have hrl := rrd_len ((b.take (nx + sz).toNat).drop nx.toNat) 0 many (bw m)
              generalize rrd ((b.take (nx + sz).toNat).drop nx.toNat) 0 many (bw m) = R at hrl
              obtain ⟨r, p, ok⟩ := R
              cases ok with
              | true =>
                simp only [if_true]
                have h := impl_LevelsRead_l m sz nx r hrl (by omega) (by omega)
                by_cases hall : ∀ x ∈ r, x ≤ m
                · rw [if_pos hall] at h; rw [if_pos ⟨trivial, hall⟩]; exact h
                · rw [if_neg hall] at h; rw [if_neg (fun h => hall h.2)]; exact h
              | false =>
                simp only [Bool.false_eq_true, if_false]
                rw [if_neg (fun h => h.1)]; exact Ev.now _
            · rw [decide_eq_true (show sz > (b.length : Int) - nx by omega), if_neg (fun h => hl h.2)]; exact badj _ _
          · simp only [if_neg hg]; rw [if_neg (fun h => hg h.1)]; exact badj _ _
      · simp only [decide_eq_false h3, Bool.not_false]; rw [if_neg (fun h => h3 h.2.2)]; exact bad
    · simp only [decide_eq_false h2, Bool.false_eq_true, if_false]; rw [if_neg (fun h => h2 h.2.1)]; exact bad
  · simp only [decide_eq_false h1, Bool.false_eq_true, if_false]; rw [if_neg (fun h => h1 h.1)]; exact bad

theorem spec_BitsWidth_l (d : Nat) : ∀ (n : Nat) (w : Nat), blen n = d → w + d ≤ 100 → n < 9223372036854775808 → Ev (fun k => spec_BitsWidth.l0 k n w) (if w + blen n > 62 then -1 else ((w + blen n : Nat) : Int)) := by
  induction d with
  | zero =>
    intro n w hd hw hn
    have hz : n = 0 := by have := (blen_le n 0).1 (by omega); simpa using this
    subst hz
    refine Ev.step (f := fun _ => some (if w + blen 0 > 62 then -1 else ((w + blen 0 : Nat) : Int))) (fun k => ?_) (Ev.now _)
    simp only [spec_BitsWidth.l0]
    rw [if_neg (show ¬ ((0 : Nat) : Int) > 0 by omega), hd, Nat.add_zero]
    by_cases h : w > 62
    · rw [if_pos (show (w : Int) > 62 by omega), if_pos h]
    · rw [if_neg (show ¬ (w : Int) > 62 by omega), if_neg h]
  | succ d ih =>
    intro n w hd hw hn
    have hpos : 0 < n := by
      rcases Nat.eq_zero_or_pos n with h | h
      · subst h; simp [blen] at hd
      · exact h
    have e := blen_half n hpos
    have h := ih (n / 2 ^ 1) (w + 1) (by omega) (by omega) (by omega)
    rw [show w + 1 + blen (n / 2 ^ 1) = w + blen n by omega] at h
    refine Ev.step (fun k => ?_) h
    simp only [spec_BitsWidth.l0]
    rw [if_pos (by omega), Int.tdiv_eq_ediv_of_nonneg (by omega), wrap_id (n := (n : Int) / 2) (by omega) (by omega), wrap_id (by omega) (by omega)]
    push_cast; rfl
theorem spec_BitsWidth_ev (m : Int) (h1 : m < 9223372036854775808) : Ev (fun k => spec_BitsWidth.f k m) (bw m) := by
  unfold spec_BitsWidth.f bw
  by_cases h : m < 0
  · simp only [if_pos h]; exact Ev.now _
  · simp only [if_neg h]
    have hb : blen m.toNat ≤ 63 := (blen_le _ _).2 (by omega)
    have := spec_BitsWidth_l (blen m.toNat) m.toNat 0 rfl (by omega) (by omega)
    rw [Int.toNat_of_nonneg (by omega)] at this
    simpa using this

theorem spec_WordGet_ev (l : List Int) (a n : Int) (hl : ∀ x ∈ l, (Lit.int .u8 x).wf = true) (hlen : l.length ≤ 1000000000000) (ha : -9223372036854775808 ≤ a ∧ a < 9223372036854775808) (hn : -9223372036854775808 ≤ n ∧ n < 9223372036854775808) :
    Ev (fun k => spec_WordGet.f k l a n) (wget l a n) := by
  unfold spec_WordGet.f wget
  simp only [spec_l1In_ev, Option.bind_some]
  have bad : Ev (fun k => spec_WordGet.j0 k l a n true) (0, 0, false) := Ev.step (f := fun _ => some (0, 0, false)) (fun k => by simp only [spec_WordGet.j0]; rw [if_pos trivial]) (Ev.now _)
  by_cases hn8 : 1 ≤ n ∧ n ≤ 8
  · obtain ⟨h1, h8⟩ := id hn8
    · simp only [decide_eq_true hn8, if_true]
      by_cases h2 : a < 0
      · simp only [if_pos h2]; rw [if_neg (show ¬ (1 ≤ n ∧ n ≤ 8 ∧ 0 ≤ a ∧ a + n ≤ (l.length : Int)) by omega)]; exact bad
      · simp only [if_neg h2]
        by_cases h4 : a > (l.length : Int)
        · simp only [if_pos h4]; rw [if_neg (show ¬ (1 ≤ n ∧ n ≤ 8 ∧ 0 ≤ a ∧ a + n ≤ (l.length : Int)) by omega)]; exact bad
        simp only [if_neg h4]
        rw [wrap_id (n := (l.length : Int) - a) (by omega) (by omega)]
        by_cases h3 : a + n ≤ l.length
        · rw [if_pos (show (1 ≤ n ∧ n ≤ 8 ∧ 0 ≤ a ∧ a + n ≤ (l.length : Int)) by omega)]
          have key : ∀ (d : Nat) (i : Nat), (i : Int) + d = n → Ev (fun k => spec_WordGet.l0 k l a n (wrap64 (wnum l a i)) i) (wrap64 (wnum l a n.toNat), a + n, true) := by
            intro d
            induction d with
            | zero =>
              intro i hd
              refine Ev.step (f := fun _ => some (wrap64 (wnum l a n.toNat), a + n, true)) (fun k => ?_) (Ev.now _)
              simp only [spec_WordGet.l0]; rw [if_neg (by omega), show n.toNat = i by omega, wrap_id (n := a + n) (by omega) (by omega)]
            | succ d ih =>
              intro i hd
              refine Ev.step (f := fun k => spec_WordGet.l0 k l a n (wrap64 (wnum l a (i + 1))) (i + 1 : Nat)) (fun k => ?_) (ih (i + 1) (by omega))
              simp only [spec_WordGet.l0]
              have hr := rd_rng8 hl (a + i)
              rw [if_pos (by omega), wrap_id (n := a + (i : Int)) (by omega) (by omega), wrap_id (n := 8 * (i : Int)) (by omega) (by omega), if_pos (by omega), if_pos (by omega), if_pos (by omega), wrap_id (n := rd l (a + i)) (by omega) (by omega), wrap_id (n := (i : Int) + 1) (by omega) (by omega), shl64 _ _ (by omega) (by omega), show (8 * (i : Int)).toNat = 8 * i by omega]
              rw [or_add _ _ (8 * i) (wnum_rng hl a i).1 (wnum_rng hl a i).2 hr.1]
              push_cast; rfl
          refine Ev.step (f := fun k => spec_WordGet.l0 k l a n 0 0) (fun k => ?_) ?_
          · simp only [spec_WordGet.j0]; rw [if_neg (by simp; omega)]
          · have h := key n.toNat 0 (by omega)
            simpa [wnum, show wrap64 0 = 0 by unfold wrap64; omega] using h
        · rw [if_neg (show ¬ (1 ≤ n ∧ n ≤ 8 ∧ 0 ≤ a ∧ a + n ≤ (l.length : Int)) by omega)]
          simpa [show (l.length : Int) - a < n by omega] using bad
  · simp only [decide_eq_false hn8, Bool.false_eq_true, if_false]
    rw [if_neg (show ¬ (1 ≤ n ∧ n ≤ 8 ∧ 0 ≤ a ∧ a + n ≤ (l.length : Int)) by omega)]; exact bad

theorem spec_l2Down1 (a : Int) : spec_l2Down.f a 1 = some (a / 2 % 9223372036854775808) := by
  unfold spec_l2Down.f
  rw [if_neg (by decide), if_pos (by decide), if_pos (by unfold wrap64; omega)]
  rw [shr64 _ _ (by decide) (by decide), show (wrap64 (64 - 1)) = 63 by unfold wrap64; omega, shl64 _ _ (by decide) (by decide)]
  rw [show wrap64 (wrap64 (1 * 2 ^ (63 : Int).toNat) - 1) = 2 ^ 63 - 1 by decide +kernel, and_mask _ 63 (by decide)]
  rfl

theorem spec_UvarGet_l (b : List Int) (a : Int) (hb : ∀ x ∈ b, (Lit.int .u8 x).wf = true) (hl : b.length ≤ 1000000000000) (ha0 : 0 ≤ a) (ha : a ≤ b.length) :
    ∀ (d i : Nat) (acc : Int), i + d = 10 → 0 ≤ acc → acc < 2 ^ (7 * i) →
    Ev (fun k => spec_UvarGet.l0 k b a (wrap64 acc) i) (ugetOf acc (a + i) ((ugl d (b.drop (a + i).toNat)).map fun p => (p.1 * 2 ^ (7 * i), p.2))) := by
  have fail : ∀ acc i, Ev (fun k => spec_UvarGet.j2 k b a acc i false) (0, 0, false) := fun acc i => Ev.step (f := fun _ => some (0, 0, false)) (fun k => by simp only [spec_UvarGet.j2]; rw [if_neg (by simp)]) (Ev.now _)
  intro d
  induction d with
  | zero =>
    intro i acc hi h0 h1
    rw [ugl_zero]
    refine Ev.step (f := fun k => spec_UvarGet.j2 k b a (wrap64 acc) i false) (fun k => ?_) (fail _ i)
    simp only [spec_UvarGet.l0]; rw [if_neg (by omega)]
  | succ d ih =>
    intro i acc hi h0 h1
    refine Ev.step (f := fun k => spec_UvarGet.j2 k b a (wrap64 acc) i (decide (a + (i : Int) < b.length))) (fun k => ?_) ?_
    · simp only [spec_UvarGet.l0]; rw [if_pos (by omega), wrap_id (n := a + (i : Int)) (by omega) (by omega)]
    by_cases hlt : a + (i : Int) < b.length
    · have hr := rd_rng8 hb (a + i)
      rw [decide_eq_true hlt, drop_rd b (a + i) (by omega) (by omega), ugl_cons]
      have hp : (0 : Int) < 2 ^ (7 * i) := Int.pow_pos (by decide)
      have ebits : Go.bits .or .i64 (wrap64 acc) (shl .i64 (Go.bits .and .i64 (rd b (a + i)) 127) (7 * (i : Int))) = wrap64 (acc + rd b (a + i) % 128 * 2 ^ (7 * i)) := by
        rw [show Go.bits .and .i64 (rd b (a + i)) 127 = rd b (a + i) % 128 from and_mask _ 7 (by decide), shl64 _ _ (by omega) (by omega), show (7 * (i : Int)).toNat = 7 * i by omega]
        exact or_add _ _ _ h0 h1 (by omega)
      by_cases hc : rd b (a + i) < 128
      · by_cases hbad : d = 0 ∧ rd b (a + i) > 1
        · rw [if_pos hbad]
          refine Ev.step (f := fun _ => some (0, 0, false)) (fun k => ?_) (Ev.now _)
          simp only [spec_UvarGet.j2]
          rw [if_pos trivial, wrap_id (n := a + (i : Int)) (by omega) (by omega), if_pos (by omega), if_pos (by omega), wrap_id (n := 7 * (i : Int)) (by omega) (by omega), if_pos (by omega), wrap_id (n := rd b (a + i)) (by omega) (by omega), if_pos hc, if_pos (by omega), if_pos (by omega)]
        · rw [if_neg hbad, if_pos hc]
          refine Ev.step (f := fun _ => some (wrap64 (acc + rd b (a + i) * 2 ^ (7 * i)), a + i + 1, true)) (fun k => ?_) (Ev.now _)
          simp only [spec_UvarGet.j2]
          rw [if_pos trivial, wrap_id (n := a + (i : Int)) (by omega) (by omega), if_pos (by omega), if_pos (by omega), wrap_id (n := 7 * (i : Int)) (by omega) (by omega), if_pos (by omega), wrap_id (n := rd b (a + i)) (by omega) (by omega), if_pos hc, ebits, wrap_id (n := a + (i : Int) + 1) (by omega) (by omega), show rd b (a + i) % 128 = rd b (a + i) by omega]
          by_cases h9 : (i : Int) = 9
          · rw [if_pos h9, if_neg (by omega)]
          · rw [if_neg h9]
      · have hstep : ∀ k, spec_UvarGet.j2 (k + 1) b a (wrap64 acc) i true = spec_UvarGet.l0 k b a (wrap64 (acc + rd b (a + i) % 128 * 2 ^ (7 * i))) ((i + 1 : Nat) : Int) := by
          intro k
          simp only [spec_UvarGet.j2]
          rw [if_pos trivial, wrap_id (n := a + (i : Int)) (by omega) (by omega), if_pos (by omega), if_pos (by omega), wrap_id (n := 7 * (i : Int)) (by omega) (by omega), if_pos (by omega), wrap_id (n := rd b (a + i)) (by omega) (by omega), if_neg hc, ebits, wrap_id (n := (i : Int) + 1) (by omega) (by omega)]
          push_cast; rfl
        refine Ev.step hstep ?_
        by_cases hd : d = 0
        · subst hd
          rw [if_pos ⟨rfl, by omega⟩]
          refine Ev.step (f := fun k => spec_UvarGet.j2 k b a (wrap64 (acc + rd b (a + i) % 128 * 2 ^ (7 * i))) ((i + 1 : Nat) : Int) false) (fun k => ?_) (fail _ _)
          simp only [spec_UvarGet.l0]; rw [if_neg (by omega)]
        · rw [if_neg (by omega), if_neg hc]
          have hsum : acc + rd b (a + i) % 128 * 2 ^ (7 * i) < 2 ^ (7 * (i + 1)) := by
            have hm : 0 ≤ rd b (a + i) % 128 ∧ rd b (a + i) % 128 ≤ 127 := by omega
            generalize rd b (a + i) % 128 = c at hm ⊢
            have hle : c * 2 ^ (7 * i) ≤ 127 * 2 ^ (7 * i) := Int.mul_le_mul_of_nonneg_right hm.2 (by omega)
            have e : (2 : Int) ^ (7 * (i + 1)) = 128 * 2 ^ (7 * i) := by rw [show 7 * (i + 1) = 7 * i + 7 by omega, Int.pow_add]; omega
            omega
          have h := ih (i + 1) (acc + rd b (a + i) % 128 * 2 ^ (7 * i)) (by omega) (by have := Int.mul_nonneg (show 0 ≤ rd b (a + i) % 128 by omega) (show (0:Int) ≤ 2 ^ (7 * i) by omega); omega) hsum
          have egoal : ugetOf acc (a + i) (((ugl d (b.drop (a + i + 1).toNat)).map fun p => (rd b (a + i) - 128 + 128 * p.1, p.2 + 1)).map fun p => (p.1 * 2 ^ (7 * i), p.2))
              = ugetOf (acc + rd b (a + i) % 128 * 2 ^ (7 * i)) (a + ((i + 1 : Nat) : Int)) ((ugl d (b.drop (a + ((i + 1 : Nat) : Int)).toNat)).map fun p => (p.1 * 2 ^ (7 * (i + 1)), p.2)) := by
            rw [show a + ((i + 1 : Nat) : Int) = a + i + 1 by push_cast; omega]
            cases ugl d (b.drop (a + i + 1).toNat) with
            | none => rfl
            | some p =>
              simp only [Option.map_some, ugetOf]
              rw [show rd b (a + i) % 128 = rd b (a + i) - 128 by omega, show 7 * (i + 1) = 7 + 7 * i by omega, Int.pow_add]
              refine congr (congrArg Prod.mk (congrArg wrap64 ?_)) (congrArg (fun z => (z, true)) (by omega))
              generalize (2 : Int) ^ (7 * i) = q
              rw [show ((2 : Int) ^ 7) = 128 by rfl, Int.add_mul, ← Int.mul_assoc, Int.mul_comm 128 p.1]; omega
          rw [egoal]; exact h
    · rw [decide_eq_false hlt, List.drop_eq_nil_of_le (by omega), ugl_nil]
      exact fail _ i
theorem spec_UvarGet_ev (b : List Int) (a : Int) (hb : ∀ x ∈ b, (Lit.int .u8 x).wf = true) (hl : b.length ≤ 1000000000000) (ha : a < 9223372036854775808) :
    Ev (fun k => spec_UvarGet.f k b a) (uget b a) := by
  have bad : Ev (fun k => spec_UvarGet.j0 k b a true) (0, 0, false) := Ev.step (f := fun _ => some (0, 0, false)) (fun k => by simp only [spec_UvarGet.j0]; rw [if_pos trivial]) (Ev.now _)
  unfold spec_UvarGet.f uget
  by_cases h0 : a < 0
  · simp only [if_pos h0]; exact bad
  · simp only [if_neg h0]
    by_cases h1 : a ≥ b.length
    · rw [decide_eq_true h1, List.drop_eq_nil_of_le (by omega), ugl_nil]; exact bad
    · rw [decide_eq_false h1]
      refine Ev.step (f := fun k => spec_UvarGet.l0 k b a 0 0) (fun k => by simp only [spec_UvarGet.j0]; rw [if_neg (by simp)]) ?_
      have h := spec_UvarGet_l b a hb hl (by omega) (by omega) 10 0 0 (by omega) (by omega) (by simp)
      simpa [show wrap64 0 = 0 by unfold wrap64; omega] using h

theorem spec_BitsSize_ev (n w : Int) : spec_BitsSize.f n w = some (if 0 ≤ n ∧ n ≤ 2000 ∧ 0 ≤ w ∧ w ≤ 62 then (n * w + 7) / 8 else -1) := by
  unfold spec_BitsSize.f
  simp only [spec_l1In_ev, Option.bind_some]
  by_cases h1 : 0 ≤ n ∧ n ≤ 2000
  · simp only [decide_eq_true h1, if_true]
    by_cases h2 : 0 ≤ w ∧ w ≤ 62
    · simp only [decide_eq_true h2, if_true]
      have hm0 : 0 ≤ n * w := Int.mul_nonneg h1.1 h2.1
      have hm : n * w ≤ 2000 * 62 := Int.mul_le_mul h1.2 h2.2 h2.1 (by omega)
      rw [if_pos ⟨h1.1, h1.2, h2.1, h2.2⟩, wrap_id (n := n * w) (by omega) (by omega), wrap_id (n := n * w + 7) (by omega) (by omega), Int.tdiv_eq_ediv_of_nonneg (by omega), wrap_id (by omega) (by omega)]
    · simp only [decide_eq_false h2, Bool.false_eq_true, if_false]
      rw [if_neg (fun h => h2 h.2.2)]
  · simp only [decide_eq_false h1, Bool.false_eq_true, if_false]
    rw [if_neg (fun h => h1 ⟨h.1, h.2.1⟩)]

theorem spec_l1Bit_ev (l : List Int) (k : Int) (hl : ∀ x ∈ l, (Lit.int .u8 x).wf = true) (h0 : 0 ≤ k) (h1 : k / 8 < l.length) (h2 : k < 9223372036854775808) :
    spec_l1Bit.f l k = some (bitAt l k) := by
  unfold spec_l1Bit.f
  have e : wrap64 (Int.tdiv k 8) = k / 8 := by rw [Int.tdiv_eq_ediv_of_nonneg (by omega), wrap_id (by omega) (by omega)]
  have e2 : Int.tmod k 8 = k % 8 := Int.tmod_eq_emod_of_nonneg (by omega)
  rw [e, e2, if_pos (by omega), if_pos (by omega), if_pos (by omega)]
  have hr := rd_rng8 hl (k / 8)
  rw [wrap_id (by omega) (by omega), shr64 _ _ (by omega) (by omega), and_one]; rfl

theorem shr_zero_iff (n : Int) (w : Nat) (h0 : 0 ≤ n) (hw : w ≤ 62) : (shr .i64 n w != 0) = !decide ((blen n.toNat : Int) ≤ w) := by
  rw [shr64 _ _ (by omega) (by omega), show (w : Int).toNat = w by omega]
  have hp : (0 : Int) < 2 ^ w := Int.pow_pos (by decide)
  have hc : ((2 ^ w : Nat) : Int) = 2 ^ w := by simp
  by_cases h : (blen n.toNat : Int) ≤ w
  · rw [decide_eq_true h]
    have := (blen_le n.toNat w).1 (by omega)
    have hlt : n < 2 ^ w := by rw [← hc]; omega
    rw [Int.ediv_eq_zero_of_lt h0 hlt]; rfl
  · rw [decide_eq_false h]
    have : ¬ n.toNat < 2 ^ w := fun hh => h (by have := (blen_le n.toNat w).2 hh; omega)
    have hge : (2 : Int) ^ w ≤ n := by rw [← hc]; omega
    have : 1 ≤ n / 2 ^ w := by rw [Int.le_ediv_iff_mul_le hp]; omega
    simp; omega

theorem spec_RunRead_l (b : List Int) (many w : Nat) (hb : ∀ x ∈ b, (Lit.int .u8 x).wf = true) (hlen : b.length ≤ 1000000000) (hm : many ≤ 2000) (hw : w ≤ 24) :
    ∀ (f : Nat) (a : Int) (acc : List Int), 0 ≤ a → a ≤ b.length → (b.length : Int) - a < f → acc.length ≤ many → Ev (fun k => spec_RunRead.l0 k b a many w acc) (runs b many w f a acc) := by
  have inner : ∀ (d : Nat) (j n : Nat) (x nx : Int) (acc : List Int) (R : List Int × Int × Bool), many - acc.length = d → acc.length ≤ many → n < 9223372036854775808 → j ≤ 2000 →  j + (many - acc.length) ≤ 2000 →
      Ev (fun k => spec_RunRead.l0 k b nx many w (acc ++ List.replicate (min (n - j) (many - acc.length)) x)) R → Ev (fun k => spec_RunRead.l1 k b many w acc nx n x j) R := by
    intro d
    induction d with
    | zero =>
      intro j n x nx acc R hd hacc hn hj hj2 h
      rw [hd, Nat.min_zero, List.replicate_zero, List.append_nil] at h
      refine Ev.step (fun k => ?_) h
      simp only [spec_RunRead.l1]
      by_cases hjn : (j : Int) < n
      · rw [if_pos hjn, if_neg (by omega)]
      · rw [if_neg hjn]
    | succ d ih =>
      intro j n x nx acc R hd hacc hn hj hj2 h
      by_cases hjn : j < n
      · have e : List.replicate (min (n - j) (many - acc.length)) x = [x] ++ List.replicate (min (n - (j + 1)) (many - (acc ++ [x]).length)) x := by
          rw [show min (n - j) (many - acc.length) = min (n - (j + 1)) (many - (acc ++ [x]).length) + 1 by simp; omega, List.replicate_succ]; rfl
        rw [e, ← List.append_assoc] at h
        have h2 := ih (j + 1) n x nx (acc ++ [x]) R (by simp; omega) (by simp; omega) hn (by omega) (by simp; omega) h
        refine Ev.step (fun k => ?_) h2
        simp only [spec_RunRead.l1]
        rw [if_pos (by omega), if_pos (by omega), if_pos (by omega), wrap_id (n := (j : Int) + 1) (by omega) (by omega)]; push_cast; rfl
      · rw [show n - j = 0 by omega, Nat.zero_min, List.replicate_zero, List.append_nil] at h
        refine Ev.step (fun k => ?_) h
        simp only [spec_RunRead.l1]; rw [if_neg (by omega)]
  intro f
  induction f with
  | zero => intro a acc h0 h1 hf; omega
  | succ f ih =>
    intro a acc h0 h1 hf hacc
    rw [runs_succ]
    by_cases hlt : acc.length < many
    · rw [if_pos hlt]
      have hur := uget_rng b a
      refine Ev.step (fun k => by simp only [spec_RunRead.l0]; rw [if_pos (show (acc.length : Int) < many by omega)]) ?_
      refine Ev.bind (spec_UvarGet_ev b a hb (by omega) (by omega)) ?_
      simp only [spec_l2Down1, Option.bind_some]
      have hcnt : (uget b a).1 / 2 % 9223372036854775808 = ((ux (uget b a).1 / 2 : Nat) : Int) := by unfold ux; omega
      have hcb : ux (uget b a).1 / 2 < 9223372036854775808 := by have := ux_lt (uget b a).1; omega
      rw [hcnt]
      by_cases hok : (uget b a).2.2 = true
      · have hu := uget_ok b a hok
        simp only [if_pos hok, and_one]
        by_cases he : (uget b a).1 % 2 = 0
        · simp only [if_pos he]
          have fin : ∀ (x nx : Int), 0 ≤ nx → nx ≤ b.length → a < nx → Ev (fun k => spec_RunRead.j2 k b many w acc nx ((ux (uget b a).1 / 2 : Nat) : Int) x) (runs b many w f nx (acc ++ List.replicate (min (ux (uget b a).1 / 2) (many - acc.length)) x)) := by
            intro x nx n0 n1 n2
            refine Ev.step (f := fun k => spec_RunRead.l1 k b many w acc nx ((ux (uget b a).1 / 2 : Nat) : Int) x 0) (fun k => by simp only [spec_RunRead.j2]) ?_
            exact inner _ 0 _ x nx acc _ rfl hacc hcb (by omega) (by omega) (ih nx _ n0 n1 (by omega) (by simp; omega))
          by_cases hw0 : w = 0
          · simp only [if_neg (show ¬ (w : Int) > 0 by omega)]
            have hr : runNum b (uget b a).2.1 w = (0, (uget b a).2.1, true) := by unfold runNum; rw [if_pos hw0]
            rw [hr]
            simp only [if_true]
            exact fin 0 _ (by omega) hu.2.2 hu.2.1
          · simp only [if_pos (show (w : Int) > 0 by omega), spec_BitsSize_ev, Option.bind_some]
            rw [if_pos (show 0 ≤ (1 : Int) ∧ (1 : Int) ≤ 2000 ∧ 0 ≤ (w : Int) ∧ (w : Int) ≤ 62 by omega), show ((1 : Int) * w + 7) / 8 = (((w + 7) / 8 : Nat) : Int) by omega]
            refine Ev.bind (spec_WordGet_ev b _ _ hb (by omega) (by omega) (by omega)) ?_
            by_cases hg : (wget b (uget b a).2.1 ((w + 7) / 8 : Nat)).2.2 = true
            · have hx := wget_ok b _ _ hb (by omega) hg
              simp only [if_pos hg, if_pos (show 0 ≤ (w : Int) by omega)]
              have hz := shr_zero_iff _ w hx.1 (show w ≤ 62 by omega)
              by_cases hl : blen (wget b (uget b a).2.1 ((w + 7) / 8 : Nat)).1.toNat ≤ w
              · have hr : runNum b (uget b a).2.1 w = ((wget b (uget b a).2.1 ((w + 7) / 8 : Nat)).1, (wget b (uget b a).2.1 ((w + 7) / 8 : Nat)).2.1, true) := by unfold runNum; rw [if_neg hw0, if_pos ⟨hg, hl⟩]
                rw [decide_eq_true (show ((blen (wget b (uget b a).2.1 ((w + 7) / 8 : Nat)).1.toNat : Nat) : Int) ≤ w by omega)] at hz
                have hz' : shr .i64 (wget b (uget b a).2.1 ((w + 7) / 8 : Nat)).1 w = 0 := by simpa using hz
                rw [hr]
                simp only [if_pos hz', if_true]
                exact fin _ _ (by omega) (by omega) (by omega)
              · have hr : runNum b (uget b a).2.1 w = (0, 0, false) := by unfold runNum; rw [if_neg hw0, if_neg (fun h => hl h.2)]
                rw [decide_eq_false (show ¬ ((blen (wget b (uget b a).2.1 ((w + 7) / 8 : Nat)).1.toNat : Nat) : Int) ≤ w by omega)] at hz
                have hz' : ¬ shr .i64 (wget b (uget b a).2.1 ((w + 7) / 8 : Nat)).1 w = 0 := by simpa using hz
                rw [hr]
                simp only [if_neg hz', Bool.false_eq_true, if_false]; exact Ev.now _
            · have hr : runNum b (uget b a).2.1 w = (0, 0, false) := by unfold runNum; rw [if_neg hw0, if_neg (fun h => hg h.1)]
              rw [hr]
              simp only [if_neg hg, Bool.false_eq_true, if_false]; exact Ev.now _
        · simp only [if_neg he]
          have badj : ∀ nx n, Ev (fun k => spec_RunRead.j4 k b many w acc nx n true) ([], 0, false) := fun nx n => Ev.step (f := fun _ => some ([], 0, false)) (fun k => by simp only [spec_RunRead.j4]; rw [if_pos trivial]) (Ev.now _)
          by_cases hbig : 2000 < ux (uget b a).1 / 2
          · simp only [if_pos (show ((ux (uget b a).1 / 2 : Nat) : Int) > 2000 by omega)]
            rw [if_pos (Or.inl hbig)]; exact badj _ _
          · simp only [if_neg (show ¬ ((ux (uget b a).1 / 2 : Nat) : Int) > 2000 by omega)]
            have hmul : ux (uget b a).1 / 2 * w ≤ 2000 * 24 := Nat.mul_le_mul (by omega) hw
            rw [show ((ux (uget b a).1 / 2 : Nat) : Int) * (w : Int) = ((ux (uget b a).1 / 2 * w : Nat) : Int) by push_cast; rfl, wrap_id (n := ((ux (uget b a).1 / 2 * w : Nat) : Int)) (by omega) (by omega), wrap_id (n := (b.length : Int) - (uget b a).2.1) (by omega) (by omega)]
            by_cases hfit : (b.length : Int) - (uget b a).2.1 < (ux (uget b a).1 / 2 * w : Nat)
            · rw [decide_eq_true hfit, if_pos (Or.inr hfit)]; exact badj _ _
            · rw [decide_eq_false hfit, if_neg (fun h => h.elim hbig hfit)]
              generalize hc : ux (uget b a).1 / 2 = c at hmul hfit hbig ⊢
              generalize hq : (uget b a).2.1 = q at hfit hu ⊢
              refine Ev.step (f := fun k => spec_RunRead.l2 k b many w acc q c 0) (fun k => by simp only [spec_RunRead.j4]; rw [if_neg (by simp)]) ?_
              have hL : min (8 * c) (many - acc.length) ≤ 2000 := by omega
              have hend := ih (q + (c * w : Nat)) (acc ++ unpackB b q (min (8 * c) (many - acc.length)) w) (by omega) (by omega) (by omega) (by simp [unpackB]; omega)
              have go : ∀ (d i : Nat), i + d = min (8 * c) (many - acc.length) → Ev (fun k => spec_RunRead.l2 k b many w (acc ++ unpackB b q i w) q c i) (runs b many w f (q + (c * w : Nat)) (acc ++ unpackB b q (min (8 * c) (many - acc.length)) w)) := by
                intro d
                induction d with
                | zero =>
                  intro i hi
                  have hl2 : (acc ++ unpackB b q i w).length = acc.length + i := by simp [unpackB]
                  rw [← show i = min (8 * c) (many - acc.length) by omega]
                  rw [← show i = min (8 * c) (many - acc.length) by omega] at hend
                  refine Ev.step (f := fun k => spec_RunRead.j6 k b many w (acc ++ unpackB b q i w) q c i false) (fun k => ?_) ?_
                  · simp only [spec_RunRead.l2]
                    rw [wrap_id (n := 8 * (c : Int)) (by omega) (by omega)]
                    by_cases hi8 : (i : Int) < 8 * (c : Int)
                    · rw [if_pos hi8, decide_eq_false (by rw [hl2]; omega)]
                    · rw [if_neg hi8]
                  · refine Ev.step (fun k => ?_) hend
                    simp only [spec_RunRead.j6]
                    rw [if_neg (by simp), show (c : Int) * (w : Int) = ((c * w : Nat) : Int) by push_cast; rfl, wrap_id (n := ((c * w : Nat) : Int)) (by omega) (by omega), wrap_id (by omega) (by omega)]
                | succ d ihd =>
                  intro i hi
                  have hl2 : (acc ++ unpackB b q i w).length = acc.length + i := by simp [unpackB]
                  have e : unpackB b q (i + 1) w = unpackB b q i w ++ [wrap64 (unum b (8 * q + i * w) w)] := by unfold unpackB; rw [List.range_succ]; simp
                  have h2 := ihd (i + 1) (by omega)
                  rw [e, ← List.append_assoc] at h2
                  refine Ev.step (f := fun k => spec_RunRead.j6 k b many w (acc ++ unpackB b q i w) q c i true) (fun k => ?_) ?_
                  · simp only [spec_RunRead.l2]
                    rw [wrap_id (n := 8 * (c : Int)) (by omega) (by omega), if_pos (by omega), decide_eq_true (by rw [hl2]; omega)]
                  · refine Ev.step (f := fun k => spec_RunRead.l3 k b many w (acc ++ unpackB b q i w) q c i 0 0) (fun k => by simp only [spec_RunRead.j6]; rw [if_pos trivial]) ?_
                    have bits : ∀ (d3 j : Nat), j + d3 = w → Ev (fun k => spec_RunRead.l3 k b many w (acc ++ unpackB b q i w) q c i (wrap64 (unum b (8 * q + i * w) j)) j) (runs b many w f (q + (c * w : Nat)) (acc ++ unpackB b q (min (8 * c) (many - acc.length)) w)) := by
                      intro d3
                      induction d3 with
                      | zero =>
                        intro j hj
                        refine Ev.step (fun k => ?_) h2
                        simp only [spec_RunRead.l3]
                        rw [if_neg (by omega), if_pos (by rw [hl2]; omega), wrap_id (n := (i : Int) + 1) (by omega) (by omega), show j = w by omega]
                        push_cast; rfl
                      | succ d3 ih3 =>
                        intro j hj
                        have hcc : ((i * w : Nat) : Int) = (i : Int) * w := by push_cast; rfl
                        have hle : (i + 1) * w ≤ 8 * c * w := Nat.mul_le_mul_right w (by omega)
                        rw [Nat.succ_mul, Nat.mul_assoc] at hle
                        refine Ev.step (fun k => ?_) (ih3 (j + 1) (by omega))
                        simp only [spec_RunRead.l3]
                        rw [if_pos (by omega), wrap_id (n := 8 * q) (by omega) (by omega), ← hcc, wrap_id (n := ((i * w : Nat) : Int)) (by omega) (by omega), wrap_id (n := 8 * q + ((i * w : Nat) : Int)) (by omega) (by omega), wrap_id (n := 8 * q + ((i * w : Nat) : Int) + j) (by omega) (by omega)]
                        rw [spec_l1Bit_ev b _ hb (by omega) (by omega) (by omega)]
                        simp only [Option.bind_some]
                        have hbit : 0 ≤ bitAt b (8 * q + ((i * w : Nat) : Int) + j) := by unfold bitAt; omega
                        rw [if_pos (by omega), wrap_id (n := (j : Int) + 1) (by omega) (by omega), shl64 _ _ (by omega) (by omega), show (j : Int).toNat = j by omega]
                        rw [or_add _ _ j (unum_rng _ _ _).1 (unum_rng _ _ _).2 hbit]
                        push_cast; rfl
                    have h3 := bits w 0 (by omega)
                    simpa [unum, show wrap64 0 = 0 by unfold wrap64; omega] using h3
              have h4 := go _ 0 (by rw [Nat.zero_add])
              simpa [unpackB] using h4
      · simp only [if_neg hok]; exact Ev.now _
    · rw [if_neg hlt]
      refine Ev.step (f := fun _ => some (acc, a, true)) (fun k => ?_) (Ev.now _)
      simp only [spec_RunRead.l0]; rw [if_neg (by omega)]
theorem spec_RunRead_ev (b : List Int) (a many w : Int) (hb : ∀ x ∈ b, (Lit.int .u8 x).wf = true) (hlen : b.length ≤ 1000000000) : Ev (fun k => spec_RunRead.f k b a many w) (rrd b a many w) := by
  have bad : Ev (fun k => spec_RunRead.j0 k b a many w [] true) ([], 0, false) := Ev.step (f := fun _ => some ([], 0, false)) (fun k => by simp only [spec_RunRead.j0]; rw [if_pos trivial]) (Ev.now _)
  unfold spec_RunRead.f spec_l8Width.f rrd
  simp only [spec_l1In_ev, Option.bind_some]
  by_cases h1 : 0 ≤ w ∧ w ≤ 24
  · simp only [decide_eq_true h1, if_true]
    by_cases h2 : 0 ≤ many ∧ many ≤ 2000
    · simp only [decide_eq_true h2, if_true]
      by_cases h3 : 0 ≤ a ∧ a ≤ (b.length : Int)
      · simp only [decide_eq_true h3, Bool.not_true]
        rw [if_pos ⟨h1, h2, h3⟩]
        obtain ⟨m, rfl⟩ := Int.eq_ofNat_of_zero_le h2.1
        obtain ⟨v, rfl⟩ := Int.eq_ofNat_of_zero_le h1.1
        refine Ev.step (fun k => by simp only [spec_RunRead.j0]; rw [if_neg (by simp)]) ?_
        exact spec_RunRead_l b m v hb hlen (by omega) (by omega) (b.length + 1) a [] h3.1 h3.2 (by omega) (by simp)
      · simp only [decide_eq_false h3, Bool.not_false]; rw [if_neg (fun h => h3 h.2.2)]; exact bad
    · simp only [decide_eq_false h2, Bool.false_eq_true, if_false]; rw [if_neg (fun h => h2 h.2.1)]; exact bad
  · simp only [decide_eq_false h1, Bool.false_eq_true, if_false]; rw [if_neg (fun h => h1 h.1)]; exact bad

theorem spec_LevelsRead_l (m sz nx : Int) (r : List Int) (hr : r.length ≤ 2000) (h0 : 0 ≤ nx + sz) (h1 : nx + sz < 9223372036854775808) :
    Ev (fun k => spec_LevelsRead.l0 k m [] sz nx r 0) (if ∀ x ∈ r, x ≤ m then (r, nx + sz, true) else ([], 0, false)) := by
  have key : ∀ (d i : Nat), i + d = r.length → (∀ x ∈ r.take i, x ≤ m) → Ev (fun k => spec_LevelsRead.l0 k m [] sz nx r i) (if ∀ x ∈ r, x ≤ m then (r, nx + sz, true) else ([], 0, false)) := by
    intro d
    induction d with
    | zero =>
      intro i hi hf
      rw [show i = r.length by omega, List.take_length] at hf
      rw [if_pos hf]
      refine Ev.step (f := fun _ => some (r, nx + sz, true)) (fun k => ?_) (Ev.now _)
      simp only [spec_LevelsRead.l0]; rw [if_neg (by omega), wrap_id (by omega) (by omega)]
    | succ d ih =>
      intro i hi hf
      have hm : rd r i = r[i] := rd_eq r i (by omega)
      by_cases hx : r[i] > m
      · rw [if_neg (fun h => by have := h _ (List.getElem_mem (show i < r.length by omega)); omega)]
        refine Ev.step (f := fun _ => some ([], 0, false)) (fun k => ?_) (Ev.now _)
        simp only [spec_LevelsRead.l0]; rw [if_pos (by omega), if_pos (by omega), hm, if_pos hx]
      · have h := ih (i + 1) (by omega) (by
          intro x hx2
          rw [List.take_succ_eq_append_getElem (by omega)] at hx2
          rcases List.mem_append.1 hx2 with h | h
          · exact hf x h
          · rw [List.mem_singleton] at h; subst h; omega)
        refine Ev.step (fun k => ?_) h
        simp only [spec_LevelsRead.l0]; rw [if_pos (by omega), if_pos (by omega), hm, if_neg hx, wrap_id (n := (i : Int) + 1) (by omega) (by omega)]; push_cast; rfl
  exact key r.length 0 (by omega) (by simp)
theorem spec_LevelsRead_ev (b : List Int) (a many m : Int) (hb : ∀ x ∈ b, (Lit.int .u8 x).wf = true) (hlen : b.length ≤ 1000000000) : Ev (fun k => spec_LevelsRead.f k b a many m) (lrd b a many m) := by
  have bad : Ev (fun k => spec_LevelsRead.j0 k b a many m [] true) ([], 0, false) := Ev.step (f := fun _ => some ([], 0, false)) (fun k => by simp only [spec_LevelsRead.j0]; rw [if_pos trivial]) (Ev.now _)
  unfold spec_LevelsRead.f lrd
  simp only [spec_l1In_ev, Option.bind_some]
  by_cases h1 : 0 ≤ m ∧ m ≤ 255
  · simp only [decide_eq_true h1, if_true]
    by_cases h2 : 0 ≤ many ∧ many ≤ 2000
    · simp only [decide_eq_true h2, if_true]
      by_cases h3 : 0 ≤ a ∧ a ≤ (b.length : Int)
      · simp only [decide_eq_true h3, Bool.not_true]
        rw [if_pos ⟨h1, h2, h3⟩]
        by_cases hm0 : m = 0
        · rw [if_pos hm0]
          refine Ev.step (f := fun _ => some (List.replicate many.toNat 0, a, true)) (fun k => ?_) (Ev.now _)
          simp only [spec_LevelsRead.j0]; rw [if_neg (by simp), if_pos hm0, if_pos h2.1, if_pos (by omega)]
        · rw [if_neg hm0]
          refine Ev.step (fun k => by simp only [spec_LevelsRead.j0]; rw [if_neg (by simp), if_neg hm0]) ?_
          refine Ev.bind (spec_WordGet_ev b a 4 hb (by omega) (by omega) (by decide)) ?_
          have badj : ∀ s n, Ev (fun k => spec_LevelsRead.j1 k b many m [] s n true) ([], 0, false) := fun s n => Ev.step (f := fun _ => some ([], 0, false)) (fun k => by simp only [spec_LevelsRead.j1]; rw [if_pos trivial]) (Ev.now _)
          by_cases hg : (wget b a 4).2.2 = true
          · have hx := wget_ok b a 4 hb (by decide) hg
            simp only [if_pos hg]
            rw [wrap_id (n := (b.length : Int) - (wget b a 4).2.1) (by omega) (by omega)]
            generalize hsz : (wget b a 4).1 = sz at hx ⊢
            generalize hnx : (wget b a 4).2.1 = nx at hx ⊢
            by_cases hl : sz ≤ (b.length : Int) - nx
            · rw [decide_eq_false (show ¬ sz > (b.length : Int) - nx by omega), if_pos ⟨hg, hl⟩]
              refine Ev.step (fun k => by simp only [spec_LevelsRead.j1]; rw [if_neg (by simp), wrap_id (n := nx + sz) (by omega) (by omega), if_pos (show 0 ≤ nx by omega), if_pos (show nx ≤ nx + sz by omega), if_pos (show nx + sz ≤ (b.length : Int) by omega)]) ?_
              refine Ev.bind (spec_BitsWidth_ev m (by omega)) ?_
              have wsub : ∀ x ∈ (b.take (nx + sz).toNat).drop nx.toNat, (Lit.int .u8 x).wf = true := fun x hx => hb x (List.mem_of_mem_take (List.mem_of_mem_drop hx))
              refine Ev.bind (spec_RunRead_ev _ 0 many (bw m) wsub (by rw [List.length_drop, List.length_take]; omega)) ?_
              have hrl := rrd_len ((b.take (nx + sz).toNat).drop nx.toNat) 0 many (bw m)
              generalize rrd ((b.take (nx + sz).toNat).drop nx.toNat) 0 many (bw m) = R at hrl
              obtain ⟨r, p, ok⟩ := R
              cases ok with
              | true =>
                simp only [if_true]
                have h := spec_LevelsRead_l m sz nx r hrl (by omega) (by omega)
                by_cases hall : ∀ x ∈ r, x ≤ m
                · rw [if_pos hall] at h; rw [if_pos ⟨trivial, hall⟩]; exact h
                · rw [if_neg hall] at h; rw [if_neg (fun h => hall h.2)]; exact h
              | false =>
                simp only [Bool.false_eq_true, if_false]
                rw [if_neg (fun h => h.1)]; exact Ev.now _
            · rw [decide_eq_true (show sz > (b.length : Int) - nx by omega), if_neg (fun h => hl h.2)]; exact badj _ _
          · simp only [if_neg hg]; rw [if_neg (fun h => hg h.1)]; exact badj _ _
      · simp only [decide_eq_false h3, Bool.not_false]; rw [if_neg (fun h => h3 h.2.2)]; exact bad
    · simp only [decide_eq_false h2, Bool.false_eq_true, if_false]; rw [if_neg (fun h => h2 h.2.1)]; exact bad
  · simp only [decide_eq_false h1, Bool.false_eq_true, if_false]; rw [if_neg (fun h => h1 h.1)]; exact bad

theorem FnExactLevelsRead : laws_FnExactLevelsRead.Pure := by
  intro l a n w hlen hsz hl ha hn hw
  refine Ev.rounds (g := fun k => laws_FnExactLevelsRead.f k l a n w) ?_
  unfold laws_FnExactLevelsRead.f
  by_cases hbig : (l.length : Int) > 1048576
  · simp only [if_pos hbig]; exact Ev.now _
  simp only [if_neg hbig]
  have e1 := spec_LevelsRead_ev l a n w hl (by omega)
  have e2 := impl_LevelsRead_ev l a n w hl (by omega)
  have hln : (lrd l a n w).1.length ≤ 1000000000000000000 := by
    unfold lrd
    split
    · rename_i h
      split
      · simp; omega
      · split
        · split
          · have := rrd_len ((l.take ((wget l a 4).2.1 + (wget l a 4).1).toNat).drop (wget l a 4).2.1.toNat) 0 n (bw w)
            show List.length (rrd ((l.take ((wget l a 4).2.1 + (wget l a 4).1).toNat).drop (wget l a 4).2.1.toNat) 0 n (bw w)).1 ≤ _
            omega
          · simp
        · simp
    · simp
  generalize lrd l a n w = r at e1 e2 hln
  obtain ⟨b, nx, ok⟩ := r
  have hlen' : b.length ≤ 1000000000000000000 := hln
  refine Ev.bind (toByteS_ev l (by omega)) ?_
  refine Ev.bind e1 ?_
  refine Ev.bind (toByteS_ev l (by omega)) ?_
  refine Ev.bind e2 ?_
  refine Ev.bind (eqIntS_self _ hlen') ?_
  simp only [if_true, bne_self_eq_false]
  refine Ev.step (fun k => by simp only [laws_FnExactLevelsRead.j0]; rw [if_neg (by simp)]) ?_
  refine Ev.bind (toByteS_ev l (by omega)) ?_
  refine Ev.bind (eqByteS_self l (by omega)) ?_
  simp only [if_true]
  refine Ev.bind (markByteS_ev l 1 (by omega) (by omega) (by omega)) ?_
  simp only [if_neg (show ¬ (1 + (l.length : Int) < 0) by omega)]
  refine Ev.bind (eqIntS_self _ hlen') ?_
  simp only [if_true, bne_self_eq_false]
  refine Ev.step (fun k => by simp only [laws_FnExactLevelsRead.j1]; rw [if_neg (by simp)]) ?_
  refine Ev.bind (markIntS_ev _ 1 (by omega) (by omega) hlen') ?_
  refine Ev.bind (heldIntS_ev _ 1 (by omega) (by omega) hlen') ?_
  simp only [if_neg (show ¬ (1 + (b.length : Int) < 0) by omega), if_true]
  refine Ev.bind (toByteS_ev l (by omega)) ?_
  refine Ev.bind e2 ?_
  refine Ev.bind (eqIntS_self _ hlen') ?_
  simp only [if_true, bne_self_eq_false]
  refine Ev.step (fun k => by simp only [laws_FnExactLevelsRead.j2]; rw [if_neg (by simp)]) ?_
  refine Ev.bind (heldIntS_ev _ 1 (by omega) (by omega) hlen') ?_
  simp only [if_neg (show ¬ (1 + (b.length : Int) < 0) by omega), if_true]
  exact Ev.now _

end Go.Proofs.Ytbiibjbhgeenoaa.Pure
