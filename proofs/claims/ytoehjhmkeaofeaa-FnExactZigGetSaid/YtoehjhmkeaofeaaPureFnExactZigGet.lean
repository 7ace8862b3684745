/- ZigGet answers as the reference does, for all bytes and every int. -/
import Derived.Test.YtoehjhmkeaofeaaPFnExactZigGetx2
import Derived.Test.YtoehjhmkeaofeaaCom
namespace Go.Proofs.Ytoehjhmkeaofeaa.Pure
open Go Go.RowKit Go.Proofs.Ytoehjhmkeaofeaa.PFnExactZigGet Go.Proofs.YtoehjhmkeaofeaaW.PrintWords Go.Proofs.YtoehjhmkeaofeaaW.PrintLast Go.Proofs.YtoehjhmkeaofeaaW.PrintMore Go.Proofs.Ytoehjhmkeaofeaa.Com
set_option linter.unusedVariables false
set_option linter.unusedSimpArgs false

theorem toByteS_ev (a : List Int) (hn : a.length ≤ 1000000000000) : Ev (fun k => laws_toByteS.f k a) a := by
  have key : ∀ (d : Nat) (i : Nat) (r : List Int), r.length = d → i + d = a.length → Ev (fun k => laws_toByteS.l0 k a (a.take i ++ r) i) a := by
    intro d
    induction d with
    | zero =>
      intro i r hr hd
      obtain rfl : r = [] := List.length_eq_zero_iff.1 hr
      refine Ev.step (f := fun _ => some a) (fun k => ?_) (Ev.now _)
      simp only [laws_toByteS.l0]; rw [if_neg (by omega)]
      rw [show i = a.length by omega]; simp
    | succ d ih =>
      intro i r hr hd
      refine Ev.step (f := fun k => laws_toByteS.l0 k a (a.take (i + 1) ++ r.tail) (i + 1 : Nat)) (fun k => ?_) (ih (i + 1) r.tail (by simp [hr]) (by omega))
      simp only [laws_toByteS.l0]; rw [if_pos (by omega), if_pos (by omega), if_pos (by simp; omega), wrap_id (by omega) (by omega)]
      rw [set_mid _ _ _ _ (by simp; omega) (by omega), rd_eq' _ _ (by omega) (by simp; omega)]
      rw [List.take_succ_eq_append_getElem (by omega)]; simp
  have h := key a.length 0 (List.replicate a.length 0) (by simp) (by omega)
  unfold laws_toByteS.f
  simp only [if_pos (show (0:Int) ≤ a.length by omega), if_pos (show ((a.length : Int)).toNat ≤ 281474976710656 by omega)]
  simpa using h

theorem eqByteS_self (a : List Int) (hn : a.length ≤ 1000000000000000000) : Ev (fun k => laws_eqByteS.f k a a) true := by
  have key : ∀ (d : Nat) (i : Int), 0 ≤ i → i ≤ a.length → (a.length : Int) - i = d → Ev (fun k => laws_eqByteS.l0 k a a i) true := by
    intro d
    induction d with
    | zero =>
      intro i h0 h1 hd
      refine Ev.step (f := fun _ => some true) (fun k => ?_) (Ev.now _)
      simp only [laws_eqByteS.l0]; rw [if_neg (by omega)]
    | succ d ih =>
      intro i h0 h1 hd
      refine Ev.step (f := fun k => laws_eqByteS.l0 k a a (i + 1)) (fun k => ?_) (ih (i + 1) (by omega) (by omega) (by omega))
      simp only [laws_eqByteS.l0]; rw [if_pos (by omega), if_pos h0, if_pos (by omega), if_pos trivial, wrap_id (by omega) (by omega)]
  have h := key a.length 0 (by omega) (by omega) (by omega)
  unfold laws_eqByteS.f
  simpa using h

theorem impl_Zag_ev (a : Int) (h0 : -9223372036854775808 ≤ a) (h1 : a < 9223372036854775808) : impl_Zag.f a = some (zag a) := by
  unfold impl_Zag.f
  rw [and_one, show IntKind.u64.wrap a = a % 18446744073709551616 by simp [IntKind.wrap, IntKind.bits, IntKind.signed]]
  unfold zag
  rw [wrap_id (n := a % 18446744073709551616 / 2) (by omega) (by omega)]
  by_cases h : a % 2 = 1
  · rw [if_pos h, h, show wrap64 (-1) = -1 by unfold wrap64; omega, xor_m1, wrap_id (by omega) (by omega)]; congr 1; omega
  · rw [if_neg h, show a % 2 = 0 by omega, show wrap64 (-0) = 0 by unfold wrap64; omega, xor_zero, wrap_id (by omega) (by omega)]; congr 1; omega

theorem impl_UvarGet_l (b : List Int) (a : Int) (hb : ∀ x ∈ b, (Lit.int .u8 x).wf = true) (hl : b.length ≤ 1000000000000) (ha0 : 0 ≤ a) (ha : a < 9223372036854775808) :
    ∀ (d i : Nat) (acc : Int), i + d = 10 → 0 ≤ acc → acc < 2 ^ (7 * i) →
    Ev (fun k => impl_UvarGet.l0 k b a acc i) (ugetOf acc (a + i) ((ugl d (b.drop (a + i).toNat)).map fun p => (p.1 * 2 ^ (7 * i), p.2))) := by
  have fail : ∀ acc i, Ev (fun k => impl_UvarGet.j1 k b a acc i false) (0, 0, false) := fun acc i => Ev.step (f := fun _ => some (0, 0, false)) (fun k => by simp only [impl_UvarGet.j1]; rw [if_neg (by simp)]) (Ev.now _)
  intro d
  induction d with
  | zero =>
    intro i acc hi h0 h1
    rw [ugl_zero]
    refine Ev.step (f := fun k => impl_UvarGet.j1 k b a acc i false) (fun k => ?_) (fail acc i)
    simp only [impl_UvarGet.l0]; rw [if_neg (by omega)]
  | succ d ih =>
    intro i acc hi h0 h1
    refine Ev.step (f := fun k => impl_UvarGet.j1 k b a acc i (decide ((i : Int) < b.length - a))) (fun k => ?_) ?_
    · simp only [impl_UvarGet.l0]; rw [if_pos (by omega), wrap_id (by omega) (by omega)]
    by_cases hlt : (i : Int) < b.length - a
    · have hr := rd_rng8 hb (a + i)
      rw [decide_eq_true hlt, drop_rd b (a + i) (by omega) (by omega), ugl_cons]
      have hp : (0 : Int) < 2 ^ (7 * i) := Int.pow_pos (by decide)
      refine Ev.step (f := fun k => impl_UvarGet.j2 k b a acc i (rd b (a + i)) (decide (i = 9 ∧ rd b (a + i) > 1))) (fun k => ?_) ?_
      · simp only [impl_UvarGet.j1]
        rw [if_pos trivial, wrap_id (n := a + (i : Int)) (by omega) (by omega), if_pos (by omega), if_pos (by omega)]
        by_cases h9 : i = 9
        · subst h9; simp
        · rw [if_neg (by omega)]; simp [h9]
      by_cases hbad : i = 9 ∧ rd b (a + i) > 1
      · rw [decide_eq_true hbad, if_pos ⟨by omega, hbad.2⟩]
        exact Ev.step (f := fun _ => some (0, 0, false)) (fun k => by simp only [impl_UvarGet.j2]; rw [if_pos trivial]) (Ev.now _)
      · rw [decide_eq_false hbad, if_neg (by omega)]
        have hsum : acc + rd b (a + i) % 128 * 2 ^ (7 * i) < 18446744073709551616 ∧ (i ≤ 8 → acc + rd b (a + i) % 128 * 2 ^ (7 * i) < 2 ^ (7 * (i + 1))) := by
          have hm : 0 ≤ rd b (a + i) % 128 ∧ rd b (a + i) % 128 ≤ 127 := by omega
          generalize hc : rd b (a + i) % 128 = c at hm ⊢
          have hle : c * 2 ^ (7 * i) ≤ 127 * 2 ^ (7 * i) := Int.mul_le_mul_of_nonneg_right hm.2 (by omega)
          by_cases h9 : i = 9
          · subst h9
            have hc1 : c ≤ 1 := by omega
            have : c * 2 ^ (7 * 9) ≤ 1 * 2 ^ (7 * 9) := Int.mul_le_mul_of_nonneg_right hc1 (by omega)
            refine ⟨?_, fun h => by omega⟩
            have e : (2 : Int) ^ (7 * 9) = 9223372036854775808 := by rfl
            omega
          · have hpw : (2 : Int) ^ (7 * (i + 1)) ≤ 9223372036854775808 := by
              have : (2 : Nat) ^ (7 * (i + 1)) ≤ 2 ^ 63 := Nat.pow_le_pow_right (by decide) (by omega)
              have h2 : ((2 ^ (7 * (i + 1)) : Nat) : Int) ≤ ((2 ^ 63 : Nat) : Int) := by exact_mod_cast this
              simpa using h2
            have e : (2 : Int) ^ (7 * (i + 1)) = 128 * 2 ^ (7 * i) := by rw [show 7 * (i + 1) = 7 * i + 7 by omega, Int.pow_add]; omega
            constructor
            · omega
            · intro _; omega
        have ebits : Go.bits .or .u64 acc (shl .u64 (IntKind.u64.wrap (Go.bits .and .u8 (rd b (a + i)) 127)) (7 * (i : Int))) = acc + rd b (a + i) % 128 * 2 ^ (7 * i) := by
          rw [and127 _ hr.1 hr.2, uwrap_id (by omega) (by omega), shlu _ _ (by omega) (by omega), show (7 * (i : Int)).toNat = 7 * i by omega]
          have h2 : 0 ≤ rd b (a + i) % 128 * 2 ^ (7 * i) := Int.mul_nonneg (by omega) (by omega)
          rw [Int.emod_eq_of_lt h2 (by omega)]
          exact or_addu _ _ _ h0 h1 (by omega) hsum.1
        by_cases hc : rd b (a + i) < 128
        · rw [if_pos hc]
          refine Ev.step (f := fun _ => some (wrap64 (acc + rd b (a + i) * 2 ^ (7 * i)), a + i + 1, true)) (fun k => ?_) (Ev.now _)
          simp only [impl_UvarGet.j2]
          rw [if_neg (by simp), wrap_id (n := 7 * (i : Int)) (by omega) (by omega), if_pos (by omega), if_pos hc, ebits, wrap_id (n := a + (i : Int)) (by omega) (by omega), wrap_id (n := a + (i : Int) + 1) (by omega) (by omega)]
          rw [show rd b (a + i) % 128 = rd b (a + i) by omega]
        · rw [if_neg hc]
          have hi8 : i ≤ 8 := by omega
          have h := ih (i + 1) (acc + rd b (a + i) % 128 * 2 ^ (7 * i)) (by omega) (by have := Int.mul_nonneg (show 0 ≤ rd b (a + i) % 128 by omega) (show (0:Int) ≤ 2 ^ (7 * i) by omega); omega) (hsum.2 hi8)
          have egoal : ugetOf acc (a + i) (((ugl d (b.drop (a + i + 1).toNat)).map fun p => (rd b (a + i) - 128 + 128 * p.1, p.2 + 1)).map fun p => (p.1 * 2 ^ (7 * i), p.2))
              = ugetOf (acc + rd b (a + i) % 128 * 2 ^ (7 * i)) (a + ((i + 1 : Nat) : Int)) ((ugl d (b.drop (a + ((i + 1 : Nat) : Int)).toNat)).map fun p => (p.1 * 2 ^ (7 * (i + 1)), p.2)) := by
            rw [show a + ((i + 1 : Nat) : Int) = a + i + 1 by push_cast; omega]
            cases ugl d (b.drop (a + i + 1).toNat) with
            | none => rfl
            | some p =>
              simp only [Option.map_some, ugetOf]
              rw [show rd b (a + i) % 128 = rd b (a + i) - 128 by omega, show 7 * (i + 1) = 7 + 7 * i by omega, Int.pow_add]
              refine congr (congrArg Prod.mk (congrArg wrap64 ?_)) (congrArg (fun z => (z, true)) (by omega))
              generalize (2 : Int) ^ (7 * i) = q
              rw [show ((2 : Int) ^ 7) = 128 by rfl, Int.add_mul, ← Int.mul_assoc, Int.mul_comm 128 p.1]; omega
          rw [egoal]
          refine Ev.step (fun k => ?_) h
          simp only [impl_UvarGet.j2]
          rw [if_neg (by simp), wrap_id (n := 7 * (i : Int)) (by omega) (by omega), if_pos (by omega), if_neg hc, ebits, wrap_id (n := (i : Int) + 1) (by omega) (by omega)]
          push_cast; rfl
    · rw [decide_eq_false hlt, List.drop_eq_nil_of_le (by omega), ugl_nil]
      exact fail acc i
theorem impl_UvarGet_ev (b : List Int) (a : Int) (hb : ∀ x ∈ b, (Lit.int .u8 x).wf = true) (hl : b.length ≤ 1000000000000) (ha : a < 9223372036854775808) :
    Ev (fun k => impl_UvarGet.f k b a) (uget b a) := by
  unfold impl_UvarGet.f uget
  by_cases h0 : a < 0
  · simp only [if_pos h0]; exact Ev.now _
  · simp only [if_neg h0]
    have h := impl_UvarGet_l b a hb hl (by omega) ha 10 0 0 (by omega) (by omega) (by simp)
    simpa using h

theorem impl_ZigGet_ev (b : List Int) (a : Int) (hb : ∀ x ∈ b, (Lit.int .u8 x).wf = true) (hl : b.length ≤ 1000000000000) (ha : a < 9223372036854775808) :
    Ev (fun k => impl_ZigGet.f k b a) (zget b a) := by
  unfold impl_ZigGet.f zget
  refine Ev.bind (impl_UvarGet_ev b a hb hl ha) ?_
  have hr := uget_rng b a
  by_cases h : (uget b a).2.2 = true
  · simp only [if_pos h, impl_Zag_ev _ hr.1 hr.2, Option.bind_some]; exact Ev.now _
  · simp only [if_neg h]; exact Ev.now _

theorem spec_l2Down1 (a : Int) : spec_l2Down.f a 1 = some (a / 2 % 9223372036854775808) := by
  unfold spec_l2Down.f
  rw [if_neg (by decide), if_pos (by decide), if_pos (by unfold wrap64; omega)]
  rw [shr64 _ _ (by decide) (by decide), show (wrap64 (64 - 1)) = 63 by unfold wrap64; omega, shl64 _ _ (by decide) (by decide)]
  rw [show wrap64 (wrap64 (1 * 2 ^ (63 : Int).toNat) - 1) = 2 ^ 63 - 1 by decide +kernel, and_mask _ 63 (by decide)]
  rfl
theorem spec_Zag_ev (a : Int) (h0 : -9223372036854775808 ≤ a) (h1 : a < 9223372036854775808) : spec_Zag.f a = some (zag a) := by
  unfold spec_Zag.f
  rw [and_one, spec_l2Down1]
  unfold zag
  by_cases h : a % 2 = 1
  · rw [if_pos h, if_pos h]; simp only [Option.bind_some]; rw [xor_comm, xor_m1, wrap_id (by omega) (by omega)]
  · rw [if_neg h, if_neg h]; simp only [Option.bind_some]

theorem spec_UvarGet_l (b : List Int) (a : Int) (hb : ∀ x ∈ b, (Lit.int .u8 x).wf = true) (hl : b.length ≤ 1000000000000) (ha0 : 0 ≤ a) (ha : a ≤ b.length) :
    ∀ (d i : Nat) (acc : Int), i + d = 10 → 0 ≤ acc → acc < 2 ^ (7 * i) →
    Ev (fun k => spec_UvarGet.l0 k b a (wrap64 acc) i) (ugetOf acc (a + i) ((ugl d (b.drop (a + i).toNat)).map fun p => (p.1 * 2 ^ (7 * i), p.2))) := by
  have fail : ∀ acc i, Ev (fun k => spec_UvarGet.j2 k b a acc i false) (0, 0, false) := fun acc i => Ev.step (f := fun _ => some (0, 0, false)) (fun k => by simp only [spec_UvarGet.j2]; rw [if_neg (by simp)]) (Ev.now _)
  intro d
  induction d with
  | zero =>
    intro i acc hi h0 h1
    rw [ugl_zero]
    refine Ev.step (f := fun k => spec_UvarGet.j2 k b a (wrap64 acc) i false) (fun k => ?_) (fail _ i)
    simp only [spec_UvarGet.l0]; rw [if_neg (by omega)]
  | succ d ih =>
    intro i acc hi h0 h1
    refine Ev.step (f := fun k => spec_UvarGet.j2 k b a (wrap64 acc) i (decide (a + (i : Int) < b.length))) (fun k => ?_) ?_
    · simp only [spec_UvarGet.l0]; rw [if_pos (by omega), wrap_id (n := a + (i : Int)) (by omega) (by omega)]
    by_cases hlt : a + (i : Int) < b.length
    · have hr := rd_rng8 hb (a + i)
      rw [decide_eq_true hlt, drop_rd b (a + i) (by omega) (by omega), ugl_cons]
      have hp : (0 : Int) < 2 ^ (7 * i) := Int.pow_pos (by decide)
      have ebits : Go.bits .or .i64 (wrap64 acc) (shl .i64 (Go.bits .and .i64 (rd b (a + i)) 127) (7 * (i : Int))) = wrap64 (acc + rd b (a + i) % 128 * 2 ^ (7 * i)) := by
        rw [show Go.bits .and .i64 (rd b (a + i)) 127 = rd b (a + i) % 128 from and_mask _ 7 (by decide), shl64 _ _ (by omega) (by omega), show (7 * (i : Int)).toNat = 7 * i by omega]
        exact or_add _ _ _ h0 h1 (by omega)
      by_cases hc : rd b (a + i) < 128
      · by_cases hbad : d = 0 ∧ rd b (a + i) > 1
        · rw [if_pos hbad]
          refine Ev.step (f := fun _ => some (0, 0, false)) (fun k => ?_) (Ev.now _)
          simp only [spec_UvarGet.j2]
          rw [if_pos trivial, wrap_id (n := a + (i : Int)) (by omega) (by omega), if_pos (by omega), if_pos (by omega), wrap_id (n := 7 * (i : Int)) (by omega) (by omega), if_pos (by omega), wrap_id (n := rd b (a + i)) (by omega) (by omega), if_pos hc, if_pos (by omega), if_pos (by omega)]
        · rw [if_neg hbad, if_pos hc]
          refine Ev.step (f := fun _ => some (wrap64 (acc + rd b (a + i) * 2 ^ (7 * i)), a + i + 1, true)) (fun k => ?_) (Ev.now _)
          simp only [spec_UvarGet.j2]
          rw [if_pos trivial, wrap_id (n := a + (i : Int)) (by omega) (by omega), if_pos (by omega), if_pos (by omega), wrap_id (n := 7 * (i : Int)) (by omega) (by omega), if_pos (by omega), wrap_id (n := rd b (a + i)) (by omega) (by omega), if_pos hc, ebits, wrap_id (n := a + (i : Int) + 1) (by omega) (by omega), show rd b (a + i) % 128 = rd b (a + i) by omega]
          by_cases h9 : (i : Int) = 9
          · rw [if_pos h9, if_neg (by omega)]
          · rw [if_neg h9]
      · have hstep : ∀ k, spec_UvarGet.j2 (k + 1) b a (wrap64 acc) i true = spec_UvarGet.l0 k b a (wrap64 (acc + rd b (a + i) % 128 * 2 ^ (7 * i))) ((i + 1 : Nat) : Int) := by
          intro k
          simp only [spec_UvarGet.j2]
          rw [if_pos trivial, wrap_id (n := a + (i : Int)) (by omega) (by omega), if_pos (by omega), if_pos (by omega), wrap_id (n := 7 * (i : Int)) (by omega) (by omega), if_pos (by omega), wrap_id (n := rd b (a + i)) (by omega) (by omega), if_neg hc, ebits, wrap_id (n := (i : Int) + 1) (by omega) (by omega)]
          push_cast; rfl
        refine Ev.step hstep ?_
        by_cases hd : d = 0
        · subst hd
          rw [if_pos ⟨rfl, by omega⟩]
          refine Ev.step (f := fun k => spec_UvarGet.j2 k b a (wrap64 (acc + rd b (a + i) % 128 * 2 ^ (7 * i))) ((i + 1 : Nat) : Int) false) (fun k => ?_) (fail _ _)
          simp only [spec_UvarGet.l0]; rw [if_neg (by omega)]
        · rw [if_neg (by omega), if_neg hc]
          have hsum : acc + rd b (a + i) % 128 * 2 ^ (7 * i) < 2 ^ (7 * (i + 1)) := by
            have hm : 0 ≤ rd b (a + i) % 128 ∧ rd b (a + i) % 128 ≤ 127 := by omega
            generalize rd b (a + i) % 128 = c at hm ⊢
            have hle : c * 2 ^ (7 * i) ≤ 127 * 2 ^ (7 * i) := Int.mul_le_mul_of_nonneg_right hm.2 (by omega)
            have e : (2 : Int) ^ (7 * (i + 1)) = 128 * 2 ^ (7 * i) := by rw [show 7 * (i + 1) = 7 * i + 7 by omega, Int.pow_add]; omega
            omega
          have h := ih (i + 1) (acc + rd b (a + i) % 128 * 2 ^ (7 * i)) (by omega) (by have := Int.mul_nonneg (show 0 ≤ rd b (a + i) % 128 by omega) (show (0:Int) ≤ 2 ^ (7 * i) by omega); omega) hsum
          have egoal : ugetOf acc (a + i) (((ugl d (b.drop (a + i + 1).toNat)).map fun p => (rd b (a + i) - 128 + 128 * p.1, p.2 + 1)).map fun p => (p.1 * 2 ^ (7 * i), p.2))
              = ugetOf (acc + rd b (a + i) % 128 * 2 ^ (7 * i)) (a + ((i + 1 : Nat) : Int)) ((ugl d (b.drop (a + ((i + 1 : Nat) : Int)).toNat)).map fun p => (p.1 * 2 ^ (7 * (i + 1)), p.2)) := by
            rw [show a + ((i + 1 : Nat) : Int) = a + i + 1 by push_cast; omega]
            cases ugl d (b.drop (a + i + 1).toNat) with
            | none => rfl
            | some p =>
              simp only [Option.map_some, ugetOf]
              rw [show rd b (a + i) % 128 = rd b (a + i) - 128 by omega, show 7 * (i + 1) = 7 + 7 * i by omega, Int.pow_add]
              refine congr (congrArg Prod.mk (congrArg wrap64 ?_)) (congrArg (fun z => (z, true)) (by omega))
              generalize (2 : Int) ^ (7 * i) = q
              rw [show ((2 : Int) ^ 7) = 128 by rfl, Int.add_mul, ← Int.mul_assoc, Int.mul_comm 128 p.1]; omega
          rw [egoal]; exact h
    · rw [decide_eq_false hlt, List.drop_eq_nil_of_le (by omega), ugl_nil]
      exact fail _ i
theorem spec_UvarGet_ev (b : List Int) (a : Int) (hb : ∀ x ∈ b, (Lit.int .u8 x).wf = true) (hl : b.length ≤ 1000000000000) (ha : a < 9223372036854775808) :
    Ev (fun k => spec_UvarGet.f k b a) (uget b a) := by
  have bad : Ev (fun k => spec_UvarGet.j0 k b a true) (0, 0, false) := Ev.step (f := fun _ => some (0, 0, false)) (fun k => by simp only [spec_UvarGet.j0]; rw [if_pos trivial]) (Ev.now _)
  unfold spec_UvarGet.f uget
  by_cases h0 : a < 0
  · simp only [if_pos h0]; exact bad
  · simp only [if_neg h0]
    by_cases h1 : a ≥ b.length
    · rw [decide_eq_true h1, List.drop_eq_nil_of_le (by omega), ugl_nil]; exact bad
    · rw [decide_eq_false h1]
      refine Ev.step (f := fun k => spec_UvarGet.l0 k b a 0 0) (fun k => by simp only [spec_UvarGet.j0]; rw [if_neg (by simp)]) ?_
      have h := spec_UvarGet_l b a hb hl (by omega) (by omega) 10 0 0 (by omega) (by omega) (by simp)
      simpa [show wrap64 0 = 0 by unfold wrap64; omega] using h

theorem spec_ZigGet_ev (b : List Int) (a : Int) (hb : ∀ x ∈ b, (Lit.int .u8 x).wf = true) (hl : b.length ≤ 1000000000000) (ha : a < 9223372036854775808) :
    Ev (fun k => spec_ZigGet.f k b a) (zget b a) := by
  unfold spec_ZigGet.f zget
  refine Ev.bind (spec_UvarGet_ev b a hb hl ha) ?_
  have hr := uget_rng b a
  by_cases h : (uget b a).2.2 = true
  · simp only [if_pos h, spec_Zag_ev _ hr.1 hr.2, Option.bind_some]; exact Ev.now _
  · simp only [if_neg h]; exact Ev.now _

theorem FnExactZigGet : laws_FnExactZigGet.Pure := by
  intro l a hlen hsz hl ha
  have hv := wf64 ha
  refine Ev.rounds (g := fun k => laws_FnExactZigGet.f k l a) ?_
  unfold laws_FnExactZigGet.f
  by_cases hbig : (l.length : Int) > 1048576
  · simp only [if_pos hbig]; exact Ev.now _
  simp only [if_neg hbig]
  refine Ev.bind (toByteS_ev l (by omega)) ?_
  refine Ev.bind (spec_ZigGet_ev l a hl (by omega) hv.2) ?_
  refine Ev.bind (toByteS_ev l (by omega)) ?_
  refine Ev.bind (impl_ZigGet_ev l a hl (by omega) hv.2) ?_
  simp only [if_true, bne_self_eq_false]
  refine Ev.step (f := fun k => (laws_toByteS.f k l).bind fun t => (laws_eqByteS.f k l t).bind fun t' => if t' = true then some true else some false) (fun k => ?_) ?_
  · simp only [laws_FnExactZigGet.j0, Bool.false_eq_true, if_false]
  refine Ev.bind (toByteS_ev l (by omega)) ?_
  refine Ev.bind (eqByteS_self l (by omega)) ?_
  simp only [if_true]; exact Ev.now _

end Go.Proofs.Ytoehjhmkeaofeaa.Pure
