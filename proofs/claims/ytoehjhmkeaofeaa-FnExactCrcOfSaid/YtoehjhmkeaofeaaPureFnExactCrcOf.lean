/- CrcOf answers as the reference does, for all bytes. -/
import Derived.Test.YtoehjhmkeaofeaaPFnExactCrcOfx2
import Derived.Test.YtoehjhmkeaofeaaCom
namespace Go.Proofs.Ytoehjhmkeaofeaa.Pure
open Go Go.RowKit Go.Proofs.Ytoehjhmkeaofeaa.PFnExactCrcOf Go.Proofs.YtoehjhmkeaofeaaW.PrintWords Go.Proofs.YtoehjhmkeaofeaaW.PrintLast Go.Proofs.YtoehjhmkeaofeaaW.PrintMore Go.Proofs.Ytoehjhmkeaofeaa.Com
set_option linter.unusedVariables false
set_option linter.unusedSimpArgs false

theorem toByteS_ev (a : List Int) (hn : a.length ≤ 1000000000000) : Ev (fun k => laws_toByteS.f k a) a := by
  have key : ∀ (d : Nat) (i : Nat) (r : List Int), r.length = d → i + d = a.length → Ev (fun k => laws_toByteS.l0 k a (a.take i ++ r) i) a := by
    intro d
    induction d with
    | zero =>
      intro i r hr hd
      obtain rfl : r = [] := List.length_eq_zero_iff.1 hr
      refine Ev.step (f := fun _ => some a) (fun k => ?_) (Ev.now _)
      simp only [laws_toByteS.l0]; rw [if_neg (by omega)]
      rw [show i = a.length by omega]; simp
    | succ d ih =>
      intro i r hr hd
      refine Ev.step (f := fun k => laws_toByteS.l0 k a (a.take (i + 1) ++ r.tail) (i + 1 : Nat)) (fun k => ?_) (ih (i + 1) r.tail (by simp [hr]) (by omega))
      simp only [laws_toByteS.l0]; rw [if_pos (by omega), if_pos (by omega), if_pos (by simp; omega), wrap_id (by omega) (by omega)]
      rw [set_mid _ _ _ _ (by simp; omega) (by omega), rd_eq' _ _ (by omega) (by simp; omega)]
      rw [List.take_succ_eq_append_getElem (by omega)]; simp
  have h := key a.length 0 (List.replicate a.length 0) (by simp) (by omega)
  unfold laws_toByteS.f
  simp only [if_pos (show (0:Int) ≤ a.length by omega), if_pos (show ((a.length : Int)).toNat ≤ 281474976710656 by omega)]
  simpa using h

theorem eqByteS_self (a : List Int) (hn : a.length ≤ 1000000000000000000) : Ev (fun k => laws_eqByteS.f k a a) true := by
  have key : ∀ (d : Nat) (i : Int), 0 ≤ i → i ≤ a.length → (a.length : Int) - i = d → Ev (fun k => laws_eqByteS.l0 k a a i) true := by
    intro d
    induction d with
    | zero =>
      intro i h0 h1 hd
      refine Ev.step (f := fun _ => some true) (fun k => ?_) (Ev.now _)
      simp only [laws_eqByteS.l0]; rw [if_neg (by omega)]
    | succ d ih =>
      intro i h0 h1 hd
      refine Ev.step (f := fun k => laws_eqByteS.l0 k a a (i + 1)) (fun k => ?_) (ih (i + 1) (by omega) (by omega) (by omega))
      simp only [laws_eqByteS.l0]; rw [if_pos (by omega), if_pos h0, if_pos (by omega), if_pos trivial, wrap_id (by omega) (by omega)]
  have h := key a.length 0 (by omega) (by omega) (by omega)
  unfold laws_eqByteS.f
  simpa using h

theorem spec_l1In_ev (x a b : Int) : spec_l1In.f x a b = some (decide (a ≤ x ∧ x ≤ b)) := by
  unfold spec_l1In.f
  by_cases h : x ≥ a
  · rw [if_pos h]; congr 1; simp [show a ≤ x from h]
  · rw [if_neg h]; congr 1; simp [show ¬ a ≤ x from h]

theorem spec_l3Turn_ev (n : Nat) (h : n < 4294967296) : Ev (fun k => spec_l3Turn.f k n) ((cn n : Nat) : Int) := by
  have key : ∀ (d i m : Nat), i + d = 8 → m < 4294967296 → Ev (fun k => spec_l3Turn.l0 k m i) ((citer d m : Nat) : Int) := by
    intro d
    induction d with
    | zero =>
      intro i m hi hm
      refine Ev.step (f := fun _ => some (m : Int)) (fun k => ?_) (Ev.now _)
      simp only [spec_l3Turn.l0]; rw [if_neg (by omega)]
    | succ d ih =>
      intro i m hi hm
      refine Ev.step (fun k => ?_) (ih (i + 1) (cstep m) (by omega) (cstep_lt m hm))
      simp only [spec_l3Turn.l0]
      rw [if_pos (by omega), and_one, Int.tdiv_eq_ediv_of_nonneg (by omega), wrap_id (n := (m : Int) / 2) (by omega) (by omega), wrap_id (n := (i : Int) + 1) (by omega) (by omega)]
      unfold cstep
      by_cases ho : m % 2 = 1
      · rw [if_pos (by omega), if_pos ho, show ((m : Int) / 2) = ((m / 2 : Nat) : Int) by omega, show (3988292384 : Int) = ((3988292384 : Nat) : Int) by rfl, xorN _ _ (by omega) (by decide)]
        push_cast; rfl
      · rw [if_neg (by omega), if_neg ho, show ((m : Int) / 2) = ((m / 2 : Nat) : Int) by omega]
        push_cast; rfl
  have := key 8 0 n (by omega) h
  unfold spec_l3Turn.f cn
  simpa using this

theorem impl_within_ev (x a b : Int) : impl_within.f x a b = some (decide (a ≤ x ∧ x ≤ b)) := by
  unfold impl_within.f
  by_cases h : x ≥ a
  · rw [if_pos h]; congr 1; simp [show a ≤ x from h]
  · rw [if_neg h]; congr 1; simp [show ¬ a ≤ x from h]

theorem impl_crcNumber_ev (n : Nat) (h : n < 4294967296) : Ev (fun k => impl_crcNumber.f k n) ((cn n : Nat) : Int) := by
  have key : ∀ (d i m : Nat), i + d = 8 → m < 4294967296 → Ev (fun k => impl_crcNumber.l0 k m i) ((citer d m : Nat) : Int) := by
    intro d
    induction d with
    | zero =>
      intro i m hi hm
      refine Ev.step (f := fun _ => some (m : Int)) (fun k => ?_) (Ev.now _)
      simp only [impl_crcNumber.l0]; rw [if_neg (by omega)]
    | succ d ih =>
      intro i m hi hm
      refine Ev.step (fun k => ?_) (ih (i + 1) (cstep m) (by omega) (cstep_lt m hm))
      simp only [impl_crcNumber.l0]
      rw [if_pos (by omega), Int.tmod_eq_emod_of_nonneg (by omega), Int.tdiv_eq_ediv_of_nonneg (by omega), wrap_id (n := (m : Int) / 2) (by omega) (by omega), wrap_id (n := (i : Int) + 1) (by omega) (by omega)]
      unfold cstep
      by_cases ho : m % 2 = 1
      · rw [if_pos (by omega), if_pos ho, show ((m : Int) / 2) = ((m / 2 : Nat) : Int) by omega, show (3988292384 : Int) = ((3988292384 : Nat) : Int) by rfl, xorN _ _ (by omega) (by decide)]
        push_cast; rfl
      · rw [if_neg (by omega), if_neg ho, show ((m : Int) / 2) = ((m / 2 : Nat) : Int) by omega]
        push_cast; rfl
  have := key 8 0 n (by omega) h
  unfold impl_crcNumber.f cn
  simpa using this

/-- The table. -/
def crctab : List Int := (List.range 256).map fun i : Nat => ((cn i : Nat) : Int)
theorem crctab_len : crctab.length = 256 := by simp [crctab]
theorem impl_CrcTable_ev : Ev (fun k => impl_CrcTable.f k) crctab := by
  have key : ∀ (d i : Nat), i + d = 256 → Ev (fun k => impl_CrcTable.l0 k ((List.range i).map fun i : Nat => ((cn i : Nat) : Int)) i) crctab := by
    intro d
    induction d with
    | zero =>
      intro i hi
      refine Ev.step (f := fun _ => some crctab) (fun k => ?_) (Ev.now _)
      simp only [impl_CrcTable.l0]; rw [if_neg (by omega), show i = 256 by omega]; rfl
    | succ d ih =>
      intro i hi
      have h := ih (i + 1) (by omega)
      rw [List.range_succ, List.map_append] at h
      refine Ev.step (f := fun k => (impl_crcNumber.f k (i : Int)).bind fun t => impl_CrcTable.l0 k (((List.range i).map fun i : Nat => ((cn i : Nat) : Int)) ++ [t]) ((i + 1 : Nat) : Int)) (fun k => ?_) ?_
      · simp only [impl_CrcTable.l0]; rw [if_pos (by omega), wrap_id (by omega) (by omega)]; simp only [if_pos (show (((List.range i).map fun i : Nat => ((cn i : Nat) : Int))).length < 17592186044416 by simp; omega)]; push_cast; rfl -- (by omega) (by omega)]; push_cast; rfl
      · refine Ev.bind (impl_crcNumber_ev i (by omega)) ?_
        exact h
  have := key 256 0 (by omega)
  unfold impl_CrcTable.f
  simpa using this

theorem and255 (x : Int) : Go.bits .and .i64 x 255 = x % 256 := and_mask x 8 (by decide)
theorem impl_CrcMore_ev (c : Int) (l : List Int) (hl : ∀ x ∈ l, (Lit.int .u8 x).wf = true) (hlen : l.length ≤ 1000000000000) : Ev (fun k => impl_CrcMore.f k c l) (crcm c l) := by
  unfold impl_CrcMore.f crcm
  simp only [impl_within_ev, Option.bind_some]
  by_cases hc : 0 ≤ c ∧ c ≤ 4294967295
  · simp only [decide_eq_true hc, if_true]
    rw [if_pos hc]
    refine Ev.bind impl_CrcTable_ev ?_
    obtain ⟨n, rfl⟩ := Int.eq_ofNat_of_zero_le hc.1
    have hn : n < 4294967296 := by omega
    rw [show (4294967295 : Int) = ((4294967295 : Nat) : Int) by rfl, xorN n _ (by omega) (by decide)]
    have key : ∀ (d i s : Nat), i + d = l.length → s < 4294967296 → Ev (fun k => impl_CrcMore.l0 k s crctab l l.length i) (((crcl (l.drop i) s ^^^ 4294967295 : Nat)) : Int) := by
      intro d
      induction d with
      | zero =>
        intro i s hi hs
        rw [List.drop_eq_nil_of_le (by omega)]
        refine Ev.step (f := fun _ => some ((s ^^^ 4294967295 : Nat) : Int)) (fun k => ?_) (Ev.now _)
        simp only [impl_CrcMore.l0]; rw [if_neg (by omega), show (4294967295 : Int) = ((4294967295 : Nat) : Int) by rfl, xorN _ _ (by omega) (by decide)]
      | succ d ih =>
        intro i s hi hs
        have hr := rd_rng8 hl (i : Int)
        have hup := cup_lt s (rd l i) hs hr.2
        have h := ih (i + 1) (cup s (rd l i)) (by omega) hup
        have ed : l.drop i = rd l i :: l.drop (i + 1) := by rw [rd_eq l i (by omega)]; exact List.drop_eq_getElem_cons (by omega)
        rw [ed]
        refine Ev.step (fun k => ?_) h
        simp only [impl_CrcMore.l0]
        have hidx : (s % 256 ^^^ (rd l i).toNat) < 256 := Nat.xor_lt_two_pow (n := 8) (by omega) (by omega)
        have e1 : Go.bits .xor .i64 (Go.bits .and .i64 (s : Int) 255) (wrap64 (rd l i)) = ((s % 256 ^^^ (rd l i).toNat : Nat) : Int) := by
          rw [and255, wrap_id (by omega) (by omega)]
          have e2 := xorN (s % 256) (rd l i).toNat (by omega) (by omega)
          rw [Int.toNat_of_nonneg hr.1] at e2
          rw [show ((s : Int) % 256) = ((s % 256 : Nat) : Int) by omega]; exact e2
        rw [if_pos (by omega), if_pos (by omega), if_pos (by omega), e1, if_pos (by omega), if_pos (by rw [crctab_len]; omega), wrap_id (n := (i : Int) + 1) (by omega) (by omega)]
        have e3 : rd crctab ((s % 256 ^^^ (rd l i).toNat : Nat) : Int) = ((cn (s % 256 ^^^ (rd l i).toNat) : Nat) : Int) := by
          rw [rd_eq _ _ (by rw [crctab_len]; exact hidx)]; simp [crctab]
        have hcn := cn_lt (s % 256 ^^^ (rd l i).toNat) (by omega)
        rw [e3, show ((s : Int) / 256) = ((s / 256 : Nat) : Int) by omega, xorN _ _ (by omega) (by omega), Nat.xor_comm]
        push_cast; rfl
    have hx : n ^^^ 4294967295 < 4294967296 := Nat.xor_lt_two_pow (n := 32) hn (by decide)
    have := key l.length 0 (n ^^^ 4294967295) (by omega) hx
    simpa using this
  · simp only [decide_eq_false hc, Bool.false_eq_true, if_false]
    rw [if_neg hc]; exact Ev.now _

theorem spec_CrcMore_ev (c : Int) (l : List Int) (hl : ∀ x ∈ l, (Lit.int .u8 x).wf = true) (hlen : l.length ≤ 1000000000000) : Ev (fun k => spec_CrcMore.f k c l) (crcm c l) := by
  unfold spec_CrcMore.f crcm
  simp only [spec_l1In_ev, Option.bind_some]
  by_cases hc : 0 ≤ c ∧ c ≤ 4294967295
  · simp only [decide_eq_true hc, if_true]
    rw [if_pos hc]
    obtain ⟨n, rfl⟩ := Int.eq_ofNat_of_zero_le hc.1
    have hn : n < 4294967296 := by omega
    rw [show (4294967295 : Int) = ((4294967295 : Nat) : Int) by rfl, xorN n _ (by omega) (by decide)]
    have key : ∀ (d i s : Nat), i + d = l.length → s < 4294967296 → Ev (fun k => spec_CrcMore.l0 k l s i) (((crcl (l.drop i) s ^^^ 4294967295 : Nat)) : Int) := by
      intro d
      induction d with
      | zero =>
        intro i s hi hs
        rw [List.drop_eq_nil_of_le (by omega)]
        refine Ev.step (f := fun _ => some ((s ^^^ 4294967295 : Nat) : Int)) (fun k => ?_) (Ev.now _)
        simp only [spec_CrcMore.l0]; rw [if_neg (by omega), show (4294967295 : Int) = ((4294967295 : Nat) : Int) by rfl, xorN _ _ (by omega) (by decide)]
      | succ d ih =>
        intro i s hi hs
        have hr := rd_rng8 hl (i : Int)
        have hup := cup_lt s (rd l i) hs hr.2
        have h := ih (i + 1) (cup s (rd l i)) (by omega) hup
        have ed : l.drop i = rd l i :: l.drop (i + 1) := by rw [rd_eq l i (by omega)]; exact List.drop_eq_getElem_cons (by omega)
        rw [ed]
        have hidx : (s % 256 ^^^ (rd l i).toNat) < 256 := Nat.xor_lt_two_pow (n := 8) (by omega) (by omega)
        have e1 : Go.bits .xor .i64 (Go.bits .and .i64 (s : Int) 255) (wrap64 (rd l i)) = ((s % 256 ^^^ (rd l i).toNat : Nat) : Int) := by
          rw [and255, wrap_id (by omega) (by omega)]
          have e2 := xorN (s % 256) (rd l i).toNat (by omega) (by omega)
          rw [Int.toNat_of_nonneg hr.1] at e2
          rw [show ((s : Int) % 256) = ((s % 256 : Nat) : Int) by omega]; exact e2
        refine Ev.step (f := fun k => (spec_l3Turn.f k ((s % 256 ^^^ (rd l i).toNat : Nat) : Int)).bind fun t => spec_CrcMore.l0 k l (Go.bits .xor .i64 ((s : Int) / 256) t) ((i + 1 : Nat) : Int)) (fun k => ?_) ?_
        · simp only [spec_CrcMore.l0]
          rw [if_pos (by omega), if_pos (by omega), e1, wrap_id (n := (i : Int) + 1) (by omega) (by omega)]
          push_cast; rfl
        · refine Ev.bind (spec_l3Turn_ev _ (by omega)) ?_
          have hcn := cn_lt (s % 256 ^^^ (rd l i).toNat) (by omega)
          rw [show ((s : Int) / 256) = ((s / 256 : Nat) : Int) by omega, xorN _ _ (by omega) (by omega)]
          exact h
    have hx : n ^^^ 4294967295 < 4294967296 := Nat.xor_lt_two_pow (n := 32) hn (by decide)
    have := key l.length 0 (n ^^^ 4294967295) (by omega) hx
    simpa using this
  · simp only [decide_eq_false hc, Bool.false_eq_true, if_false]
    rw [if_neg hc]; exact Ev.now _

theorem impl_CrcOf_ev (l : List Int) (hl : ∀ x ∈ l, (Lit.int .u8 x).wf = true) (hlen : l.length ≤ 1000000000000) : Ev (fun k => impl_CrcOf.f k l) (crcm 0 l) := by
  unfold impl_CrcOf.f
  refine Ev.bind (impl_CrcMore_ev 0 l hl hlen) ?_
  exact Ev.now _

theorem spec_CrcOf_ev (l : List Int) (hl : ∀ x ∈ l, (Lit.int .u8 x).wf = true) (hlen : l.length ≤ 1000000000000) : Ev (fun k => spec_CrcOf.f k l) (crcm 0 l) := by
  unfold spec_CrcOf.f
  refine Ev.bind (spec_CrcMore_ev 0 l hl hlen) ?_
  exact Ev.now _
theorem FnExactCrcOf : laws_FnExactCrcOf.Pure := by
  intro l hlen hsz hl
  refine Ev.rounds (g := fun k => laws_FnExactCrcOf.f k l) ?_
  unfold laws_FnExactCrcOf.f
  by_cases hbig : (l.length : Int) > 1048576
  · simp only [if_pos hbig]; exact Ev.now _
  simp only [if_neg hbig]
  refine Ev.bind (toByteS_ev l (by omega)) ?_
  refine Ev.bind (spec_CrcOf_ev l hl (by omega)) ?_
  refine Ev.bind (toByteS_ev l (by omega)) ?_
  refine Ev.bind (impl_CrcOf_ev l hl (by omega)) ?_
  simp only [if_true]
  refine Ev.bind (toByteS_ev l (by omega)) ?_
  refine Ev.bind (eqByteS_self l (by omega)) ?_
  simp only [if_true]; exact Ev.now _

end Go.Proofs.Ytoehjhmkeaofeaa.Pure
