/- The law FnCrc answers true for every code. -/
import Derived.Test.YtoehjhmkeaofeaaPFnCrcx3
import Derived.Test.YtoehjhmkeaofeaaCom
namespace Go.Proofs.Ytoehjhmkeaofeaa.Pure
open Go Go.RowKit Go.Proofs.Ytoehjhmkeaofeaa.PFnCrc Go.Proofs.YtoehjhmkeaofeaaW.PrintWords Go.Proofs.YtoehjhmkeaofeaaW.PrintLast Go.Proofs.YtoehjhmkeaofeaaW.PrintMore Go.Proofs.Ytoehjhmkeaofeaa.Com
set_option linter.unusedVariables false
set_option linter.unusedSimpArgs false

theorem spec_l1Byte_ev (l : List Int) (i h : Int) (hl : ∀ x ∈ l, (Lit.int .u8 x).wf = true) (hlen : l.length ≤ 1000000000000) (h0 : 0 ≤ i) (h1 : i ≤ l.length) :
    ∃ v i' h', spec_l1Byte.f l i h = some (v, i', h') ∧ 0 ≤ v ∧ v < 256 ∧ 0 ≤ i' ∧ i' ≤ l.length := by
  have m : ∀ x, Go.bits .and .i64 x 255 = x % 256 := fun x => and_mask x 8 (by decide)
  unfold spec_l1Byte.f
  by_cases hi : i < l.length
  · rw [if_pos hi, if_pos h0, m, m, wrap_id (n := i + 1) (by omega) (by omega)]
    exact ⟨_, _, _, rfl, by omega, by omega, by omega, by omega⟩
  · rw [if_neg hi, m]
    exact ⟨_, _, _, rfl, by omega, by omega, by omega, by omega⟩
theorem spec_l1Below_ev (l : List Int) (i h n : Int) (hl : ∀ x ∈ l, (Lit.int .u8 x).wf = true) (hlen : l.length ≤ 1000000000000) (h0 : 0 ≤ i) (h1 : i ≤ l.length) :
    ∃ v i' h', spec_l1Below.f l i h n = some (v, i', h') ∧ 0 ≤ v ∧ (0 < n → v < n) ∧ (n ≤ 0 → v = 0) ∧ 0 ≤ i' ∧ i' ≤ l.length := by
  unfold spec_l1Below.f
  by_cases hn : n ≤ 0
  · rw [if_pos hn]; exact ⟨_, _, _, rfl, by omega, by omega, by omega, h0, h1⟩
  · rw [if_neg hn]
    obtain ⟨v, i1, h2, e, a, b, c, d⟩ := spec_l1Byte_ev l i h hl hlen h0 h1
    by_cases hb : n ≤ 256
    · rw [if_pos hb]
      simp only [e, Option.bind_some]
      rw [if_neg (by omega)]
      refine ⟨_, _, _, rfl, ?_⟩
      rw [Int.tmod_eq_emod_of_nonneg a]
      exact ⟨Int.emod_nonneg _ (by omega), fun _ => Int.emod_lt_of_pos _ (by omega), by omega, c, d⟩
    · rw [if_neg hb]
      obtain ⟨v2, i2, h3, e2, a2, b2, c2, d2⟩ := spec_l1Byte_ev l i1 h2 hl hlen c d
      obtain ⟨v3, i3, h4, e3, a3, b3, c3, d3⟩ := spec_l1Byte_ev l i2 h3 hl hlen c2 d2
      obtain ⟨v4, i4, h5, e4, a4, b4, c4, d4⟩ := spec_l1Byte_ev l i3 h4 hl hlen c3 d3
      simp only [e, e2, e3, e4, Option.bind_some]
      rw [if_neg (by omega), wrap_id (n := v * 16777216) (by omega) (by omega), wrap_id (n := v2 * 65536) (by omega) (by omega), wrap_id (n := v3 * 256) (by omega) (by omega), wrap_id (n := v * 16777216 + v2 * 65536) (by omega) (by omega), wrap_id (n := v * 16777216 + v2 * 65536 + v3 * 256) (by omega) (by omega), wrap_id (by omega) (by omega)]
      refine ⟨_, _, _, rfl, ?_⟩
      rw [Int.tmod_eq_emod_of_nonneg (by omega)]
      exact ⟨Int.emod_nonneg _ (by omega), fun _ => Int.emod_lt_of_pos _ (by omega), by omega, c4, d4⟩
theorem spec_l1New_ev (l : List Int) (hlen : l.length ≤ 1000000000000) : ∃ h, Ev (fun k => spec_l1New.f k l) (l, 0, h) := by
  have key : ∀ (d : Nat) (i x : Int), 0 ≤ i → i ≤ l.length → (l.length : Int) - i = d → ∃ h, Ev (fun k => spec_l1New.l0 k l x i) (l, 0, h) := by
    intro d
    induction d with
    | zero =>
      intro i x h0 h1 hd
      refine ⟨x, Ev.step (f := fun _ => some (l, 0, x)) (fun k => ?_) (Ev.now _)⟩
      simp only [spec_l1New.l0]; rw [if_neg (by omega)]
    | succ d ih =>
      intro i x h0 h1 hd
      by_cases h4 : i < 4000
      · obtain ⟨h, e⟩ := ih (i + 1) (Go.bits .and .i64 (wrap64 ((wrap64 ((wrap64 (x * 131)) + (wrap64 (rd l i)))) + 7)) 1073741823) (by omega) (by omega) (by omega)
        refine ⟨h, Ev.step (fun k => ?_) e⟩
        simp only [spec_l1New.l0]; rw [if_pos (by omega), if_pos h4, if_pos h0, wrap_id (n := i + 1) (by omega) (by omega)]
      · refine ⟨x, Ev.step (f := fun _ => some (l, 0, x)) (fun k => ?_) (Ev.now _)⟩
        simp only [spec_l1New.l0]; rw [if_pos (by omega), if_neg h4]
  obtain ⟨h, e⟩ := key l.length 0 (wrap64 (11443 + (l.length : Int))) (by omega) (by omega) (by omega)
  exact ⟨h, e⟩
theorem laws_big_ev (l : List Int) : laws_big.f l = some (decide ((l.length : Int) > 1048576)) := rfl

theorem byte_wf {x : Int} (h0 : 0 ≤ x) (h1 : x < 256) : (Lit.int .u8 x).wf = true := by simp [Lit.wf, IntKind.min, IntKind.max, IntKind.bits, IntKind.signed]; omega
theorem spec_l1DrawBytes_ev (l : List Int) (i h n : Int) (hl : ∀ x ∈ l, (Lit.int .u8 x).wf = true) (hlen : l.length ≤ 1000000000000) (h0 : 0 ≤ i) (h1 : i ≤ l.length) (hn : 0 ≤ n) (hn1 : n ≤ 1000000) :
    ∃ b i' h', Ev (fun k => spec_l1DrawBytes.f k l i h n) (b, i', h') ∧ (∀ x ∈ b, (Lit.int .u8 x).wf = true) ∧ (b.length : Int) ≤ n ∧ 0 ≤ i' ∧ i' ≤ l.length := by
  obtain ⟨m, i1, g1, e, a, b, _, c, d⟩ := spec_l1Below_ev l i h (n + 1) hl hlen h0 h1
  have b := b (by omega)
  have key : ∀ (d : Nat) (j : Int) (acc : List Int) (i h : Int), 0 ≤ j → j + d = m → (acc.length : Int) = j → (∀ x ∈ acc, (Lit.int .u8 x).wf = true) → 0 ≤ i → i ≤ l.length →
      ∃ b i' h', Ev (fun k => spec_l1DrawBytes.l0 k acc m j l i h) (b, i', h') ∧ (∀ x ∈ b, (Lit.int .u8 x).wf = true) ∧ (b.length : Int) = m ∧ 0 ≤ i' ∧ i' ≤ l.length := by
    intro d
    induction d with
    | zero =>
      intro j acc i h hj hd hacc hwf hi0 hi1
      refine ⟨acc, i, h, Ev.step (f := fun _ => some (acc, i, h)) (fun k => ?_) (Ev.now _), hwf, by omega, hi0, hi1⟩
      simp only [spec_l1DrawBytes.l0]; rw [if_neg (by omega)]
    | succ d ih =>
      intro j acc i h hj hd hacc hwf hi0 hi1
      obtain ⟨v, i2, g2, e2, a2, b2, c2, d2⟩ := spec_l1Byte_ev l i h hl hlen hi0 hi1
      obtain ⟨bs, i3, g3, e3, w3, l3, c3, d3⟩ := ih (j + 1) (acc ++ [v % 256]) i2 g2 (by omega) (by omega) (by simp; omega) (by
        intro x hx
        rcases List.mem_append.1 hx with hx | hx
        · exact hwf x hx
        · rw [List.mem_singleton] at hx; subst hx; exact byte_wf (by omega) (by omega)) c2 d2
      refine ⟨bs, i3, g3, Ev.step (fun k => ?_) e3, w3, l3, c3, d3⟩
      simp only [spec_l1DrawBytes.l0]
      rw [if_pos (by omega), e2]
      simp only [Option.bind_some]
      rw [if_pos (by omega), wrap_id (n := j + 1) (by omega) (by omega)]
  obtain ⟨bs, i3, g3, e3, w3, l3, c3, d3⟩ := key m.toNat 0 [] i1 g1 (by omega) (by omega) (by simp) (by simp) c d
  refine ⟨bs, i3, g3, ?_, w3, by omega, c3, d3⟩
  unfold spec_l1DrawBytes.f
  rw [wrap_id (n := n + 1) (by omega) (by omega)]
  simp only [e, Option.bind_some]
  exact e3
theorem laws_at_ev (l : List Int) (i : Int) (hl : ∀ x ∈ l, (Lit.int .u8 x).wf = true) (hlen : l.length ≤ 1000000000000) (h0 : 0 ≤ i) (h1 : i ≤ 1000) : ∃ v, laws_at.f l i = some v ∧ 0 ≤ v ∧ v < 256 := by
  unfold laws_at.f
  by_cases h : i < l.length
  · have hr := rd_rng8 hl i
    rw [if_pos h, if_pos h0, wrap_id (by omega) (by omega)]; exact ⟨_, rfl, hr.1, hr.2⟩
  · rw [if_neg h, wrap_id (n := i * 7) (by omega) (by omega), wrap_id (n := i * 7 + (l.length : Int)) (by omega) (by omega), Int.tmod_eq_emod_of_nonneg (by omega)]
    exact ⟨_, rfl, by omega, by omega⟩

theorem impl_within_ev (x a b : Int) : impl_within.f x a b = some (decide (a ≤ x ∧ x ≤ b)) := by
  unfold impl_within.f
  by_cases h : x ≥ a
  · rw [if_pos h]; congr 1; simp [show a ≤ x from h]
  · rw [if_neg h]; congr 1; simp [show ¬ a ≤ x from h]

theorem impl_crcNumber_ev (n : Nat) (h : n < 4294967296) : Ev (fun k => impl_crcNumber.f k n) ((cn n : Nat) : Int) := by
  have key : ∀ (d i m : Nat), i + d = 8 → m < 4294967296 → Ev (fun k => impl_crcNumber.l0 k m i) ((citer d m : Nat) : Int) := by
    intro d
    induction d with
    | zero =>
      intro i m hi hm
      refine Ev.step (f := fun _ => some (m : Int)) (fun k => ?_) (Ev.now _)
      simp only [impl_crcNumber.l0]; rw [if_neg (by omega)]
    | succ d ih =>
      intro i m hi hm
      refine Ev.step (fun k => ?_) (ih (i + 1) (cstep m) (by omega) (cstep_lt m hm))
      simp only [impl_crcNumber.l0]
      rw [if_pos (by omega), Int.tmod_eq_emod_of_nonneg (by omega), Int.tdiv_eq_ediv_of_nonneg (by omega), wrap_id (n := (m : Int) / 2) (by omega) (by omega), wrap_id (n := (i : Int) + 1) (by omega) (by omega)]
      unfold cstep
      by_cases ho : m % 2 = 1
      · rw [if_pos (by omega), if_pos ho, show ((m : Int) / 2) = ((m / 2 : Nat) : Int) by omega, show (3988292384 : Int) = ((3988292384 : Nat) : Int) by rfl, xorN _ _ (by omega) (by decide)]
        push_cast; rfl
      · rw [if_neg (by omega), if_neg ho, show ((m : Int) / 2) = ((m / 2 : Nat) : Int) by omega]
        push_cast; rfl
  have := key 8 0 n (by omega) h
  unfold impl_crcNumber.f cn
  simpa using this

/-- The table. -/
def crctab : List Int := (List.range 256).map fun i : Nat => ((cn i : Nat) : Int)
theorem crctab_len : crctab.length = 256 := by simp [crctab]
theorem impl_CrcTable_ev : Ev (fun k => impl_CrcTable.f k) crctab := by
  have key : ∀ (d i : Nat), i + d = 256 → Ev (fun k => impl_CrcTable.l0 k ((List.range i).map fun i : Nat => ((cn i : Nat) : Int)) i) crctab := by
    intro d
    induction d with
    | zero =>
      intro i hi
      refine Ev.step (f := fun _ => some crctab) (fun k => ?_) (Ev.now _)
      simp only [impl_CrcTable.l0]; rw [if_neg (by omega), show i = 256 by omega]; rfl
    | succ d ih =>
      intro i hi
      have h := ih (i + 1) (by omega)
      rw [List.range_succ, List.map_append] at h
      refine Ev.step (f := fun k => (impl_crcNumber.f k (i : Int)).bind fun t => impl_CrcTable.l0 k (((List.range i).map fun i : Nat => ((cn i : Nat) : Int)) ++ [t]) ((i + 1 : Nat) : Int)) (fun k => ?_) ?_
      · simp only [impl_CrcTable.l0]; rw [if_pos (by omega), wrap_id (by omega) (by omega)]; simp only [if_pos (show (((List.range i).map fun i : Nat => ((cn i : Nat) : Int))).length < 17592186044416 by simp; omega)]; push_cast; rfl -- (by omega) (by omega)]; push_cast; rfl
      · refine Ev.bind (impl_crcNumber_ev i (by omega)) ?_
        exact h
  have := key 256 0 (by omega)
  unfold impl_CrcTable.f
  simpa using this

theorem and255 (x : Int) : Go.bits .and .i64 x 255 = x % 256 := and_mask x 8 (by decide)
theorem impl_CrcMore_ev (c : Int) (l : List Int) (hl : ∀ x ∈ l, (Lit.int .u8 x).wf = true) (hlen : l.length ≤ 1000000000000) : Ev (fun k => impl_CrcMore.f k c l) (crcm c l) := by
  unfold impl_CrcMore.f crcm
  simp only [impl_within_ev, Option.bind_some]
  by_cases hc : 0 ≤ c ∧ c ≤ 4294967295
  · simp only [decide_eq_true hc, if_true]
    rw [if_pos hc]
    refine Ev.bind impl_CrcTable_ev ?_
    obtain ⟨n, rfl⟩ := Int.eq_ofNat_of_zero_le hc.1
    have hn : n < 4294967296 := by omega
    rw [show (4294967295 : Int) = ((4294967295 : Nat) : Int) by rfl, xorN n _ (by omega) (by decide)]
    have key : ∀ (d i s : Nat), i + d = l.length → s < 4294967296 → Ev (fun k => impl_CrcMore.l0 k s crctab l l.length i) (((crcl (l.drop i) s ^^^ 4294967295 : Nat)) : Int) := by
      intro d
      induction d with
      | zero =>
        intro i s hi hs
        rw [List.drop_eq_nil_of_le (by omega)]
        refine Ev.step (f := fun _ => some ((s ^^^ 4294967295 : Nat) : Int)) (fun k => ?_) (Ev.now _)
        simp only [impl_CrcMore.l0]; rw [if_neg (by omega), show (4294967295 : Int) = ((4294967295 : Nat) : Int) by rfl, xorN _ _ (by omega) (by decide)]
      | succ d ih =>
        intro i s hi hs
        have hr := rd_rng8 hl (i : Int)
        have hup := cup_lt s (rd l i) hs hr.2
        have h := ih (i + 1) (cup s (rd l i)) (by omega) hup
        have ed : l.drop i = rd l i :: l.drop (i + 1) := by rw [rd_eq l i (by omega)]; exact List.drop_eq_getElem_cons (by omega)
        rw [ed]
        refine Ev.step (fun k => ?_) h
        simp only [impl_CrcMore.l0]
        have hidx : (s % 256 ^^^ (rd l i).toNat) < 256 := Nat.xor_lt_two_pow (n := 8) (by omega) (by omega)
        have e1 : Go.bits .xor .i64 (Go.bits .and .i64 (s : Int) 255) (wrap64 (rd l i)) = ((s % 256 ^^^ (rd l i).toNat : Nat) : Int) := by
          rw [and255, wrap_id (by omega) (by omega)]
          have e2 := xorN (s % 256) (rd l i).toNat (by omega) (by omega)
          rw [Int.toNat_of_nonneg hr.1] at e2
          rw [show ((s : Int) % 256) = ((s % 256 : Nat) : Int) by omega]; exact e2
        rw [if_pos (by omega), if_pos (by omega), if_pos (by omega), e1, if_pos (by omega), if_pos (by rw [crctab_len]; omega), wrap_id (n := (i : Int) + 1) (by omega) (by omega)]
        have e3 : rd crctab ((s % 256 ^^^ (rd l i).toNat : Nat) : Int) = ((cn (s % 256 ^^^ (rd l i).toNat) : Nat) : Int) := by
          rw [rd_eq _ _ (by rw [crctab_len]; exact hidx)]; simp [crctab]
        have hcn := cn_lt (s % 256 ^^^ (rd l i).toNat) (by omega)
        rw [e3, show ((s : Int) / 256) = ((s / 256 : Nat) : Int) by omega, xorN _ _ (by omega) (by omega), Nat.xor_comm]
        push_cast; rfl
    have hx : n ^^^ 4294967295 < 4294967296 := Nat.xor_lt_two_pow (n := 32) hn (by decide)
    have := key l.length 0 (n ^^^ 4294967295) (by omega) hx
    simpa using this
  · simp only [decide_eq_false hc, Bool.false_eq_true, if_false]
    rw [if_neg hc]; exact Ev.now _

theorem impl_CrcOf_ev (l : List Int) (hl : ∀ x ∈ l, (Lit.int .u8 x).wf = true) (hlen : l.length ≤ 1000000000000) : Ev (fun k => impl_CrcOf.f k l) (crcm 0 l) := by
  unfold impl_CrcOf.f
  refine Ev.bind (impl_CrcMore_ev 0 l hl hlen) ?_
  exact Ev.now _

theorem spec_DrawCrcOf_ev (l : List Int) (hl : ∀ x ∈ l, (Lit.int .u8 x).wf = true) (hlen : l.length ≤ 1000000000000) :
    ∃ b, Ev (fun k => spec_DrawCrcOf.f k l) b ∧ (∀ x ∈ b, (Lit.int .u8 x).wf = true) ∧ (b.length : Int) ≤ 60 := by
  obtain ⟨h, e⟩ := spec_l1New_ev l hlen
  have hs : ∃ n, spec_l1Size.f l 60 = some n ∧ 0 ≤ n ∧ n ≤ 60 := by
    unfold spec_l1Size.f
    rw [wrap_id (n := (l.length : Int) / 20) (by omega) (by omega), wrap_id (n := 2 + (l.length : Int) / 20) (by omega) (by omega)]
    by_cases h : 2 + (l.length : Int) / 20 > 60
    · rw [if_pos h]; exact ⟨_, rfl, by omega, by omega⟩
    · rw [if_neg h]; exact ⟨_, rfl, by omega, by omega⟩
  obtain ⟨n, e2, n0, n1⟩ := hs
  obtain ⟨b, i, g, e3, w, lb, _⟩ := spec_l1DrawBytes_ev l 0 h n hl hlen (by omega) (by omega) n0 (by omega)
  refine ⟨b, ?_, w, by omega⟩
  unfold spec_DrawCrcOf.f
  refine Ev.bind e ?_
  simp only [e2, Option.bind_some]
  refine Ev.bind e3 ?_
  exact Ev.now _
theorem bytes8 {l : List Int} (h : ∀ x ∈ l, (Lit.int .u8 x).wf = true) : ∀ x ∈ l, 0 ≤ x ∧ x < 256 := fun x hx => wf8 (h x hx)
theorem crcm_zero (l : List Int) : crcm 0 l = ((crcl l 4294967295 ^^^ 4294967295 : Nat) : Int) := by
  unfold crcm; rw [if_pos (by decide)]; simp
theorem xor8 (x y : Nat) (hx : x < 256) (hy : y < 256) : Go.bits .xor .u8 x y = ((x ^^^ y : Nat) : Int) := by
  unfold Go.bits
  simp only [BitVec.ofInt_natCast, BitVec.toNat_xor, BitVec.toNat_ofNat]
  rw [IntKind.wrap_u8, show 2 ^ IntKind.u8.bits = 256 by rfl, Nat.mod_eq_of_lt hx, Nat.mod_eq_of_lt hy]
  have : x ^^^ y < 2 ^ 8 := Nat.xor_lt_two_pow hx hy
  omega
theorem FnCrc : laws_FnCrc.Pure := by
  intro l hlen hsz hl
  refine Ev.rounds (g := fun k => laws_FnCrc.f k l) ?_
  unfold laws_FnCrc.f
  simp only [laws_big_ev, Option.bind_some]
  by_cases hbig : (l.length : Int) > 1048576
  · simp only [decide_eq_true hbig, if_true]; exact Ev.now _
  simp only [decide_eq_false hbig, Bool.false_eq_true, if_false]
  obtain ⟨a, e, wa, la⟩ := spec_DrawCrcOf_ev l hl (by omega)
  refine Ev.bind e ?_
  refine Ev.bind (impl_CrcOf_ev a wa (by omega)) ?_
  obtain ⟨t1, at1, t10, t11⟩ := laws_at_ev l 1 hl (by omega) (by decide) (by decide)
  rw [wrap_id (n := (a.length : Int) + 1) (by omega) (by omega)]
  simp only [at1, Option.bind_some, if_neg (show ¬ (a.length : Int) + 1 = 0 by omega)]
  have hm0 : 0 ≤ Int.tmod t1 ((a.length : Int) + 1) := by rw [Int.tmod_eq_emod_of_nonneg t10]; exact Int.emod_nonneg _ (by omega)
  have hm1 : Int.tmod t1 ((a.length : Int) + 1) ≤ a.length := by
    have := Int.emod_lt_of_pos t1 (show (0 : Int) < (a.length : Int) + 1 by omega)
    rw [Int.tmod_eq_emod_of_nonneg t10]; omega
  generalize Int.tmod t1 ((a.length : Int) + 1) = c at hm0 hm1
  simp only [if_pos hm0, if_pos hm1]
  have wt : ∀ x ∈ a.take c.toNat, (Lit.int .u8 x).wf = true := fun x hx => wa x (List.mem_of_mem_take hx)
  have wd : ∀ x ∈ a.drop c.toNat, (Lit.int .u8 x).wf = true := fun x hx => wa x (List.mem_of_mem_drop hx)
  refine Ev.bind (impl_CrcOf_ev _ wt (by simp; omega)) ?_
  refine Ev.bind (impl_CrcMore_ev _ _ wd (by simp; omega)) ?_
  have l1 := crcl_lt (a.take c.toNat) 4294967295 (by decide) (bytes8 wt)
  have l2 := crcl_lt a 4294967295 (by decide) (bytes8 wa)
  have hx1 : crcl (a.take c.toNat) 4294967295 ^^^ 4294967295 < 2 ^ 32 := Nat.xor_lt_two_pow l1 (by decide)
  have hx2 : crcl a 4294967295 ^^^ 4294967295 < 2 ^ 32 := Nat.xor_lt_two_pow l2 (by decide)
  have ecut : crcm (crcm 0 (a.take c.toNat)) (a.drop c.toNat) = crcm 0 a := by
    rw [crcm_zero, crcm_zero]
    unfold crcm
    rw [if_pos (by omega), Int.toNat_natCast, Nat.xor_assoc, Nat.xor_self, Nat.xor_zero, ← crcl_append, List.take_append_drop]
  rw [ecut]
  have c0 : ¬ crcm 0 a < 0 := by rw [crcm_zero]; omega
  have c1 : ¬ crcm 0 a > 4294967295 := by rw [crcm_zero]; omega
  simp only [if_true, if_neg c0, if_neg c1]
  refine Ev.bind (impl_CrcOf_ev [] (by simp) (by simp)) ?_
  have z : crcm 0 [] = 0 := by rw [crcm_zero]; simp [crcl]
  simp only [z, bne_self_eq_false]
  by_cases ha : (a.length : Int) = 0
  · refine Ev.step (f := fun k => (impl_CrcTable.f k).bind fun t => some ((t.length : Int) == 256)) (fun k => ?_) ?_
    · simp only [laws_FnCrc.j0]; rw [if_neg (by simp), if_pos ha]
    · refine Ev.bind impl_CrcTable_ev ?_
      rw [crctab_len]; exact Ev.now _
  · obtain ⟨t2, at2, t20, t21⟩ := laws_at_ev l 2 hl (by omega) (by decide) (by decide)
    obtain ⟨t3, at3, t30, t31⟩ := laws_at_ev l 3 hl (by omega) (by decide) (by decide)
    have hj0 : 0 ≤ Int.tmod (t2 * 7) (a.length : Int) := by rw [Int.tmod_eq_emod_of_nonneg (by omega)]; exact Int.emod_nonneg _ ha
    have hj1 : Int.tmod (t2 * 7) (a.length : Int) < a.length := by
      rw [Int.tmod_eq_emod_of_nonneg (by omega)]; exact Int.emod_lt_of_pos _ (by omega)
    generalize hj : Int.tmod (t2 * 7) (a.length : Int) = j at hj0 hj1
    have hr := rd_rng8 wa j
    have hv : (wrap64 (1 + (Int.tmod t3 255))) % 256 = 1 + t3 % 255 := by
      rw [Int.tmod_eq_emod_of_nonneg t30, wrap_id (by omega) (by omega)]; omega
    have hne : Go.bits .xor .u8 (rd a j) ((wrap64 (1 + (Int.tmod t3 255))) % 256) ≠ rd a j ∧ 0 ≤ Go.bits .xor .u8 (rd a j) ((wrap64 (1 + (Int.tmod t3 255))) % 256) ∧ Go.bits .xor .u8 (rd a j) ((wrap64 (1 + (Int.tmod t3 255))) % 256) < 256 := by
      rw [hv]
      obtain ⟨x, hx⟩ := Int.eq_ofNat_of_zero_le hr.1
      obtain ⟨y, hy⟩ := Int.eq_ofNat_of_zero_le (show 0 ≤ 1 + t3 % 255 by omega)
      rw [hx, hy, xor8 x y (by omega) (by omega)]
      have hlt : x ^^^ y < 2 ^ 8 := Nat.xor_lt_two_pow (by omega) (by omega)
      refine ⟨?_, by omega, by omega⟩
      intro h
      have h2 : x ^^^ y = x := by exact_mod_cast h
      have h3 := congrArg (x ^^^ ·) h2
      simp only [← Nat.xor_assoc, Nat.xor_self, Nat.zero_xor] at h3
      omega
    generalize hnv : Go.bits .xor .u8 (rd a j) ((wrap64 (1 + (Int.tmod t3 255))) % 256) = v at hne
    have wb : ∀ x ∈ a.set j.toNat v, (Lit.int .u8 x).wf = true := by
      intro x hx
      rcases List.mem_or_eq_of_mem_set hx with h | h
      · exact wa x h
      · subst h; exact byte_wf hne.2.1 hne.2.2
    refine Ev.step (f := fun k => (impl_CrcOf.f k (a.set j.toNat v)).bind fun t => some (t != crcm 0 a)) (fun k => ?_) ?_
    · simp only [laws_FnCrc.j0]
      rw [if_neg (by simp), if_neg ha]
      simp only [Option.bind_some, List.nil_append, List.length_nil, Nat.zero_add]
      rw [if_pos (by omega)]
      simp only [at2, at3, Option.bind_some]
      rw [wrap_id (n := t2 * 7) (by omega) (by omega), hj, if_neg ha, if_pos hj0, if_pos hj1, hnv]
    · refine Ev.bind (impl_CrcOf_ev _ wb (by simp; omega)) ?_
      have hd : crcm 0 (a.set j.toNat v) ≠ crcm 0 a := by
        rw [crcm_zero, crcm_zero]
        intro h
        have h2 : crcl (a.set j.toNat v) 4294967295 ^^^ 4294967295 = crcl a 4294967295 ^^^ 4294967295 := by exact_mod_cast h
        have h3 := congrArg (· ^^^ 4294967295) h2
        simp only [Nat.xor_assoc, Nat.xor_self, Nat.xor_zero] at h3
        have ea : a = a.take j.toNat ++ rd a j :: a.drop (j.toNat + 1) := by
          rw [rd_eq' _ _ hj0 (by omega), ← List.drop_eq_getElem_cons (by omega), List.take_append_drop]
        have eb : a.set j.toNat v = a.take j.toNat ++ v :: a.drop (j.toNat + 1) := List.set_eq_take_append_cons_drop .. |>.trans (if_pos (by omega))
        rw [eb] at h3
        conv at h3 => rhs; rw [ea]
        rw [crcl_append, crcl_append] at h3
        have wt2 : ∀ x ∈ a.take j.toNat, 0 ≤ x ∧ x < 256 := fun x hx => wf8 (wa x (List.mem_of_mem_take hx))
        have wd2 : ∀ x ∈ a.drop (j.toNat + 1), 0 ≤ x ∧ x < 256 := fun x hx => wf8 (wa x (List.mem_of_mem_drop hx))
        have hs := crcl_lt (a.take j.toNat) 4294967295 (by decide) wt2
        have h4 := crcl_inj (a.drop (j.toNat + 1)) _ _ (cup_lt _ v hs hne.2.2) (cup_lt _ (rd a j) hs hr.2) wd2 h3
        exact hne.1 (cup_byte _ _ _ hs hne.2 hr h4)
      have : (crcm 0 (a.set j.toNat v) != crcm 0 a) = true := by simpa using hd
      rw [this]; exact Ev.now _

end Go.Proofs.Ytoehjhmkeaofeaa.Pure
