/- The law FnVarRead answers true for every code. -/
import Derived.Test.YtbiibjbhgeenoaaPFnVarReadx3
import Derived.Test.YtbiibjbhgeenoaaCom
namespace Go.Proofs.Ytbiibjbhgeenoaa.Pure
open Go Go.RowKit Go.Proofs.Ytbiibjbhgeenoaa.PFnVarRead Go.Proofs.YtbiibjbhgeenoaaW.PrintWords Go.Proofs.YtbiibjbhgeenoaaW.PrintLast Go.Proofs.YtbiibjbhgeenoaaW.PrintMore Go.Proofs.Ytbiibjbhgeenoaa.Com
set_option linter.unusedVariables false
set_option linter.unusedSimpArgs false

theorem spec_l1Byte_ev (l : List Int) (i h : Int) (hl : ∀ x ∈ l, (Lit.int .u8 x).wf = true) (hlen : l.length ≤ 1000000000000) (h0 : 0 ≤ i) (h1 : i ≤ l.length) :
    ∃ v i' h', spec_l1Byte.f l i h = some (v, i', h') ∧ 0 ≤ v ∧ v < 256 ∧ 0 ≤ i' ∧ i' ≤ l.length := by
  have m : ∀ x, Go.bits .and .i64 x 255 = x % 256 := fun x => and_mask x 8 (by decide)
  unfold spec_l1Byte.f
  by_cases hi : i < l.length
  · rw [if_pos hi, if_pos h0, m, m, wrap_id (n := i + 1) (by omega) (by omega)]
    exact ⟨_, _, _, rfl, by omega, by omega, by omega, by omega⟩
  · rw [if_neg hi, m]
    exact ⟨_, _, _, rfl, by omega, by omega, by omega, by omega⟩
theorem spec_l1Below_ev (l : List Int) (i h n : Int) (hl : ∀ x ∈ l, (Lit.int .u8 x).wf = true) (hlen : l.length ≤ 1000000000000) (h0 : 0 ≤ i) (h1 : i ≤ l.length) :
    ∃ v i' h', spec_l1Below.f l i h n = some (v, i', h') ∧ 0 ≤ v ∧ (0 < n → v < n) ∧ (n ≤ 0 → v = 0) ∧ 0 ≤ i' ∧ i' ≤ l.length := by
  unfold spec_l1Below.f
  by_cases hn : n ≤ 0
  · rw [if_pos hn]; exact ⟨_, _, _, rfl, by omega, by omega, by omega, h0, h1⟩
  · rw [if_neg hn]
    obtain ⟨v, i1, h2, e, a, b, c, d⟩ := spec_l1Byte_ev l i h hl hlen h0 h1
    by_cases hb : n ≤ 256
    · rw [if_pos hb]
      simp only [e, Option.bind_some]
      rw [if_neg (by omega)]
      refine ⟨_, _, _, rfl, ?_⟩
      rw [Int.tmod_eq_emod_of_nonneg a]
      exact ⟨Int.emod_nonneg _ (by omega), fun _ => Int.emod_lt_of_pos _ (by omega), by omega, c, d⟩
    · rw [if_neg hb]
      obtain ⟨v2, i2, h3, e2, a2, b2, c2, d2⟩ := spec_l1Byte_ev l i1 h2 hl hlen c d
      obtain ⟨v3, i3, h4, e3, a3, b3, c3, d3⟩ := spec_l1Byte_ev l i2 h3 hl hlen c2 d2
      obtain ⟨v4, i4, h5, e4, a4, b4, c4, d4⟩ := spec_l1Byte_ev l i3 h4 hl hlen c3 d3
      simp only [e, e2, e3, e4, Option.bind_some]
      rw [if_neg (by omega), wrap_id (n := v * 16777216) (by omega) (by omega), wrap_id (n := v2 * 65536) (by omega) (by omega), wrap_id (n := v3 * 256) (by omega) (by omega), wrap_id (n := v * 16777216 + v2 * 65536) (by omega) (by omega), wrap_id (n := v * 16777216 + v2 * 65536 + v3 * 256) (by omega) (by omega), wrap_id (by omega) (by omega)]
      refine ⟨_, _, _, rfl, ?_⟩
      rw [Int.tmod_eq_emod_of_nonneg (by omega)]
      exact ⟨Int.emod_nonneg _ (by omega), fun _ => Int.emod_lt_of_pos _ (by omega), by omega, c4, d4⟩
theorem spec_l1New_ev (l : List Int) (hlen : l.length ≤ 1000000000000) : ∃ h, Ev (fun k => spec_l1New.f k l) (l, 0, h) := by
  have key : ∀ (d : Nat) (i x : Int), 0 ≤ i → i ≤ l.length → (l.length : Int) - i = d → ∃ h, Ev (fun k => spec_l1New.l0 k l x i) (l, 0, h) := by
    intro d
    induction d with
    | zero =>
      intro i x h0 h1 hd
      refine ⟨x, Ev.step (f := fun _ => some (l, 0, x)) (fun k => ?_) (Ev.now _)⟩
      simp only [spec_l1New.l0]; rw [if_neg (by omega)]
    | succ d ih =>
      intro i x h0 h1 hd
      by_cases h4 : i < 4000
      · obtain ⟨h, e⟩ := ih (i + 1) (Go.bits .and .i64 (wrap64 ((wrap64 ((wrap64 (x * 131)) + (wrap64 (rd l i)))) + 7)) 1073741823) (by omega) (by omega) (by omega)
        refine ⟨h, Ev.step (fun k => ?_) e⟩
        simp only [spec_l1New.l0]; rw [if_pos (by omega), if_pos h4, if_pos h0, wrap_id (n := i + 1) (by omega) (by omega)]
      · refine ⟨x, Ev.step (f := fun _ => some (l, 0, x)) (fun k => ?_) (Ev.now _)⟩
        simp only [spec_l1New.l0]; rw [if_pos (by omega), if_neg h4]
  obtain ⟨h, e⟩ := key l.length 0 (wrap64 (11443 + (l.length : Int))) (by omega) (by omega) (by omega)
  exact ⟨h, e⟩
theorem laws_big_ev (l : List Int) : laws_big.f l = some (decide ((l.length : Int) > 1048576)) := rfl

theorem spec_l1PickInt_ev (l : List Int) (i h : Int) (p : List Int) (hl : ∀ x ∈ l, (Lit.int .u8 x).wf = true) (hlen : l.length ≤ 1000000000000) (h0 : 0 ≤ i) (h1 : i ≤ l.length) (hp : 0 < p.length) :
    ∃ v i' h', spec_l1PickInt.f l i h p = some (v, i', h') ∧ v ∈ p ∧ 0 ≤ i' ∧ i' ≤ l.length := by
  unfold spec_l1PickInt.f
  obtain ⟨v, i1, h2, e, a, b, _, c, d⟩ := spec_l1Below_ev l i h p.length hl hlen h0 h1
  have b := b (by omega)
  simp only [e, Option.bind_some]
  rw [if_pos a, if_pos b]
  refine ⟨_, _, _, rfl, ?_, c, d⟩
  rw [rd_eq' _ _ a (by omega)]; exact List.getElem_mem _

theorem spec_l2DrawNum_ev (l : List Int) (i h : Int) (hl : ∀ x ∈ l, (Lit.int .u8 x).wf = true) (hlen : l.length ≤ 1000000000000) (h0 : 0 ≤ i) (h1 : i ≤ l.length) :
    ∃ v i' h', spec_l2DrawNum.f l i h = some (v, i', h') ∧ -9223372036854775808 ≤ v ∧ v < 9223372036854775808 ∧ 0 ≤ i' ∧ i' ≤ l.length := by
  unfold spec_l2DrawNum.f
  obtain ⟨v, i1, g1, e, a, b, _, c, d⟩ := spec_l1Below_ev l i h 1000000 hl hlen h0 h1
  obtain ⟨v2, i2, g2, e2, a2, b2, _, c2, d2⟩ := spec_l1Below_ev l i1 g1 1000000 hl hlen c d
  obtain ⟨v3, i3, g3, e3, a3, b3, _, c3, d3⟩ := spec_l1Below_ev l i2 g2 300 hl hlen c2 d2
  have b := b (by decide)
  have b2 := b2 (by decide)
  have b3 := b3 (by decide)
  simp only [e, e2, e3, Option.bind_some]
  rw [wrap_id (n := -v2) (by omega) (by omega)]
  obtain ⟨w, i4, g4, e4, hm, c4, d4⟩ := spec_l1PickInt_ev l i3 g3 [0, 1, (-1), 63, 64, (-64), (-65), 127, 128, 16383, 16384, 2147483647, (-2147483648), 9223372036854775807, (-9223372036854775808), 4611686018427387904, v, -v2, v3] hl hlen c3 d3 (by simp)
  simp only [e4, Option.bind_some]
  refine ⟨_, _, _, rfl, ?_, ?_, c4, d4⟩
  · simp only [List.mem_cons, List.not_mem_nil, or_false] at hm; omega
  · simp only [List.mem_cons, List.not_mem_nil, or_false] at hm; omega

theorem byte_wf {x : Int} (h0 : 0 ≤ x) (h1 : x < 256) : (Lit.int .u8 x).wf = true := by simp [Lit.wf, IntKind.min, IntKind.max, IntKind.bits, IntKind.signed]; omega

theorem laws_at_ev (l : List Int) (i : Int) (hl : ∀ x ∈ l, (Lit.int .u8 x).wf = true) (hlen : l.length ≤ 1000000000000) (h0 : 0 ≤ i) (h1 : i ≤ 1000) : ∃ v, laws_at.f l i = some v ∧ 0 ≤ v ∧ v < 256 := by
  unfold laws_at.f
  by_cases h : i < l.length
  · have hr := rd_rng8 hl i
    rw [if_pos h, if_pos h0, wrap_id (by omega) (by omega)]; exact ⟨_, rfl, hr.1, hr.2⟩
  · rw [if_neg h, wrap_id (n := i * 7) (by omega) (by omega), wrap_id (n := i * 7 + (l.length : Int)) (by omega) (by omega), Int.tmod_eq_emod_of_nonneg (by omega)]
    exact ⟨_, rfl, by omega, by omega⟩

theorem spec_l1DrawBytes_ev (l : List Int) (i h n : Int) (hl : ∀ x ∈ l, (Lit.int .u8 x).wf = true) (hlen : l.length ≤ 1000000000000) (h0 : 0 ≤ i) (h1 : i ≤ l.length) (hn : 0 ≤ n) (hn1 : n ≤ 1000000) :
    ∃ b i' h', Ev (fun k => spec_l1DrawBytes.f k l i h n) (b, i', h') ∧ (∀ x ∈ b, (Lit.int .u8 x).wf = true) ∧ (b.length : Int) ≤ n ∧ 0 ≤ i' ∧ i' ≤ l.length := by
  obtain ⟨m, i1, g1, e, a, b, _, c, d⟩ := spec_l1Below_ev l i h (n + 1) hl hlen h0 h1
  have b := b (by omega)
  have key : ∀ (d : Nat) (j : Int) (acc : List Int) (i h : Int), 0 ≤ j → j + d = m → (acc.length : Int) = j → (∀ x ∈ acc, (Lit.int .u8 x).wf = true) → 0 ≤ i → i ≤ l.length →
      ∃ b i' h', Ev (fun k => spec_l1DrawBytes.l0 k acc m j l i h) (b, i', h') ∧ (∀ x ∈ b, (Lit.int .u8 x).wf = true) ∧ (b.length : Int) = m ∧ 0 ≤ i' ∧ i' ≤ l.length := by
    intro d
    induction d with
    | zero =>
      intro j acc i h hj hd hacc hwf hi0 hi1
      refine ⟨acc, i, h, Ev.step (f := fun _ => some (acc, i, h)) (fun k => ?_) (Ev.now _), hwf, by omega, hi0, hi1⟩
      simp only [spec_l1DrawBytes.l0]; rw [if_neg (by omega)]
    | succ d ih =>
      intro j acc i h hj hd hacc hwf hi0 hi1
      obtain ⟨v, i2, g2, e2, a2, b2, c2, d2⟩ := spec_l1Byte_ev l i h hl hlen hi0 hi1
      obtain ⟨bs, i3, g3, e3, w3, l3, c3, d3⟩ := ih (j + 1) (acc ++ [v % 256]) i2 g2 (by omega) (by omega) (by simp; omega) (by
        intro x hx
        rcases List.mem_append.1 hx with hx | hx
        · exact hwf x hx
        · rw [List.mem_singleton] at hx; subst hx; exact byte_wf (by omega) (by omega)) c2 d2
      refine ⟨bs, i3, g3, Ev.step (fun k => ?_) e3, w3, l3, c3, d3⟩
      simp only [spec_l1DrawBytes.l0]
      rw [if_pos (by omega), e2]
      simp only [Option.bind_some]
      rw [if_pos (by omega), wrap_id (n := j + 1) (by omega) (by omega)]
  obtain ⟨bs, i3, g3, e3, w3, l3, c3, d3⟩ := key m.toNat 0 [] i1 g1 (by omega) (by omega) (by simp) (by simp) c d
  refine ⟨bs, i3, g3, ?_, w3, by omega, c3, d3⟩
  unfold spec_l1DrawBytes.f
  rw [wrap_id (n := n + 1) (by omega) (by omega)]
  simp only [e, Option.bind_some]
  exact e3

theorem impl_UvarGet_l (b : List Int) (a : Int) (hb : ∀ x ∈ b, (Lit.int .u8 x).wf = true) (hl : b.length ≤ 1000000000000) (ha0 : 0 ≤ a) (ha : a < 9223372036854775808) :
    ∀ (d i : Nat) (acc : Int), i + d = 10 → 0 ≤ acc → acc < 2 ^ (7 * i) →
    Ev (fun k => impl_UvarGet.l0 k b a acc i) (ugetOf acc (a + i) ((ugl d (b.drop (a + i).toNat)).map fun p => (p.1 * 2 ^ (7 * i), p.2))) := by
  have fail : ∀ acc i, Ev (fun k => impl_UvarGet.j1 k b a acc i false) (0, 0, false) := fun acc i => Ev.step (f := fun _ => some (0, 0, false)) (fun k => by simp only [impl_UvarGet.j1]; rw [if_neg (by simp)]) (Ev.now _)
  intro d
  induction d with
  | zero =>
    intro i acc hi h0 h1
    rw [ugl_zero]
    refine Ev.step (f := fun k => impl_UvarGet.j1 k b a acc i false) (fun k => ?_) (fail acc i)
    simp only [impl_UvarGet.l0]; rw [if_neg (by omega)]
  | succ d ih =>
    intro i acc hi h0 h1
    refine Ev.step (f := fun k => impl_UvarGet.j1 k b a acc i (decide ((i : Int) < b.length - a))) (fun k => ?_) ?_
    · simp only [impl_UvarGet.l0]; rw [if_pos (by omega), wrap_id (by omega) (by omega)]
    by_cases hlt : (i : Int) < b.length - a
    · have hr := rd_rng8 hb (a + i)
      rw [decide_eq_true hlt, drop_rd b (a + i) (by omega) (by omega), ugl_cons]
      have hp : (0 : Int) < 2 ^ (7 * i) := Int.pow_pos (by decide)
      refine Ev.step (f := fun k => impl_UvarGet.j2 k b a acc i (rd b (a + i)) (decide (i = 9 ∧ rd b (a + i) > 1))) (fun k => ?_) ?_
      · simp only [impl_UvarGet.j1]
        rw [if_pos trivial, wrap_id (n := a + (i : Int)) (by omega) (by omega), if_pos (by omega), if_pos (by omega)]
        by_cases h9 : i = 9
        · subst h9; simp
        · rw [if_neg (by omega)]; simp [h9]
      by_cases hbad : i = 9 ∧ rd b (a + i) > 1
      · rw [decide_eq_true hbad, if_pos ⟨by omega, hbad.2⟩]
        exact Ev.step (f := fun _ => some (0, 0, false)) (fun k => by simp only [impl_UvarGet.j2]; rw [if_pos trivial]) (Ev.now _)
      · rw [decide_eq_false hbad, if_neg (by omega)]
        have hsum : acc + rd b (a + i) % 128 * 2 ^ (7 * i) < 18446744073709551616 ∧ (i ≤ 8 → acc + rd b (a + i) % 128 * 2 ^ (7 * i) < 2 ^ (7 * (i + 1))) := by
          have hm : 0 ≤ rd b (a + i) % 128 ∧ rd b (a + i) % 128 ≤ 127 := by omega
          generalize hc : rd b (a + i) % 128 = c at hm ⊢
          have hle : c * 2 ^ (7 * i) ≤ 127 * 2 ^ (7 * i) := Int.mul_le_mul_of_nonneg_right hm.2 (by omega)
          by_cases h9 : i = 9
          · subst h9
            have hc1 : c ≤ 1 := by omega
            have : c * 2 ^ (7 * 9) ≤ 1 * 2 ^ (7 * 9) := Int.mul_le_mul_of_nonneg_right hc1 (by omega)
            refine ⟨?_, fun h => by omega⟩
            have e : (2 : Int) ^ (7 * 9) = 9223372036854775808 := by rfl
            omega
          · have hpw : (2 : Int) ^ (7 * (i + 1)) ≤ 9223372036854775808 := by
              have : (2 : Nat) ^ (7 * (i + 1)) ≤ 2 ^ 63 := Nat.pow_le_pow_right (by decide) (by omega)
              have h2 : ((2 ^ (7 * (i + 1)) : Nat) : Int) ≤ ((2 ^ 63 : Nat) : Int) := by exact_mod_cast this
              simpa using h2
            have e : (2 : Int) ^ (7 * (i + 1)) = 128 * 2 ^ (7 * i) := by rw [show 7 * (i + 1) = 7 * i + 7 by omega, Int.pow_add]; omega
            constructor
            · omega
            · intro _; omega
        have ebits : Go.bits .or .u64 acc (shl .u64 (IntKind.u64.wrap (Go.bits .and .u8 (rd b (a + i)) 127)) (7 * (i : Int))) = acc + rd b (a + i) % 128 * 2 ^ (7 * i) := by
          rw [and127 _ hr.1 hr.2, uwrap_id (by omega) (by omega), shlu _ _ (by omega) (by omega), show (7 * (i : Int)).toNat = 7 * i by omega]
          have h2 : 0 ≤ rd b (a + i) % 128 * 2 ^ (7 * i) := Int.mul_nonneg (by omega) (by omega)
          rw [Int.emod_eq_of_lt h2 (by omega)]
          exact or_addu _ _ _ h0 h1 (by omega) hsum.1
        by_cases hc : rd b (a + i) < 128
        · rw [if_pos hc]
          refine Ev.step (f := fun _ => some (wrap64 (acc + rd b (a + i) * 2 ^ (7 * i)), a + i + 1, true)) (fun k => ?_) (Ev.now _)
          simp only [impl_UvarGet.j2]
          rw [if_neg (by simp), wrap_id (n := 7 * (i : Int)) (by omega) (by omega), if_pos (by omega), if_pos hc, ebits, wrap_id (n := a + (i : Int)) (by omega) (by omega), wrap_id (n := a + (i : Int) + 1) (by omega) (by omega)]
          rw [show rd b (a + i) % 128 = rd b (a + i) by omega]
        · rw [if_neg hc]
          have hi8 : i ≤ 8 := by omega
          have h := ih (i + 1) (acc + rd b (a + i) % 128 * 2 ^ (7 * i)) (by omega) (by have := Int.mul_nonneg (show 0 ≤ rd b (a + i) % 128 by omega) (show (0:Int) ≤ 2 ^ (7 * i) by omega); omega) (hsum.2 hi8)
          have egoal : ugetOf acc (a + i) (((ugl d (b.drop (a + i + 1).toNat)).map fun p => (rd b (a + i) - 128 + 128 * p.1, p.2 + 1)).map fun p => (p.1 * 2 ^ (7 * i), p.2))
              = ugetOf (acc + rd b (a + i) % 128 * 2 ^ (7 * i)) (a + ((i + 1 : Nat) : Int)) ((ugl d (b.drop (a + ((i + 1 : Nat) : Int)).toNat)).map fun p => (p.1 * 2 ^ (7 * (i + 1)), p.2)) := by
            rw [show a + ((i + 1 : Nat) : Int) = a + i + 1 by push_cast; omega]
            cases ugl d (b.drop (a + i + 1).toNat) with
            | none => rfl
            | some p =>
              simp only [Option.map_some, ugetOf]
              rw [show rd b (a + i) % 128 = rd b (a + i) - 128 by omega, show 7 * (i + 1) = 7 + 7 * i by omega, Int.pow_add]
              refine congr (congrArg Prod.mk (congrArg wrap64 ?_)) (congrArg (fun z => (z, true)) (by omega))
              generalize (2 : Int) ^ (7 * i) = q
              rw [show ((2 : Int) ^ 7) = 128 by rfl, Int.add_mul, ← Int.mul_assoc, Int.mul_comm 128 p.1]; omega
          rw [egoal]
          refine Ev.step (fun k => ?_) h
          simp only [impl_UvarGet.j2]
          rw [if_neg (by simp), wrap_id (n := 7 * (i : Int)) (by omega) (by omega), if_pos (by omega), if_neg hc, ebits, wrap_id (n := (i : Int) + 1) (by omega) (by omega)]
          push_cast; rfl
    · rw [decide_eq_false hlt, List.drop_eq_nil_of_le (by omega), ugl_nil]
      exact fail acc i
theorem impl_UvarGet_ev (b : List Int) (a : Int) (hb : ∀ x ∈ b, (Lit.int .u8 x).wf = true) (hl : b.length ≤ 1000000000000) (ha : a < 9223372036854775808) :
    Ev (fun k => impl_UvarGet.f k b a) (uget b a) := by
  unfold impl_UvarGet.f uget
  by_cases h0 : a < 0
  · simp only [if_pos h0]; exact Ev.now _
  · simp only [if_neg h0]
    have h := impl_UvarGet_l b a hb hl (by omega) ha 10 0 0 (by omega) (by omega) (by simp)
    simpa using h

theorem spec_UvarGet_l (b : List Int) (a : Int) (hb : ∀ x ∈ b, (Lit.int .u8 x).wf = true) (hl : b.length ≤ 1000000000000) (ha0 : 0 ≤ a) (ha : a ≤ b.length) :
    ∀ (d i : Nat) (acc : Int), i + d = 10 → 0 ≤ acc → acc < 2 ^ (7 * i) →
    Ev (fun k => spec_UvarGet.l0 k b a (wrap64 acc) i) (ugetOf acc (a + i) ((ugl d (b.drop (a + i).toNat)).map fun p => (p.1 * 2 ^ (7 * i), p.2))) := by
  have fail : ∀ acc i, Ev (fun k => spec_UvarGet.j2 k b a acc i false) (0, 0, false) := fun acc i => Ev.step (f := fun _ => some (0, 0, false)) (fun k => by simp only [spec_UvarGet.j2]; rw [if_neg (by simp)]) (Ev.now _)
  intro d
  induction d with
  | zero =>
    intro i acc hi h0 h1
    rw [ugl_zero]
    refine Ev.step (f := fun k => spec_UvarGet.j2 k b a (wrap64 acc) i false) (fun k => ?_) (fail _ i)
    simp only [spec_UvarGet.l0]; rw [if_neg (by omega)]
  | succ d ih =>
    intro i acc hi h0 h1
    refine Ev.step (f := fun k => spec_UvarGet.j2 k b a (wrap64 acc) i (decide (a + (i : Int) < b.length))) (fun k => ?_) ?_
    · simp only [spec_UvarGet.l0]; rw [if_pos (by omega), wrap_id (n := a + (i : Int)) (by omega) (by omega)]
    by_cases hlt : a + (i : Int) < b.length
    · have hr := rd_rng8 hb (a + i)
      rw [decide_eq_true hlt, drop_rd b (a + i) (by omega) (by omega), ugl_cons]
      have hp : (0 : Int) < 2 ^ (7 * i) := Int.pow_pos (by decide)
      have ebits : Go.bits .or .i64 (wrap64 acc) (shl .i64 (Go.bits .and .i64 (rd b (a + i)) 127) (7 * (i : Int))) = wrap64 (acc + rd b (a + i) % 128 * 2 ^ (7 * i)) := by
        rw [show Go.bits .and .i64 (rd b (a + i)) 127 = rd b (a + i) % 128 from and_mask _ 7 (by decide), shl64 _ _ (by omega) (by omega), show (7 * (i : Int)).toNat = 7 * i by omega]
        exact or_add _ _ _ h0 h1 (by omega)
      by_cases hc : rd b (a + i) < 128
      · by_cases hbad : d = 0 ∧ rd b (a + i) > 1
        · rw [if_pos hbad]
          refine Ev.step (f := fun _ => some (0, 0, false)) (fun k => ?_) (Ev.now _)
          simp only [spec_UvarGet.j2]
          rw [if_pos trivial, wrap_id (n := a + (i : Int)) (by omega) (by omega), if_pos (by omega), if_pos (by omega), wrap_id (n := 7 * (i : Int)) (by omega) (by omega), if_pos (by omega), wrap_id (n := rd b (a + i)) (by omega) (by omega), if_pos hc, if_pos (by omega), if_pos (by omega)]
        · rw [if_neg hbad, if_pos hc]
          refine Ev.step (f := fun _ => some (wrap64 (acc + rd b (a + i) * 2 ^ (7 * i)), a + i + 1, true)) (fun k => ?_) (Ev.now _)
          simp only [spec_UvarGet.j2]
          rw [if_pos trivial, wrap_id (n := a + (i : Int)) (by omega) (by omega), if_pos (by omega), if_pos (by omega), wrap_id (n := 7 * (i : Int)) (by omega) (by omega), if_pos (by omega), wrap_id (n := rd b (a + i)) (by omega) (by omega), if_pos hc, ebits, wrap_id (n := a + (i : Int) + 1) (by omega) (by omega), show rd b (a + i) % 128 = rd b (a + i) by omega]
          by_cases h9 : (i : Int) = 9
          · rw [if_pos h9, if_neg (by omega)]
          · rw [if_neg h9]
      · have hstep : ∀ k, spec_UvarGet.j2 (k + 1) b a (wrap64 acc) i true = spec_UvarGet.l0 k b a (wrap64 (acc + rd b (a + i) % 128 * 2 ^ (7 * i))) ((i + 1 : Nat) : Int) := by
          intro k
          simp only [spec_UvarGet.j2]
          rw [if_pos trivial, wrap_id (n := a + (i : Int)) (by omega) (by omega), if_pos (by omega), if_pos (by omega), wrap_id (n := 7 * (i : Int)) (by omega) (by omega), if_pos (by omega), wrap_id (n := rd b (a + i)) (by omega) (by omega), if_neg hc, ebits, wrap_id (n := (i : Int) + 1) (by omega) (by omega)]
          push_cast; rfl
        refine Ev.step hstep ?_
        by_cases hd : d = 0
        · subst hd
          rw [if_pos ⟨rfl, by omega⟩]
          refine Ev.step (f := fun k => spec_UvarGet.j2 k b a (wrap64 (acc + rd b (a + i) % 128 * 2 ^ (7 * i))) ((i + 1 : Nat) : Int) false) (fun k => ?_) (fail _ _)
          simp only [spec_UvarGet.l0]; rw [if_neg (by omega)]
        · rw [if_neg (by omega), if_neg hc]
          have hsum : acc + rd b (a + i) % 128 * 2 ^ (7 * i) < 2 ^ (7 * (i + 1)) := by
            have hm : 0 ≤ rd b (a + i) % 128 ∧ rd b (a + i) % 128 ≤ 127 := by omega
            generalize rd b (a + i) % 128 = c at hm ⊢
            have hle : c * 2 ^ (7 * i) ≤ 127 * 2 ^ (7 * i) := Int.mul_le_mul_of_nonneg_right hm.2 (by omega)
            have e : (2 : Int) ^ (7 * (i + 1)) = 128 * 2 ^ (7 * i) := by rw [show 7 * (i + 1) = 7 * i + 7 by omega, Int.pow_add]; omega
            omega
          have h := ih (i + 1) (acc + rd b (a + i) % 128 * 2 ^ (7 * i)) (by omega) (by have := Int.mul_nonneg (show 0 ≤ rd b (a + i) % 128 by omega) (show (0:Int) ≤ 2 ^ (7 * i) by omega); omega) hsum
          have egoal : ugetOf acc (a + i) (((ugl d (b.drop (a + i + 1).toNat)).map fun p => (rd b (a + i) - 128 + 128 * p.1, p.2 + 1)).map fun p => (p.1 * 2 ^ (7 * i), p.2))
              = ugetOf (acc + rd b (a + i) % 128 * 2 ^ (7 * i)) (a + ((i + 1 : Nat) : Int)) ((ugl d (b.drop (a + ((i + 1 : Nat) : Int)).toNat)).map fun p => (p.1 * 2 ^ (7 * (i + 1)), p.2)) := by
            rw [show a + ((i + 1 : Nat) : Int) = a + i + 1 by push_cast; omega]
            cases ugl d (b.drop (a + i + 1).toNat) with
            | none => rfl
            | some p =>
              simp only [Option.map_some, ugetOf]
              rw [show rd b (a + i) % 128 = rd b (a + i) - 128 by omega, show 7 * (i + 1) = 7 + 7 * i by omega, Int.pow_add]
              refine congr (congrArg Prod.mk (congrArg wrap64 ?_)) (congrArg (fun z => (z, true)) (by omega))
              generalize (2 : Int) ^ (7 * i) = q
              rw [show ((2 : Int) ^ 7) = 128 by rfl, Int.add_mul, ← Int.mul_assoc, Int.mul_comm 128 p.1]; omega
          rw [egoal]; exact h
    · rw [decide_eq_false hlt, List.drop_eq_nil_of_le (by omega), ugl_nil]
      exact fail _ i
theorem spec_UvarGet_ev (b : List Int) (a : Int) (hb : ∀ x ∈ b, (Lit.int .u8 x).wf = true) (hl : b.length ≤ 1000000000000) (ha : a < 9223372036854775808) :
    Ev (fun k => spec_UvarGet.f k b a) (uget b a) := by
  have bad : Ev (fun k => spec_UvarGet.j0 k b a true) (0, 0, false) := Ev.step (f := fun _ => some (0, 0, false)) (fun k => by simp only [spec_UvarGet.j0]; rw [if_pos trivial]) (Ev.now _)
  unfold spec_UvarGet.f uget
  by_cases h0 : a < 0
  · simp only [if_pos h0]; exact bad
  · simp only [if_neg h0]
    by_cases h1 : a ≥ b.length
    · rw [decide_eq_true h1, List.drop_eq_nil_of_le (by omega), ugl_nil]; exact bad
    · rw [decide_eq_false h1]
      refine Ev.step (f := fun k => spec_UvarGet.l0 k b a 0 0) (fun k => by simp only [spec_UvarGet.j0]; rw [if_neg (by simp)]) ?_
      have h := spec_UvarGet_l b a hb hl (by omega) (by omega) 10 0 0 (by omega) (by omega) (by simp)
      simpa [show wrap64 0 = 0 by unfold wrap64; omega] using h

theorem spec_l2Down7 (a : Int) : spec_l2Down.f a 7 = some (a / 128 % 144115188075855872) := by
  unfold spec_l2Down.f
  rw [if_neg (by decide), if_pos (by decide), if_pos (by unfold wrap64; omega)]
  rw [shr64 _ _ (by decide) (by decide), show (wrap64 (64 - 7)) = 57 by unfold wrap64; omega, shl64 _ _ (by decide) (by decide)]
  rw [show wrap64 (wrap64 (1 * 2 ^ (57 : Int).toNat) - 1) = 2 ^ 57 - 1 by decide +kernel, and_mask _ 57 (by decide)]
  rfl

theorem spec_UvarPut_l (j : Nat) : ∀ (x : Int) (acc : List Int), -9223372036854775808 ≤ x → x < 9223372036854775808 → ux x < 128 ^ (j + 1) → acc.length + j ≤ 100000000000 →
    Ev (fun k => spec_UvarPut.l0 k x acc) (acc ++ uvb (ux x)) := by
  induction j with
  | zero =>
    intro x acc h0 h1 hx hl
    have hx' : ux x < 128 := by simpa using hx
    refine Ev.step (f := fun _ => some (acc ++ uvb (ux x))) (fun k => ?_) (Ev.now _)
    simp only [spec_UvarPut.l0, spec_l2Down7, Option.bind_some]
    rw [uvb, if_pos hx']
    unfold ux at hx' ⊢
    rw [if_pos (by omega), if_pos (by omega)]
    congr 3; omega
  | succ j ih =>
    intro x acc h0 h1 hx hl
    by_cases hs : ux x < 128
    · refine Ev.step (f := fun _ => some (acc ++ uvb (ux x))) (fun k => ?_) (Ev.now _)
      simp only [spec_UvarPut.l0, spec_l2Down7, Option.bind_some]
      rw [uvb, if_pos hs]
      unfold ux at hs ⊢
      rw [if_pos (by omega), if_pos (by omega)]
      congr 3; omega
    · have e : ux (x / 128 % 144115188075855872) = ux x / 128 := by unfold ux; omega
      have hd : ux x / 128 < 128 ^ (j + 1) := by rw [Nat.div_lt_iff_lt_mul (by decide)]; rw [Nat.pow_succ] at hx; exact hx
      have h := ih (x / 128 % 144115188075855872) (acc ++ [((ux x % 128 + 128 : Nat) : Int)]) (by omega) (by omega) (by rw [e]; exact hd) (by simp; omega)
      rw [e, List.append_assoc, List.singleton_append] at h
      rw [uvb, if_neg hs]
      refine Ev.step (fun k => ?_) h
      simp only [spec_UvarPut.l0, spec_l2Down7, Option.bind_some]
      unfold ux at hs
      rw [if_neg (by omega), if_pos (by omega)]
      have e2 : (wrap64 (Go.bits .and .i64 x 127 + 128)) % 256 = ((ux x % 128 + 128 : Nat) : Int) := by
        rw [show Go.bits .and .i64 x 127 = x % 128 from and_mask x 7 (by decide), wrap_id (by omega) (by omega)]; unfold ux; omega
      rw [e2]
theorem spec_UvarPut_ev (x : Int) (h0 : -9223372036854775808 ≤ x) (h1 : x < 9223372036854775808) : Ev (fun k => spec_UvarPut.f k x) (uvb (ux x)) := by
  have h := spec_UvarPut_l 9 x [] h0 h1 (Nat.lt_of_lt_of_le (ux_lt x) (by decide)) (by simp)
  simpa [spec_UvarPut.f] using h

theorem spec_DrawUvarGet_ev (l : List Int) (hl : ∀ x ∈ l, (Lit.int .u8 x).wf = true) (hlen : l.length ≤ 1000000000000) :
    ∃ b a, Ev (fun k => spec_DrawUvarGet.f k l) (b, a) ∧ (∀ x ∈ b, (Lit.int .u8 x).wf = true) ∧ b.length ≤ 100 ∧ -9223372036854775808 ≤ a ∧ a < 9223372036854775808 := by
  suffices hs : ∃ b a, Ev (fun k => spec_l2DrawBytes.f k l) (b, a) ∧ (∀ x ∈ b, (Lit.int .u8 x).wf = true) ∧ b.length ≤ 100 ∧ -9223372036854775808 ≤ a ∧ a < 9223372036854775808 by
    obtain ⟨b, a, e, h⟩ := hs
    refine ⟨b, a, ?_, h⟩
    unfold spec_DrawUvarGet.f
    refine Ev.bind e ?_
    exact Ev.now _
  obtain ⟨g0, e0⟩ := spec_l1New_ev l hlen
  obtain ⟨b, i1, g1, e1, wb, lb, c1, d1⟩ := spec_l1DrawBytes_ev l 0 g0 2 hl hlen (by omega) (by omega) (by decide) (by decide)
  obtain ⟨x, i2, g2, e2, x0, x1, c2, d2⟩ := spec_l2DrawNum_ev l i1 g1 hl hlen c1 d1
  have hu := uvb_len10 (ux x) (ux_lt x)
  obtain ⟨a, i3, g3, e3, a0, a1, _, c3, d3⟩ := spec_l1Below_ev l i2 g2 3 hl hlen c2 d2
  obtain ⟨m, i4, g4, e4, m0, m1, _, c4, d4⟩ := spec_l1Below_ev l i3 g3 10 hl hlen c3 d3
  have a1 := a1 (by decide)
  have m1 := m1 (by decide)
  have wy : ∀ y ∈ b ++ uvb (ux x), (Lit.int .u8 y).wf = true := by
    intro y hy
    rcases List.mem_append.1 hy with h | h
    · exact wb y h
    · exact uvb_wf _ y h
  have ly : (b ++ uvb (ux x)).length ≤ 20 := by simp; omega
  unfold spec_l2DrawBytes.f
  have hlt : b.length + (uvb (ux x)).length < 140737488355328 := by omega
  have pre : ∀ (r : List Int × Int), Ev (fun k => (if m = 0 then ((some (([128, 128, 0] : List Int) : List Int)).bind fun y188 => (if (b ++ uvb (ux x)).length + y188.length < 140737488355328 then (some (((b ++ uvb (ux x)) ++ y188), a)) else (none))) else (if m = 1 then ((spec_l1Below.f l i4 g4 4).bind fun bt194 => (some ((([255, 255, 255, 255, 255, 255, 255, 255, 255, (bt194.1) % 256, 1] : List Int)), 0))) else (if m = 2 then ((spec_l1Below.f l i4 g4 (wrap64 (((b ++ uvb (ux x)).length : Int) + 1))).bind fun bt200 => (if 0 ≤ bt200.1 then (if bt200.1 ≤ ((b ++ uvb (ux x)).length : Int) then (some (((b ++ uvb (ux x)).take (bt200.1 : Int).toNat), a)) else (none)) else (none))) else (if m = 3 then ((spec_l1PickInt.f l i4 g4 (([(-1), ((b ++ uvb (ux x)).length : Int)] : List Int))).bind fun bt209 => (some ((b ++ uvb (ux x)), bt209.1))) else (some ((b ++ uvb (ux x)), a))))))) r →
      Ev (fun k => spec_l2DrawBytes.f k l) r := by
    intro r h
    unfold spec_l2DrawBytes.f
    refine Ev.bind e0 ?_
    refine Ev.bind e1 ?_
    simp only [e2, Option.bind_some]
    refine Ev.bind (spec_UvarPut_ev x x0 x1) ?_
    simp only [if_pos hlt, e3, e4, Option.bind_some]
    exact h
  by_cases h0 : m = 0
  · refine ⟨b ++ uvb (ux x) ++ [128, 128, 0], a, pre _ ?_, ?_, by simp; omega, by omega, by omega⟩
    · simp only [if_pos h0, Option.bind_some]
      simp only [if_pos (show (b ++ uvb (ux x)).length + ([128, 128, 0] : List Int).length < 140737488355328 by simp; omega)]
      exact Ev.now _
    · intro y hy
      rcases List.mem_append.1 hy with h | h
      · exact wy y h
      · simp only [List.mem_cons, List.not_mem_nil, or_false] at h; exact byte_wf (by omega) (by omega)
  by_cases h1 : m = 1
  · obtain ⟨q, i5, g5, e5, q0, q1, _⟩ := spec_l1Below_ev l i4 g4 4 hl hlen c4 d4
    refine ⟨[255, 255, 255, 255, 255, 255, 255, 255, 255, q % 256, 1], 0, pre _ ?_, ?_, by simp, by omega, by omega⟩
    · simp only [if_neg h0, if_pos h1, e5, Option.bind_some]; exact Ev.now _
    · intro y hy
      simp only [List.mem_cons, List.not_mem_nil, or_false] at hy; exact byte_wf (by omega) (by omega)
  by_cases h2 : m = 2
  · obtain ⟨q, i5, g5, e5, q0, q1, _⟩ := spec_l1Below_ev l i4 g4 (((b ++ uvb (ux x)).length : Int) + 1) hl hlen c4 d4
    have q1 := q1 (by omega)
    refine ⟨(b ++ uvb (ux x)).take q.toNat, a, pre _ ?_, fun y hy => wy y (List.mem_of_mem_take hy), by rw [List.length_take]; omega, by omega, by omega⟩
    rw [wrap_id (n := ((b ++ uvb (ux x)).length : Int) + 1) (by omega) (by omega)]
    simp only [if_neg h0, if_neg h1, if_pos h2, e5, Option.bind_some, if_pos q0, if_pos (show q ≤ ((b ++ uvb (ux x)).length : Int) by omega)]; exact Ev.now _
  by_cases h3 : m = 3
  · obtain ⟨q, i5, g5, e5, hm, _⟩ := spec_l1PickInt_ev l i4 g4 [(-1), ((b ++ uvb (ux x)).length : Int)] hl hlen c4 d4 (by simp)
    simp only [List.mem_cons, List.not_mem_nil, or_false] at hm
    refine ⟨b ++ uvb (ux x), q, pre _ ?_, wy, by omega, by omega, by omega⟩
    simp only [if_neg h0, if_neg h1, if_neg h2, if_pos h3, e5, Option.bind_some]; exact Ev.now _
  · refine ⟨b ++ uvb (ux x), a, pre _ ?_, wy, by omega, by omega, by omega⟩
    simp only [if_neg h0, if_neg h1, if_neg h2, if_neg h3]; exact Ev.now _
theorem FnVarRead : laws_FnVarRead.Pure := by
  intro l hlen hsz hl
  refine Ev.rounds (g := fun k => laws_FnVarRead.f k l) ?_
  unfold laws_FnVarRead.f
  simp only [laws_big_ev, Option.bind_some]
  by_cases hbig : (l.length : Int) > 1048576
  · simp only [decide_eq_true hbig, if_true]; exact Ev.now _
  simp only [decide_eq_false hbig, Bool.false_eq_true, if_false]
  obtain ⟨b, a, e, wb, lb, a0, a1⟩ := spec_DrawUvarGet_ev l hl (by omega)
  obtain ⟨t1, at1, t10, t11⟩ := laws_at_ev l 1 hl (by omega) (by decide) (by decide)
  refine Ev.bind e ?_
  refine Ev.bind (impl_UvarGet_ev b a wb (by omega) a1) ?_
  refine Ev.bind (spec_UvarGet_ev b a wb (by omega) a1) ?_
  simp only [bne_self_eq_false, Bool.false_eq_true, if_false]
  by_cases han : a < 0
  · have : uget b a = (0, 0, false) := by unfold uget; rw [if_pos han]
    simp only [this, Bool.false_eq_true, if_false, if_true]; exact Ev.now _
  · cases hq : ugl 10 (b.drop a.toNat) with
    | none =>
      have : uget b a = (0, 0, false) := by unfold uget; rw [if_neg han, hq]; rfl
      simp only [this, Bool.false_eq_true, if_false, if_true]; exact Ev.now _
    | some p =>
      obtain ⟨v, n⟩ := p
      have hu : uget b a = (wrap64 v, a + n, true) := by unfold uget; rw [if_neg han, hq]; simp [ugetOf]
      obtain ⟨n1, n2, n3, n4⟩ := ugl_facts 10 _ v n hq
      rw [List.length_drop] at n2
      have hal : a.toNat + n.toNat ≤ b.length := by omega
      simp only [hu, if_true, if_pos (show 0 ≤ a + n by omega), if_pos (show a + n ≤ (b.length : Int) by omega), Option.bind_some, List.nil_append, List.length_nil, Nat.zero_add]
      simp only [if_pos (show (b.take (a + n).toNat).length < 140737488355328 by rw [List.length_take]; omega), at1, Option.bind_some]
      have w1 : ∀ y ∈ b.take (a + n).toNat ++ [t1 % 256], (Lit.int .u8 y).wf = true := by
        intro y hy
        rcases List.mem_append.1 hy with h | h
        · exact wb y (List.mem_of_mem_take h)
        · rw [List.mem_singleton] at h; subst h; exact byte_wf (by omega) (by omega)
      have w2 : ∀ y ∈ b.take (a + n - 1).toNat, (Lit.int .u8 y).wf = true := fun y hy => wb y (List.mem_of_mem_take hy)
      refine Ev.bind (impl_UvarGet_ev _ a w1 (by rw [List.length_append, List.length_take]; simp; omega) a1) ?_
      rw [wrap_id (n := a + n - 1) (by omega) (by omega)]
      simp only [if_pos (show 0 ≤ a + n - 1 by omega), if_pos (show a + n - 1 ≤ (b.length : Int) by omega)]
      refine Ev.bind (impl_UvarGet_ev _ a w2 (by rw [List.length_take]; omega) a1) ?_
      have u1 : uget (b.take (a + n).toNat ++ [t1 % 256]) a = (wrap64 v, a + n, true) := by
        unfold uget
        rw [if_neg han, List.drop_append_of_le_length (by rw [List.length_take]; omega), List.drop_take, show (a + n).toNat - a.toNat = n.toNat by omega, n3]
        simp [ugetOf]
      have u2 : uget (b.take (a + n - 1).toNat) a = (0, 0, false) := by
        unfold uget
        rw [if_neg han, List.drop_take, show (a + n - 1).toNat - a.toNat = n.toNat - 1 by omega, n4]
        rfl
      simp only [u1, u2, if_true, Bool.not_false]
      exact Ev.now _

end Go.Proofs.Ytbiibjbhgeenoaa.Pure
