/- The law FnVarints answers true for every code. -/
import Derived.Test.YtbiibjbhgeenoaaPFnVarintsx3
import Derived.Test.YtbiibjbhgeenoaaCom
namespace Go.Proofs.Ytbiibjbhgeenoaa.Pure
open Go Go.RowKit Go.Proofs.Ytbiibjbhgeenoaa.PFnVarints Go.Proofs.YtbiibjbhgeenoaaW.PrintWords Go.Proofs.YtbiibjbhgeenoaaW.PrintLast Go.Proofs.YtbiibjbhgeenoaaW.PrintMore Go.Proofs.Ytbiibjbhgeenoaa.Com
set_option linter.unusedVariables false
set_option linter.unusedSimpArgs false

theorem spec_l1Byte_ev (l : List Int) (i h : Int) (hl : ∀ x ∈ l, (Lit.int .u8 x).wf = true) (hlen : l.length ≤ 1000000000000) (h0 : 0 ≤ i) (h1 : i ≤ l.length) :
    ∃ v i' h', spec_l1Byte.f l i h = some (v, i', h') ∧ 0 ≤ v ∧ v < 256 ∧ 0 ≤ i' ∧ i' ≤ l.length := by
  have m : ∀ x, Go.bits .and .i64 x 255 = x % 256 := fun x => and_mask x 8 (by decide)
  unfold spec_l1Byte.f
  by_cases hi : i < l.length
  · rw [if_pos hi, if_pos h0, m, m, wrap_id (n := i + 1) (by omega) (by omega)]
    exact ⟨_, _, _, rfl, by omega, by omega, by omega, by omega⟩
  · rw [if_neg hi, m]
    exact ⟨_, _, _, rfl, by omega, by omega, by omega, by omega⟩
theorem spec_l1Below_ev (l : List Int) (i h n : Int) (hl : ∀ x ∈ l, (Lit.int .u8 x).wf = true) (hlen : l.length ≤ 1000000000000) (h0 : 0 ≤ i) (h1 : i ≤ l.length) :
    ∃ v i' h', spec_l1Below.f l i h n = some (v, i', h') ∧ 0 ≤ v ∧ (0 < n → v < n) ∧ (n ≤ 0 → v = 0) ∧ 0 ≤ i' ∧ i' ≤ l.length := by
  unfold spec_l1Below.f
  by_cases hn : n ≤ 0
  · rw [if_pos hn]; exact ⟨_, _, _, rfl, by omega, by omega, by omega, h0, h1⟩
  · rw [if_neg hn]
    obtain ⟨v, i1, h2, e, a, b, c, d⟩ := spec_l1Byte_ev l i h hl hlen h0 h1
    by_cases hb : n ≤ 256
    · rw [if_pos hb]
      simp only [e, Option.bind_some]
      rw [if_neg (by omega)]
      refine ⟨_, _, _, rfl, ?_⟩
      rw [Int.tmod_eq_emod_of_nonneg a]
      exact ⟨Int.emod_nonneg _ (by omega), fun _ => Int.emod_lt_of_pos _ (by omega), by omega, c, d⟩
    · rw [if_neg hb]
      obtain ⟨v2, i2, h3, e2, a2, b2, c2, d2⟩ := spec_l1Byte_ev l i1 h2 hl hlen c d
      obtain ⟨v3, i3, h4, e3, a3, b3, c3, d3⟩ := spec_l1Byte_ev l i2 h3 hl hlen c2 d2
      obtain ⟨v4, i4, h5, e4, a4, b4, c4, d4⟩ := spec_l1Byte_ev l i3 h4 hl hlen c3 d3
      simp only [e, e2, e3, e4, Option.bind_some]
      rw [if_neg (by omega), wrap_id (n := v * 16777216) (by omega) (by omega), wrap_id (n := v2 * 65536) (by omega) (by omega), wrap_id (n := v3 * 256) (by omega) (by omega), wrap_id (n := v * 16777216 + v2 * 65536) (by omega) (by omega), wrap_id (n := v * 16777216 + v2 * 65536 + v3 * 256) (by omega) (by omega), wrap_id (by omega) (by omega)]
      refine ⟨_, _, _, rfl, ?_⟩
      rw [Int.tmod_eq_emod_of_nonneg (by omega)]
      exact ⟨Int.emod_nonneg _ (by omega), fun _ => Int.emod_lt_of_pos _ (by omega), by omega, c4, d4⟩
theorem spec_l1New_ev (l : List Int) (hlen : l.length ≤ 1000000000000) : ∃ h, Ev (fun k => spec_l1New.f k l) (l, 0, h) := by
  have key : ∀ (d : Nat) (i x : Int), 0 ≤ i → i ≤ l.length → (l.length : Int) - i = d → ∃ h, Ev (fun k => spec_l1New.l0 k l x i) (l, 0, h) := by
    intro d
    induction d with
    | zero =>
      intro i x h0 h1 hd
      refine ⟨x, Ev.step (f := fun _ => some (l, 0, x)) (fun k => ?_) (Ev.now _)⟩
      simp only [spec_l1New.l0]; rw [if_neg (by omega)]
    | succ d ih =>
      intro i x h0 h1 hd
      by_cases h4 : i < 4000
      · obtain ⟨h, e⟩ := ih (i + 1) (Go.bits .and .i64 (wrap64 ((wrap64 ((wrap64 (x * 131)) + (wrap64 (rd l i)))) + 7)) 1073741823) (by omega) (by omega) (by omega)
        refine ⟨h, Ev.step (fun k => ?_) e⟩
        simp only [spec_l1New.l0]; rw [if_pos (by omega), if_pos h4, if_pos h0, wrap_id (n := i + 1) (by omega) (by omega)]
      · refine ⟨x, Ev.step (f := fun _ => some (l, 0, x)) (fun k => ?_) (Ev.now _)⟩
        simp only [spec_l1New.l0]; rw [if_pos (by omega), if_neg h4]
  obtain ⟨h, e⟩ := key l.length 0 (wrap64 (11443 + (l.length : Int))) (by omega) (by omega) (by omega)
  exact ⟨h, e⟩
theorem laws_big_ev (l : List Int) : laws_big.f l = some (decide ((l.length : Int) > 1048576)) := rfl

theorem spec_l1PickInt_ev (l : List Int) (i h : Int) (p : List Int) (hl : ∀ x ∈ l, (Lit.int .u8 x).wf = true) (hlen : l.length ≤ 1000000000000) (h0 : 0 ≤ i) (h1 : i ≤ l.length) (hp : 0 < p.length) :
    ∃ v i' h', spec_l1PickInt.f l i h p = some (v, i', h') ∧ v ∈ p ∧ 0 ≤ i' ∧ i' ≤ l.length := by
  unfold spec_l1PickInt.f
  obtain ⟨v, i1, h2, e, a, b, _, c, d⟩ := spec_l1Below_ev l i h p.length hl hlen h0 h1
  have b := b (by omega)
  simp only [e, Option.bind_some]
  rw [if_pos a, if_pos b]
  refine ⟨_, _, _, rfl, ?_, c, d⟩
  rw [rd_eq' _ _ a (by omega)]; exact List.getElem_mem _

theorem spec_l2DrawNum_ev (l : List Int) (i h : Int) (hl : ∀ x ∈ l, (Lit.int .u8 x).wf = true) (hlen : l.length ≤ 1000000000000) (h0 : 0 ≤ i) (h1 : i ≤ l.length) :
    ∃ v i' h', spec_l2DrawNum.f l i h = some (v, i', h') ∧ -9223372036854775808 ≤ v ∧ v < 9223372036854775808 ∧ 0 ≤ i' ∧ i' ≤ l.length := by
  unfold spec_l2DrawNum.f
  obtain ⟨v, i1, g1, e, a, b, _, c, d⟩ := spec_l1Below_ev l i h 1000000 hl hlen h0 h1
  obtain ⟨v2, i2, g2, e2, a2, b2, _, c2, d2⟩ := spec_l1Below_ev l i1 g1 1000000 hl hlen c d
  obtain ⟨v3, i3, g3, e3, a3, b3, _, c3, d3⟩ := spec_l1Below_ev l i2 g2 300 hl hlen c2 d2
  have b := b (by decide)
  have b2 := b2 (by decide)
  have b3 := b3 (by decide)
  simp only [e, e2, e3, Option.bind_some]
  rw [wrap_id (n := -v2) (by omega) (by omega)]
  obtain ⟨w, i4, g4, e4, hm, c4, d4⟩ := spec_l1PickInt_ev l i3 g3 [0, 1, (-1), 63, 64, (-64), (-65), 127, 128, 16383, 16384, 2147483647, (-2147483648), 9223372036854775807, (-9223372036854775808), 4611686018427387904, v, -v2, v3] hl hlen c3 d3 (by simp)
  simp only [e4, Option.bind_some]
  refine ⟨_, _, _, rfl, ?_, ?_, c4, d4⟩
  · simp only [List.mem_cons, List.not_mem_nil, or_false] at hm; omega
  · simp only [List.mem_cons, List.not_mem_nil, or_false] at hm; omega

theorem spec_DrawUvarPut_ev (l : List Int) (hl : ∀ x ∈ l, (Lit.int .u8 x).wf = true) (hlen : l.length ≤ 1000000000000) :
    ∃ v, Ev (fun k => spec_DrawUvarPut.f k l) v ∧ -9223372036854775808 ≤ v ∧ v < 9223372036854775808 := by
  obtain ⟨h, e⟩ := spec_l1New_ev l hlen
  obtain ⟨v, i, g, e2, a, b, _⟩ := spec_l2DrawNum_ev l 0 h hl hlen (by omega) (by omega)
  refine ⟨v, ?_, a, b⟩
  unfold spec_DrawUvarPut.f
  refine Ev.bind e ?_
  simp only [e2, Option.bind_some]
  exact Ev.now _

theorem byte_wf {x : Int} (h0 : 0 ≤ x) (h1 : x < 256) : (Lit.int .u8 x).wf = true := by simp [Lit.wf, IntKind.min, IntKind.max, IntKind.bits, IntKind.signed]; omega

theorem laws_at_ev (l : List Int) (i : Int) (hl : ∀ x ∈ l, (Lit.int .u8 x).wf = true) (hlen : l.length ≤ 1000000000000) (h0 : 0 ≤ i) (h1 : i ≤ 1000) : ∃ v, laws_at.f l i = some v ∧ 0 ≤ v ∧ v < 256 := by
  unfold laws_at.f
  by_cases h : i < l.length
  · have hr := rd_rng8 hl i
    rw [if_pos h, if_pos h0, wrap_id (by omega) (by omega)]; exact ⟨_, rfl, hr.1, hr.2⟩
  · rw [if_neg h, wrap_id (n := i * 7) (by omega) (by omega), wrap_id (n := i * 7 + (l.length : Int)) (by omega) (by omega), Int.tmod_eq_emod_of_nonneg (by omega)]
    exact ⟨_, rfl, by omega, by omega⟩

theorem impl_Zig_ev (a : Int) (h0 : -9223372036854775808 ≤ a) (h1 : a < 9223372036854775808) : impl_Zig.f a = some (zig a) := by
  unfold impl_Zig.f zig
  by_cases hn : a < 0
  · rw [if_pos hn, show a / 9223372036854775808 = -1 by omega, xor_m1]; congr 1; unfold wrap64; omega
  · rw [if_neg hn, show a / 9223372036854775808 = 0 by omega, xor_zero]; congr 1; unfold wrap64; omega

theorem impl_UvarPut_l (j : Nat) : ∀ (n : Nat) (acc : List Int), n < 18446744073709551616 → n < 128 ^ (j + 1) → acc.length + j ≤ 100000000000 →
    Ev (fun k => impl_UvarPut.l0 k n acc) (acc ++ uvb n) := by
  have last : ∀ (n : Nat) (acc : List Int), n < 128 → acc.length ≤ 100000000000 → Ev (fun k => impl_UvarPut.l0 k n acc) (acc ++ uvb n) := by
    intro n acc hs hl
    refine Ev.step (f := fun _ => some (acc ++ uvb n)) (fun k => ?_) (Ev.now _)
    simp only [impl_UvarPut.l0]
    rw [uvb, if_pos hs, if_neg (by omega), if_pos (by omega)]
    congr 3; omega
  induction j with
  | zero => intro n acc h hx hl; exact last n acc (by simpa using hx) (by omega)
  | succ j ih =>
    intro n acc h hx hl
    by_cases hs : n < 128
    · exact last n acc hs (by omega)
    · have hd : n / 128 < 128 ^ (j + 1) := by rw [Nat.div_lt_iff_lt_mul (by decide)]; rw [Nat.pow_succ] at hx; exact hx
      have h := ih (n / 128) (acc ++ [((n % 128 + 128 : Nat) : Int)]) (by omega) hd (by simp; omega)
      rw [List.append_assoc, List.singleton_append] at h
      rw [uvb, if_neg hs]
      refine Ev.step (fun k => ?_) h
      simp only [impl_UvarPut.l0]
      rw [if_pos (by omega), if_pos (by omega)]
      have e2 : (Go.bits .or .u64 (Go.bits .and .u64 (n : Int) 127) 128) % 256 = ((n % 128 + 128 : Nat) : Int) := by
        rw [and127u _ (by omega) (by omega), show (128 : Int) = 1 * 2 ^ 7 by rfl, or_addu _ 1 7 (by omega) (by omega) (by omega) (by omega)]; omega
      rw [e2]; congr 1
theorem impl_UvarPut_ev (x : Int) : Ev (fun k => impl_UvarPut.f k x) (uvb (ux x)) := by
  have h := impl_UvarPut_l 9 (ux x) [] (ux_lt x) (Nat.lt_of_lt_of_le (ux_lt x) (by decide)) (by simp)
  unfold impl_UvarPut.f
  rw [uwrap, show x % 18446744073709551616 = (ux x : Int) by unfold ux; omega]
  simpa using h

theorem impl_ZigPut_ev (x : Int) (h0 : -9223372036854775808 ≤ x) (h1 : x < 9223372036854775808) : Ev (fun k => impl_ZigPut.f k x) (uvb (ux (zig x))) := by
  unfold impl_ZigPut.f
  simp only [impl_Zig_ev x h0 h1, Option.bind_some]
  refine Ev.bind (impl_UvarPut_ev _) ?_
  exact Ev.now _

theorem impl_Zag_ev (a : Int) (h0 : -9223372036854775808 ≤ a) (h1 : a < 9223372036854775808) : impl_Zag.f a = some (zag a) := by
  unfold impl_Zag.f
  rw [and_one, show IntKind.u64.wrap a = a % 18446744073709551616 by simp [IntKind.wrap, IntKind.bits, IntKind.signed]]
  unfold zag
  rw [wrap_id (n := a % 18446744073709551616 / 2) (by omega) (by omega)]
  by_cases h : a % 2 = 1
  · rw [if_pos h, h, show wrap64 (-1) = -1 by unfold wrap64; omega, xor_m1, wrap_id (by omega) (by omega)]; congr 1; omega
  · rw [if_neg h, show a % 2 = 0 by omega, show wrap64 (-0) = 0 by unfold wrap64; omega, xor_zero, wrap_id (by omega) (by omega)]; congr 1; omega

theorem impl_UvarGet_l (b : List Int) (a : Int) (hb : ∀ x ∈ b, (Lit.int .u8 x).wf = true) (hl : b.length ≤ 1000000000000) (ha0 : 0 ≤ a) (ha : a < 9223372036854775808) :
    ∀ (d i : Nat) (acc : Int), i + d = 10 → 0 ≤ acc → acc < 2 ^ (7 * i) →
    Ev (fun k => impl_UvarGet.l0 k b a acc i) (ugetOf acc (a + i) ((ugl d (b.drop (a + i).toNat)).map fun p => (p.1 * 2 ^ (7 * i), p.2))) := by
  have fail : ∀ acc i, Ev (fun k => impl_UvarGet.j1 k b a acc i false) (0, 0, false) := fun acc i => Ev.step (f := fun _ => some (0, 0, false)) (fun k => by simp only [impl_UvarGet.j1]; rw [if_neg (by simp)]) (Ev.now _)
  intro d
  induction d with
  | zero =>
    intro i acc hi h0 h1
    rw [ugl_zero]
    refine Ev.step (f := fun k => impl_UvarGet.j1 k b a acc i false) (fun k => ?_) (fail acc i)
    simp only [impl_UvarGet.l0]; rw [if_neg (by omega)]
  | succ d ih =>
    intro i acc hi h0 h1
    refine Ev.step (f := fun k => impl_UvarGet.j1 k b a acc i (decide ((i : Int) < b.length - a))) (fun k => ?_) ?_
    · simp only [impl_UvarGet.l0]; rw [if_pos (by omega), wrap_id (by omega) (by omega)]
    by_cases hlt : (i : Int) < b.length - a
    · have hr := rd_rng8 hb (a + i)
      rw [decide_eq_true hlt, drop_rd b (a + i) (by omega) (by omega), ugl_cons]
      have hp : (0 : Int) < 2 ^ (7 * i) := Int.pow_pos (by decide)
      refine Ev.step (f := fun k => impl_UvarGet.j2 k b a acc i (rd b (a + i)) (decide (i = 9 ∧ rd b (a + i) > 1))) (fun k => ?_) ?_
      · simp only [impl_UvarGet.j1]
        rw [if_pos trivial, wrap_id (n := a + (i : Int)) (by omega) (by omega), if_pos (by omega), if_pos (by omega)]
        by_cases h9 : i = 9
        · subst h9; simp
        · rw [if_neg (by omega)]; simp [h9]
      by_cases hbad : i = 9 ∧ rd b (a + i) > 1
      · rw [decide_eq_true hbad, if_pos ⟨by omega, hbad.2⟩]
        exact Ev.step (f := fun _ => some (0, 0, false)) (fun k => by simp only [impl_UvarGet.j2]; rw [if_pos trivial]) (Ev.now _)
      · rw [decide_eq_false hbad, if_neg (by omega)]
        have hsum : acc + rd b (a + i) % 128 * 2 ^ (7 * i) < 18446744073709551616 ∧ (i ≤ 8 → acc + rd b (a + i) % 128 * 2 ^ (7 * i) < 2 ^ (7 * (i + 1))) := by
          have hm : 0 ≤ rd b (a + i) % 128 ∧ rd b (a + i) % 128 ≤ 127 := by omega
          generalize hc : rd b (a + i) % 128 = c at hm ⊢
          have hle : c * 2 ^ (7 * i) ≤ 127 * 2 ^ (7 * i) := Int.mul_le_mul_of_nonneg_right hm.2 (by omega)
          by_cases h9 : i = 9
          · subst h9
            have hc1 : c ≤ 1 := by omega
            have : c * 2 ^ (7 * 9) ≤ 1 * 2 ^ (7 * 9) := Int.mul_le_mul_of_nonneg_right hc1 (by omega)
            refine ⟨?_, fun h => by omega⟩
            have e : (2 : Int) ^ (7 * 9) = 9223372036854775808 := by rfl
            omega
          · have hpw : (2 : Int) ^ (7 * (i + 1)) ≤ 9223372036854775808 := by
              have : (2 : Nat) ^ (7 * (i + 1)) ≤ 2 ^ 63 := Nat.pow_le_pow_right (by decide) (by omega)
              have h2 : ((2 ^ (7 * (i + 1)) : Nat) : Int) ≤ ((2 ^ 63 : Nat) : Int) := by exact_mod_cast this
              simpa using h2
            have e : (2 : Int) ^ (7 * (i + 1)) = 128 * 2 ^ (7 * i) := by rw [show 7 * (i + 1) = 7 * i + 7 by omega, Int.pow_add]; omega
            constructor
            · omega
            · intro _; omega
        have ebits : Go.bits .or .u64 acc (shl .u64 (IntKind.u64.wrap (Go.bits .and .u8 (rd b (a + i)) 127)) (7 * (i : Int))) = acc + rd b (a + i) % 128 * 2 ^ (7 * i) := by
          rw [and127 _ hr.1 hr.2, uwrap_id (by omega) (by omega), shlu _ _ (by omega) (by omega), show (7 * (i : Int)).toNat = 7 * i by omega]
          have h2 : 0 ≤ rd b (a + i) % 128 * 2 ^ (7 * i) := Int.mul_nonneg (by omega) (by omega)
          rw [Int.emod_eq_of_lt h2 (by omega)]
          exact or_addu _ _ _ h0 h1 (by omega) hsum.1
        by_cases hc : rd b (a + i) < 128
        · rw [if_pos hc]
          refine Ev.step (f := fun _ => some (wrap64 (acc + rd b (a + i) * 2 ^ (7 * i)), a + i + 1, true)) (fun k => ?_) (Ev.now _)
          simp only [impl_UvarGet.j2]
          rw [if_neg (by simp), wrap_id (n := 7 * (i : Int)) (by omega) (by omega), if_pos (by omega), if_pos hc, ebits, wrap_id (n := a + (i : Int)) (by omega) (by omega), wrap_id (n := a + (i : Int) + 1) (by omega) (by omega)]
          rw [show rd b (a + i) % 128 = rd b (a + i) by omega]
        · rw [if_neg hc]
          have hi8 : i ≤ 8 := by omega
          have h := ih (i + 1) (acc + rd b (a + i) % 128 * 2 ^ (7 * i)) (by omega) (by have := Int.mul_nonneg (show 0 ≤ rd b (a + i) % 128 by omega) (show (0:Int) ≤ 2 ^ (7 * i) by omega); omega) (hsum.2 hi8)
          have egoal : ugetOf acc (a + i) (((ugl d (b.drop (a + i + 1).toNat)).map fun p => (rd b (a + i) - 128 + 128 * p.1, p.2 + 1)).map fun p => (p.1 * 2 ^ (7 * i), p.2))
              = ugetOf (acc + rd b (a + i) % 128 * 2 ^ (7 * i)) (a + ((i + 1 : Nat) : Int)) ((ugl d (b.drop (a + ((i + 1 : Nat) : Int)).toNat)).map fun p => (p.1 * 2 ^ (7 * (i + 1)), p.2)) := by
            rw [show a + ((i + 1 : Nat) : Int) = a + i + 1 by push_cast; omega]
            cases ugl d (b.drop (a + i + 1).toNat) with
            | none => rfl
            | some p =>
              simp only [Option.map_some, ugetOf]
              rw [show rd b (a + i) % 128 = rd b (a + i) - 128 by omega, show 7 * (i + 1) = 7 + 7 * i by omega, Int.pow_add]
              refine congr (congrArg Prod.mk (congrArg wrap64 ?_)) (congrArg (fun z => (z, true)) (by omega))
              generalize (2 : Int) ^ (7 * i) = q
              rw [show ((2 : Int) ^ 7) = 128 by rfl, Int.add_mul, ← Int.mul_assoc, Int.mul_comm 128 p.1]; omega
          rw [egoal]
          refine Ev.step (fun k => ?_) h
          simp only [impl_UvarGet.j2]
          rw [if_neg (by simp), wrap_id (n := 7 * (i : Int)) (by omega) (by omega), if_pos (by omega), if_neg hc, ebits, wrap_id (n := (i : Int) + 1) (by omega) (by omega)]
          push_cast; rfl
    · rw [decide_eq_false hlt, List.drop_eq_nil_of_le (by omega), ugl_nil]
      exact fail acc i
theorem impl_UvarGet_ev (b : List Int) (a : Int) (hb : ∀ x ∈ b, (Lit.int .u8 x).wf = true) (hl : b.length ≤ 1000000000000) (ha : a < 9223372036854775808) :
    Ev (fun k => impl_UvarGet.f k b a) (uget b a) := by
  unfold impl_UvarGet.f uget
  by_cases h0 : a < 0
  · simp only [if_pos h0]; exact Ev.now _
  · simp only [if_neg h0]
    have h := impl_UvarGet_l b a hb hl (by omega) ha 10 0 0 (by omega) (by omega) (by simp)
    simpa using h

theorem impl_ZigGet_ev (b : List Int) (a : Int) (hb : ∀ x ∈ b, (Lit.int .u8 x).wf = true) (hl : b.length ≤ 1000000000000) (ha : a < 9223372036854775808) :
    Ev (fun k => impl_ZigGet.f k b a) (zget b a) := by
  unfold impl_ZigGet.f zget
  refine Ev.bind (impl_UvarGet_ev b a hb hl ha) ?_
  have hr := uget_rng b a
  by_cases h : (uget b a).2.2 = true
  · simp only [if_pos h, impl_Zag_ev _ hr.1 hr.2, Option.bind_some]; exact Ev.now _
  · simp only [if_neg h]; exact Ev.now _

theorem impl_within_ev (x a b : Int) : impl_within.f x a b = some (decide (a ≤ x ∧ x ≤ b)) := by
  unfold impl_within.f
  by_cases h : x ≥ a
  · rw [if_pos h]; congr 1; simp [show a ≤ x from h]
  · rw [if_neg h]; congr 1; simp [show ¬ a ≤ x from h]

theorem impl_WordPut_ev (x : Int) (n : Int) (h : n < 9223372036854775808) : Ev (fun k => impl_WordPut.f k x n) (if 1 ≤ n ∧ n ≤ 8 then wbytes x n.toNat else []) := by
  unfold impl_WordPut.f
  simp only [impl_within_ev, Option.bind_some]
  by_cases hn : 1 ≤ n ∧ n ≤ 8
  · have key : ∀ (d : Nat) (i : Nat), (i : Int) + d = n → Ev (fun k => impl_WordPut.l0 k x (wbytes x i) n i) (wbytes x n.toNat) := by
      intro d
      induction d with
      | zero =>
        intro i hd
        refine Ev.step (f := fun _ => some (wbytes x n.toNat)) (fun k => ?_) (Ev.now _)
        simp only [impl_WordPut.l0]; rw [if_neg (by omega), show n.toNat = i by omega]
      | succ d ih =>
        intro i hd
        refine Ev.step (f := fun k => impl_WordPut.l0 k x (wbytes x (i + 1)) n (i + 1 : Nat)) (fun k => ?_) (ih (i + 1) (by omega))
        simp only [impl_WordPut.l0]
        rw [if_pos (by omega), wrap_id (n := 8 * (i : Int)) (by omega) (by omega), if_pos (by omega), if_pos (by rw [wbytes_len]; omega), wrap_id (by omega) (by omega), shr64 _ _ (by omega) (by omega), wbytes_succ, show (8 * (i : Int)).toNat = 8 * i by omega]
        push_cast; rfl
    have h := key n.toNat 0 (by omega)
    rw [if_pos hn]
    simp only [decide_eq_true hn, if_true]
    simpa [wbytes] using h
  · rw [if_neg hn]
    simp only [decide_eq_false hn, Bool.false_eq_true, if_false]; exact Ev.now _

/-- What WordGet answers. -/
def wget (l : List Int) (a n : Int) : Int × Int × Bool := if 1 ≤ n ∧ n ≤ 8 ∧ 0 ≤ a ∧ a + n ≤ l.length then (wrap64 (wnum l a n.toNat), a + n, true) else (0, 0, false)
theorem impl_WordGet_ev (l : List Int) (a n : Int) (hl : ∀ x ∈ l, (Lit.int .u8 x).wf = true) (hlen : l.length ≤ 1000000000000) (ha : -9223372036854775808 ≤ a ∧ a < 9223372036854775808) (hn : -9223372036854775808 ≤ n ∧ n < 9223372036854775808) :
    Ev (fun k => impl_WordGet.f k l a n) (wget l a n) := by
  unfold impl_WordGet.f wget
  simp only [impl_within_ev, Option.bind_some]
  have bad : Ev (fun k => impl_WordGet.j0 k l a n true) (0, 0, false) := Ev.step (f := fun _ => some (0, 0, false)) (fun k => by simp only [impl_WordGet.j0]; rw [if_pos trivial]) (Ev.now _)
  by_cases hn8 : 1 ≤ n ∧ n ≤ 8
  · obtain ⟨h1, h8⟩ := id hn8
    · simp only [decide_eq_true hn8, if_true]
      by_cases h2 : a < 0
      · simp only [if_pos h2]; rw [if_neg (show ¬ (1 ≤ n ∧ n ≤ 8 ∧ 0 ≤ a ∧ a + n ≤ (l.length : Int)) by omega)]; exact bad
      · simp only [if_neg h2]
        rw [wrap_id (n := (l.length : Int) - n) (by omega) (by omega)]
        by_cases h3 : a + n ≤ l.length
        · rw [if_pos (show (1 ≤ n ∧ n ≤ 8 ∧ 0 ≤ a ∧ a + n ≤ (l.length : Int)) by omega)]
          have key : ∀ (d : Nat) (i : Nat), (i : Int) + d = n → Ev (fun k => impl_WordGet.l0 k l a n (wrap64 (wnum l a i)) n i) (wrap64 (wnum l a n.toNat), a + n, true) := by
            intro d
            induction d with
            | zero =>
              intro i hd
              refine Ev.step (f := fun _ => some (wrap64 (wnum l a n.toNat), a + n, true)) (fun k => ?_) (Ev.now _)
              simp only [impl_WordGet.l0]; rw [if_neg (by omega), show n.toNat = i by omega, wrap_id (n := a + n) (by omega) (by omega)]
            | succ d ih =>
              intro i hd
              refine Ev.step (f := fun k => impl_WordGet.l0 k l a n (wrap64 (wnum l a (i + 1))) n (i + 1 : Nat)) (fun k => ?_) (ih (i + 1) (by omega))
              simp only [impl_WordGet.l0]
              have hr := rd_rng8 hl (a + i)
              rw [if_pos (by omega), wrap_id (n := a + (i : Int)) (by omega) (by omega), wrap_id (n := 8 * (i : Int)) (by omega) (by omega), if_pos (by omega), if_pos (by omega), if_pos (by omega), wrap_id (n := rd l (a + i)) (by omega) (by omega), wrap_id (n := (i : Int) + 1) (by omega) (by omega), shl64 _ _ (by omega) (by omega), show (8 * (i : Int)).toNat = 8 * i by omega]
              rw [or_add _ _ (8 * i) (wnum_rng hl a i).1 (wnum_rng hl a i).2 hr.1]
              push_cast; rfl
          refine Ev.step (f := fun k => impl_WordGet.l0 k l a n 0 n 0) (fun k => ?_) ?_
          · simp only [impl_WordGet.j0]; rw [if_neg (by simp; omega)]
          · have h := key n.toNat 0 (by omega)
            simpa [wnum, show wrap64 0 = 0 by unfold wrap64; omega] using h
        · rw [if_neg (show ¬ (1 ≤ n ∧ n ≤ 8 ∧ 0 ≤ a ∧ a + n ≤ (l.length : Int)) by omega)]
          simpa [show a > (l.length : Int) - n by omega] using bad
  · simp only [decide_eq_false hn8, Bool.false_eq_true, if_false]
    rw [if_neg (show ¬ (1 ≤ n ∧ n ≤ 8 ∧ 0 ≤ a ∧ a + n ≤ (l.length : Int)) by omega)]; exact bad

theorem FnVarints : laws_FnVarints.Pure := by
  intro l hlen hsz hl
  refine Ev.rounds (g := fun k => laws_FnVarints.f k l) ?_
  unfold laws_FnVarints.f
  simp only [laws_big_ev, Option.bind_some]
  by_cases hbig : (l.length : Int) > 1048576
  · simp only [decide_eq_true hbig, if_true]; exact Ev.now _
  simp only [decide_eq_false hbig, Bool.false_eq_true, if_false]
  obtain ⟨x, e, h0, h1⟩ := spec_DrawUvarPut_ev l hl (by omega)
  obtain ⟨t1, at1, t10, t11⟩ := laws_at_ev l 1 hl (by omega) (by decide) (by decide)
  have hu := uvb_len10 (ux x) (ux_lt x)
  have hz := uvb_len10 (ux (zig x)) (ux_lt (zig x))
  refine Ev.bind e ?_
  refine Ev.bind (impl_UvarPut_ev x) ?_
  simp only [at1, Option.bind_some]
  simp only [if_pos (show ([9] : List Int).length + (uvb (ux x)).length < 140737488355328 by simp; omega), if_pos (show ([9] ++ uvb (ux x)).length < 140737488355328 by simp; omega)]
  have wb : ∀ y ∈ [9] ++ uvb (ux x) ++ [t1 % 256], (Lit.int .u8 y).wf = true := by
    intro y hy
    rcases List.mem_append.1 hy with hy | hy
    · rcases List.mem_append.1 hy with hy | hy
      · rw [List.mem_singleton] at hy; subst hy; exact byte_wf (by decide) (by decide)
      · exact uvb_wf _ y hy
    · rw [List.mem_singleton] at hy; subst hy; exact byte_wf (by omega) (by omega)
  refine Ev.bind (impl_UvarGet_ev _ 1 wb (by simp; omega) (by decide)) ?_
  refine Ev.bind (impl_ZigPut_ev x h0 h1) ?_
  refine Ev.bind (impl_ZigGet_ev _ 0 (uvb_wf _) (by omega) (by decide)) ?_
  have g1 : uget ([9] ++ uvb (ux x) ++ [t1 % 256]) 1 = (x, 1 + ((uvb (ux x)).length : Int), true) := by
    unfold uget
    rw [if_neg (by decide), show (1 : Int).toNat = 1 by rfl]
    have hd : ([9] ++ uvb (ux x) ++ [t1 % 256]).drop 1 = uvb (ux x) ++ [t1 % 256] := by simp
    rw [hd, ugl_uvb 9 _ _ (Nat.lt_of_lt_of_le (ux_lt x) (by decide))]
    simp only [ugetOf, Int.zero_add, wrap_ux x h0 h1]
  have hzr := zig_rng x
  have g2 : zget (uvb (ux (zig x))) 0 = (x, ((uvb (ux (zig x))).length : Int), true) := by
    have : uget (uvb (ux (zig x))) 0 = (zig x, ((uvb (ux (zig x))).length : Int), true) := by
      unfold uget
      rw [if_neg (by decide), show (0 : Int).toNat = 0 by rfl, List.drop_zero]
      have := ugl_uvb 9 (ux (zig x)) [] (Nat.lt_of_lt_of_le (ux_lt _) (by decide))
      rw [List.append_nil] at this
      rw [this]
      simp only [ugetOf, Int.zero_add, wrap_ux _ hzr.1 hzr.2]
    unfold zget
    rw [this]
    simp only [if_true, zag_zig x h0 h1]
  simp only [g1, g2, if_true, wrap_id (n := 1 + ((uvb (ux x)).length : Int)) (by omega) (by omega), if_neg (show ¬ ((uvb (ux x)).length : Int) > 10 by omega)]
  refine Ev.bind (impl_ZigPut_ev x h0 h1) ?_
  simp only [bne_self_eq_false]
  have gr := zag_rng x
  refine Ev.step (f := fun k => laws_FnVarints.j1 k x false) (fun k => ?_) ?_
  · simp only [laws_FnVarints.j0, Bool.false_eq_true, if_false, impl_Zig_ev x h0 h1, Option.bind_some, impl_Zag_ev _ hzr.1 hzr.2, zag_zig x h0 h1, if_true, impl_Zag_ev x h0 h1, impl_Zig_ev _ gr.1 gr.2, zig_zag x h0 h1, bne_self_eq_false]
  refine Ev.step (fun k => by simp only [laws_FnVarints.j1, Bool.false_eq_true, if_false]; rfl) ?_
  have w8 := impl_WordPut_ev x 8 (by decide)
  have w3 := impl_WordPut_ev x 3 (by decide)
  rw [if_pos (by decide)] at w8 w3
  refine Ev.bind w8 ?_
  refine Ev.bind (impl_WordGet_ev _ 0 8 (wbytes_wf _ _) (by rw [wbytes_len]; decide) (by decide) (by decide)) ?_
  refine Ev.bind w3 ?_
  refine Ev.bind (impl_WordGet_ev _ 0 3 (wbytes_wf _ _) (by rw [wbytes_len]; decide) (by decide) (by decide)) ?_
  have q8 : wget (wbytes x (8 : Int).toNat) 0 8 = (x, 8, true) := by
    unfold wget
    rw [if_pos (by rw [wbytes_len]; decide), wnum_wbytes x _ 0 _ (fun i hi => by rw [rd_wbytes _ _ _ (by omega) (by omega)]; congr 3; omega)]
    have : (2 : Int) ^ (8 * (8 : Int).toNat) = 18446744073709551616 := by rfl
    rw [this]
    congr 1
    unfold wrap64; omega
  have q3 : wget (wbytes x (3 : Int).toNat) 0 3 = (x % 16777216, 3, true) := by
    unfold wget
    rw [if_pos (by rw [wbytes_len]; decide), wnum_wbytes x _ 0 _ (fun i hi => by rw [rd_wbytes _ _ _ (by omega) (by omega)]; congr 3; omega)]
    have : (2 : Int) ^ (8 * (3 : Int).toNat) = 16777216 := by rfl
    rw [this]
    congr 1
    unfold wrap64; omega
  have q := and_mask x 24 (by decide)
  rw [show (2 : Int) ^ 24 - 1 = 16777215 by rfl, show (2 : Int) ^ 24 = 16777216 by rfl] at q
  simp only [q8, q3, if_true, q, beq_self_eq_true]
  exact Ev.now _

end Go.Proofs.Ytbiibjbhgeenoaa.Pure
