/- The law FnOrder answers true for every code. -/
import Derived.Test.YtbiibjbhgeenoaaPFnOrderx6
import Derived.Test.YtbiibjbhgeenoaaCom
namespace Go.Proofs.Ytbiibjbhgeenoaa.Pure
open Go Go.RowKit Go.Proofs.Ytbiibjbhgeenoaa.PFnOrder Go.Proofs.YtbiibjbhgeenoaaW.PrintWords Go.Proofs.YtbiibjbhgeenoaaW.PrintLast Go.Proofs.YtbiibjbhgeenoaaW.PrintMore Go.Proofs.Ytbiibjbhgeenoaa.Com
set_option linter.unusedVariables false
set_option linter.unusedSimpArgs false

theorem spec_l1Byte_ev (l : List Int) (i h : Int) (hl : ∀ x ∈ l, (Lit.int .u8 x).wf = true) (hlen : l.length ≤ 1000000000000) (h0 : 0 ≤ i) (h1 : i ≤ l.length) :
    ∃ v i' h', spec_l1Byte.f l i h = some (v, i', h') ∧ 0 ≤ v ∧ v < 256 ∧ 0 ≤ i' ∧ i' ≤ l.length := by
  have m : ∀ x, Go.bits .and .i64 x 255 = x % 256 := fun x => and_mask x 8 (by decide)
  unfold spec_l1Byte.f
  by_cases hi : i < l.length
  · rw [if_pos hi, if_pos h0, m, m, wrap_id (n := i + 1) (by omega) (by omega)]
    exact ⟨_, _, _, rfl, by omega, by omega, by omega, by omega⟩
  · rw [if_neg hi, m]
    exact ⟨_, _, _, rfl, by omega, by omega, by omega, by omega⟩
theorem spec_l1Below_ev (l : List Int) (i h n : Int) (hl : ∀ x ∈ l, (Lit.int .u8 x).wf = true) (hlen : l.length ≤ 1000000000000) (h0 : 0 ≤ i) (h1 : i ≤ l.length) :
    ∃ v i' h', spec_l1Below.f l i h n = some (v, i', h') ∧ 0 ≤ v ∧ (0 < n → v < n) ∧ (n ≤ 0 → v = 0) ∧ 0 ≤ i' ∧ i' ≤ l.length := by
  unfold spec_l1Below.f
  by_cases hn : n ≤ 0
  · rw [if_pos hn]; exact ⟨_, _, _, rfl, by omega, by omega, by omega, h0, h1⟩
  · rw [if_neg hn]
    obtain ⟨v, i1, h2, e, a, b, c, d⟩ := spec_l1Byte_ev l i h hl hlen h0 h1
    by_cases hb : n ≤ 256
    · rw [if_pos hb]
      simp only [e, Option.bind_some]
      rw [if_neg (by omega)]
      refine ⟨_, _, _, rfl, ?_⟩
      rw [Int.tmod_eq_emod_of_nonneg a]
      exact ⟨Int.emod_nonneg _ (by omega), fun _ => Int.emod_lt_of_pos _ (by omega), by omega, c, d⟩
    · rw [if_neg hb]
      obtain ⟨v2, i2, h3, e2, a2, b2, c2, d2⟩ := spec_l1Byte_ev l i1 h2 hl hlen c d
      obtain ⟨v3, i3, h4, e3, a3, b3, c3, d3⟩ := spec_l1Byte_ev l i2 h3 hl hlen c2 d2
      obtain ⟨v4, i4, h5, e4, a4, b4, c4, d4⟩ := spec_l1Byte_ev l i3 h4 hl hlen c3 d3
      simp only [e, e2, e3, e4, Option.bind_some]
      rw [if_neg (by omega), wrap_id (n := v * 16777216) (by omega) (by omega), wrap_id (n := v2 * 65536) (by omega) (by omega), wrap_id (n := v3 * 256) (by omega) (by omega), wrap_id (n := v * 16777216 + v2 * 65536) (by omega) (by omega), wrap_id (n := v * 16777216 + v2 * 65536 + v3 * 256) (by omega) (by omega), wrap_id (by omega) (by omega)]
      refine ⟨_, _, _, rfl, ?_⟩
      rw [Int.tmod_eq_emod_of_nonneg (by omega)]
      exact ⟨Int.emod_nonneg _ (by omega), fun _ => Int.emod_lt_of_pos _ (by omega), by omega, c4, d4⟩
theorem spec_l1New_ev (l : List Int) (hlen : l.length ≤ 1000000000000) : ∃ h, Ev (fun k => spec_l1New.f k l) (l, 0, h) := by
  have key : ∀ (d : Nat) (i x : Int), 0 ≤ i → i ≤ l.length → (l.length : Int) - i = d → ∃ h, Ev (fun k => spec_l1New.l0 k l x i) (l, 0, h) := by
    intro d
    induction d with
    | zero =>
      intro i x h0 h1 hd
      refine ⟨x, Ev.step (f := fun _ => some (l, 0, x)) (fun k => ?_) (Ev.now _)⟩
      simp only [spec_l1New.l0]; rw [if_neg (by omega)]
    | succ d ih =>
      intro i x h0 h1 hd
      by_cases h4 : i < 4000
      · obtain ⟨h, e⟩ := ih (i + 1) (Go.bits .and .i64 (wrap64 ((wrap64 ((wrap64 (x * 131)) + (wrap64 (rd l i)))) + 7)) 1073741823) (by omega) (by omega) (by omega)
        refine ⟨h, Ev.step (fun k => ?_) e⟩
        simp only [spec_l1New.l0]; rw [if_pos (by omega), if_pos h4, if_pos h0, wrap_id (n := i + 1) (by omega) (by omega)]
      · refine ⟨x, Ev.step (f := fun _ => some (l, 0, x)) (fun k => ?_) (Ev.now _)⟩
        simp only [spec_l1New.l0]; rw [if_pos (by omega), if_neg h4]
  obtain ⟨h, e⟩ := key l.length 0 (wrap64 (11443 + (l.length : Int))) (by omega) (by omega) (by omega)
  exact ⟨h, e⟩
theorem laws_big_ev (l : List Int) : laws_big.f l = some (decide ((l.length : Int) > 1048576)) := rfl

theorem spec_l1PickInt_ev (l : List Int) (i h : Int) (p : List Int) (hl : ∀ x ∈ l, (Lit.int .u8 x).wf = true) (hlen : l.length ≤ 1000000000000) (h0 : 0 ≤ i) (h1 : i ≤ l.length) (hp : 0 < p.length) :
    ∃ v i' h', spec_l1PickInt.f l i h p = some (v, i', h') ∧ v ∈ p ∧ 0 ≤ i' ∧ i' ≤ l.length := by
  unfold spec_l1PickInt.f
  obtain ⟨v, i1, h2, e, a, b, _, c, d⟩ := spec_l1Below_ev l i h p.length hl hlen h0 h1
  have b := b (by omega)
  simp only [e, Option.bind_some]
  rw [if_pos a, if_pos b]
  refine ⟨_, _, _, rfl, ?_, c, d⟩
  rw [rd_eq' _ _ a (by omega)]; exact List.getElem_mem _

theorem spec_l1Once_ev (l : List Int) (i h n : Int) (hl : ∀ x ∈ l, (Lit.int .u8 x).wf = true) (hlen : l.length ≤ 1000000000000) (h0 : 0 ≤ i) (h1 : i ≤ l.length) :
    ∃ v i' h', spec_l1Once.f l i h n = some (v, i', h') ∧ 0 ≤ i' ∧ i' ≤ l.length := by
  unfold spec_l1Once.f
  obtain ⟨v, i1, g1, e, _, _, _, c, d⟩ := spec_l1Below_ev l i h n hl hlen h0 h1
  simp only [e, Option.bind_some]
  exact ⟨_, _, _, rfl, c, d⟩

theorem spec_l2DrawNum_ev (l : List Int) (i h : Int) (hl : ∀ x ∈ l, (Lit.int .u8 x).wf = true) (hlen : l.length ≤ 1000000000000) (h0 : 0 ≤ i) (h1 : i ≤ l.length) :
    ∃ v i' h', spec_l2DrawNum.f l i h = some (v, i', h') ∧ -9223372036854775808 ≤ v ∧ v < 9223372036854775808 ∧ 0 ≤ i' ∧ i' ≤ l.length := by
  unfold spec_l2DrawNum.f
  obtain ⟨v, i1, g1, e, a, b, _, c, d⟩ := spec_l1Below_ev l i h 1000000 hl hlen h0 h1
  obtain ⟨v2, i2, g2, e2, a2, b2, _, c2, d2⟩ := spec_l1Below_ev l i1 g1 1000000 hl hlen c d
  obtain ⟨v3, i3, g3, e3, a3, b3, _, c3, d3⟩ := spec_l1Below_ev l i2 g2 300 hl hlen c2 d2
  have b := b (by decide)
  have b2 := b2 (by decide)
  have b3 := b3 (by decide)
  simp only [e, e2, e3, Option.bind_some]
  rw [wrap_id (n := -v2) (by omega) (by omega)]
  obtain ⟨w, i4, g4, e4, hm, c4, d4⟩ := spec_l1PickInt_ev l i3 g3 [0, 1, (-1), 63, 64, (-64), (-65), 127, 128, 16383, 16384, 2147483647, (-2147483648), 9223372036854775807, (-9223372036854775808), 4611686018427387904, v, -v2, v3] hl hlen c3 d3 (by simp)
  simp only [e4, Option.bind_some]
  refine ⟨_, _, _, rfl, ?_, ?_, c4, d4⟩
  · simp only [List.mem_cons, List.not_mem_nil, or_false] at hm; omega
  · simp only [List.mem_cons, List.not_mem_nil, or_false] at hm; omega

theorem byte_wf {x : Int} (h0 : 0 ≤ x) (h1 : x < 256) : (Lit.int .u8 x).wf = true := by simp [Lit.wf, IntKind.min, IntKind.max, IntKind.bits, IntKind.signed]; omega

theorem spec_l1DrawBytes_ev (l : List Int) (i h n : Int) (hl : ∀ x ∈ l, (Lit.int .u8 x).wf = true) (hlen : l.length ≤ 1000000000000) (h0 : 0 ≤ i) (h1 : i ≤ l.length) (hn : 0 ≤ n) (hn1 : n ≤ 1000000) :
    ∃ b i' h', Ev (fun k => spec_l1DrawBytes.f k l i h n) (b, i', h') ∧ (∀ x ∈ b, (Lit.int .u8 x).wf = true) ∧ (b.length : Int) ≤ n ∧ 0 ≤ i' ∧ i' ≤ l.length := by
  obtain ⟨m, i1, g1, e, a, b, _, c, d⟩ := spec_l1Below_ev l i h (n + 1) hl hlen h0 h1
  have b := b (by omega)
  have key : ∀ (d : Nat) (j : Int) (acc : List Int) (i h : Int), 0 ≤ j → j + d = m → (acc.length : Int) = j → (∀ x ∈ acc, (Lit.int .u8 x).wf = true) → 0 ≤ i → i ≤ l.length →
      ∃ b i' h', Ev (fun k => spec_l1DrawBytes.l0 k acc m j l i h) (b, i', h') ∧ (∀ x ∈ b, (Lit.int .u8 x).wf = true) ∧ (b.length : Int) = m ∧ 0 ≤ i' ∧ i' ≤ l.length := by
    intro d
    induction d with
    | zero =>
      intro j acc i h hj hd hacc hwf hi0 hi1
      refine ⟨acc, i, h, Ev.step (f := fun _ => some (acc, i, h)) (fun k => ?_) (Ev.now _), hwf, by omega, hi0, hi1⟩
      simp only [spec_l1DrawBytes.l0]; rw [if_neg (by omega)]
    | succ d ih =>
      intro j acc i h hj hd hacc hwf hi0 hi1
      obtain ⟨v, i2, g2, e2, a2, b2, c2, d2⟩ := spec_l1Byte_ev l i h hl hlen hi0 hi1
      obtain ⟨bs, i3, g3, e3, w3, l3, c3, d3⟩ := ih (j + 1) (acc ++ [v % 256]) i2 g2 (by omega) (by omega) (by simp; omega) (by
        intro x hx
        rcases List.mem_append.1 hx with hx | hx
        · exact hwf x hx
        · rw [List.mem_singleton] at hx; subst hx; exact byte_wf (by omega) (by omega)) c2 d2
      refine ⟨bs, i3, g3, Ev.step (fun k => ?_) e3, w3, l3, c3, d3⟩
      simp only [spec_l1DrawBytes.l0]
      rw [if_pos (by omega), e2]
      simp only [Option.bind_some]
      rw [if_pos (by omega), wrap_id (n := j + 1) (by omega) (by omega)]
  obtain ⟨bs, i3, g3, e3, w3, l3, c3, d3⟩ := key m.toNat 0 [] i1 g1 (by omega) (by omega) (by simp) (by simp) c d
  refine ⟨bs, i3, g3, ?_, w3, by omega, c3, d3⟩
  unfold spec_l1DrawBytes.f
  rw [wrap_id (n := n + 1) (by omega) (by omega)]
  simp only [e, Option.bind_some]
  exact e3

theorem spec_l6DrawType_ev (l : List Int) (i h : Int) (hl : ∀ x ∈ l, (Lit.int .u8 x).wf = true) (hlen : l.length ≤ 1000000000000) (h0 : 0 ≤ i) (h1 : i ≤ l.length) :
    ∃ v i' h', spec_l6DrawType.f l i h = some (v, i', h') ∧ -1 ≤ v ∧ v ≤ 7 ∧ 0 ≤ i' ∧ i' ≤ l.length := by
  unfold spec_l6DrawType.f
  obtain ⟨o, i1, g1, e1, c1, d1⟩ := spec_l1Once_ev l i h 25 hl hlen h0 h1
  simp only [e1, Option.bind_some]
  cases o with
  | true =>
    obtain ⟨v, i2, g2, e2, hm, c2, d2⟩ := spec_l1PickInt_ev l i1 g1 [3, 4, 7, (-1)] hl hlen c1 d1 (by simp)
    simp only [if_true, e2, Option.bind_some]
    simp only [List.mem_cons, List.not_mem_nil, or_false] at hm
    exact ⟨_, _, _, rfl, by omega, by omega, c2, d2⟩
  | false =>
    obtain ⟨v, i2, g2, e2, hm, c2, d2⟩ := spec_l1PickInt_ev l i1 g1 [0, 1, 2, 5, 6] hl hlen c1 d1 (by simp)
    simp only [Bool.false_eq_true, if_false, e2, Option.bind_some]
    simp only [List.mem_cons, List.not_mem_nil, or_false] at hm
    exact ⟨_, _, _, rfl, by omega, by omega, c2, d2⟩
theorem spec_l1Pick_ev (l : List Int) (i h : Int) (p : List ByteArray) (hl : ∀ x ∈ l, (Lit.int .u8 x).wf = true) (hlen : l.length ≤ 1000000000000) (h0 : 0 ≤ i) (h1 : i ≤ l.length) (hp : 0 < p.length) (hs : ∀ s ∈ p, s.size ≤ 100) :
    ∃ v i' h', spec_l1Pick.f l i h p = some (v, i', h') ∧ v.size ≤ 100 ∧ 0 ≤ i' ∧ i' ≤ l.length := by
  unfold spec_l1Pick.f
  obtain ⟨v, i1, h2, e, a, b, _, c, d⟩ := spec_l1Below_ev l i h p.length hl hlen h0 h1
  have b := b (by omega)
  simp only [e, Option.bind_some]
  rw [if_pos a, if_pos b]
  refine ⟨_, _, _, rfl, ?_, c, d⟩
  unfold rdOf
  have hv : v.toNat < p.length := by omega
  simp only [List.getD_eq_getElem?_getD, List.getElem?_eq_getElem hv, Option.getD_some]
  exact hs _ (List.getElem_mem hv)
theorem spec_l6DrawRight_ev (l : List Int) (i h t : Int) (hl : ∀ x ∈ l, (Lit.int .u8 x).wf = true) (hlen : l.length ≤ 1000000000000) (h0 : 0 ≤ i) (h1 : i ≤ l.length) :
    ∃ n s i' h', Ev (fun k => spec_l6DrawRight.f k l i h t) (n, s, i', h') ∧ -9223372036854775808 ≤ n ∧ n < 9223372036854775808 ∧ s.size ≤ 100 ∧ 0 ≤ i' ∧ i' ≤ l.length := by
  unfold spec_l6DrawRight.f
  have z : (⟨#[]⟩ : ByteArray).size ≤ 100 := by decide
  by_cases t0 : t = 0
  · obtain ⟨v, i1, g1, e1, a1, b1, _, c1, d1⟩ := spec_l1Below_ev l i h 2 hl hlen h0 h1
    have b1 := b1 (by decide)
    simp only [if_pos t0, e1, Option.bind_some]
    exact ⟨_, _, _, _, Ev.now _, by omega, by omega, z, c1, d1⟩
  simp only [if_neg t0]
  by_cases t1 : t = 1
  · obtain ⟨o, i1, g1, e1, c1, d1⟩ := spec_l1Once_ev l i h 6 hl hlen h0 h1
    simp only [if_pos t1, e1, Option.bind_some]
    cases o with
    | true =>
      obtain ⟨v, i2, g2, e2, hm, c2, d2⟩ := spec_l1PickInt_ev l i1 g1 [2147483647, (-2147483648), 0] hl hlen c1 d1 (by simp)
      simp only [if_true, e2, Option.bind_some]
      simp only [List.mem_cons, List.not_mem_nil, or_false] at hm
      exact ⟨_, _, _, _, Ev.now _, by omega, by omega, z, c2, d2⟩
    | false =>
      obtain ⟨v, i2, g2, e2, a2, b2, _, c2, d2⟩ := spec_l1Below_ev l i1 g1 40 hl hlen c1 d1
      simp only [Bool.false_eq_true, if_false, e2, Option.bind_some]
      exact ⟨_, _, _, _, Ev.now _, (wrap_rng _).1, (wrap_rng _).2, z, c2, d2⟩
  simp only [if_neg t1]
  by_cases t6 : t = 6
  · obtain ⟨o, i1, g1, e1, c1, d1⟩ := spec_l1Once_ev l i h 3 hl hlen h0 h1
    simp only [if_pos t6, e1, Option.bind_some]
    cases o with
    | true =>
      obtain ⟨v, i2, g2, e2, hm, c2, d2⟩ := spec_l1Pick_ev l i1 g1 [(⟨#[]⟩ : ByteArray), (⟨#[97]⟩ : ByteArray), (⟨#[97, 98]⟩ : ByteArray), (⟨#[97, 98, 99]⟩ : ByteArray), (⟨#[97, 98, 100]⟩ : ByteArray), (⟨#[98]⟩ : ByteArray), (⟨#[97, 97]⟩ : ByteArray)] hl hlen c1 d1 (by simp) (by
        intro s hs
        simp only [List.mem_cons, List.not_mem_nil, or_false] at hs
        rcases hs with rfl | rfl | rfl | rfl | rfl | rfl | rfl <;> decide)
      simp only [if_true, e2, Option.bind_some]
      exact ⟨_, _, _, _, Ev.now _, by omega, by omega, hm, c2, d2⟩
    | false =>
      obtain ⟨b, i2, g2, e2, wb, lb, c2, d2⟩ := spec_l1DrawBytes_ev l i1 g1 6 hl hlen c1 d1 (by decide) (by decide)
      simp only [Bool.false_eq_true, if_false]
      have e3 : Ev (fun k => spec_l4DrawText.f k l i1 g1 6) (strOfNums b, i2, g2) := by
        unfold spec_l4DrawText.f
        refine Ev.bind e2 ?_
        exact Ev.now _
      exact ⟨_, _, _, _, Ev.bind e3 (Ev.now _), by omega, by omega, by show (strOfNums b).size ≤ 100; rw [strOfNums_size]; omega, c2, d2⟩
  simp only [if_neg t6]
  by_cases t5 : t = 5
  · obtain ⟨v, i1, g1, e1, a1, b1, _, c1, d1⟩ := spec_l1Below_ev l i h 9 hl hlen h0 h1
    have b1 := b1 (by decide)
    obtain ⟨x, i2, g2, e2, x0, x1, c2, d2⟩ := spec_l2DrawNum_ev l i1 g1 hl hlen c1 d1
    obtain ⟨y, i3, g3, e3, hm, c3, d3⟩ := spec_l1PickInt_ev l i2 g2 [0, (-9223372036854775808), 4607182418800017408, (-4616189618054758400), 9221120237041090560, (-2251799813685248), v, x] hl hlen c2 d2 (by simp)
    simp only [if_pos t5, e1, e2, e3, Option.bind_some]
    simp only [List.mem_cons, List.not_mem_nil, or_false] at hm
    exact ⟨_, _, _, _, Ev.now _, by omega, by omega, z, c3, d3⟩
  simp only [if_neg t5]
  obtain ⟨o, i1, g1, e1, c1, d1⟩ := spec_l1Once_ev l i h 2 hl hlen h0 h1
  simp only [e1, Option.bind_some]
  cases o with
  | true =>
    obtain ⟨v, i2, g2, e2, a2, b2, _, c2, d2⟩ := spec_l1Below_ev l i1 g1 30 hl hlen c1 d1
    simp only [if_true, e2, Option.bind_some]
    exact ⟨_, _, _, _, Ev.now _, (wrap_rng _).1, (wrap_rng _).2, z, c2, d2⟩
  | false =>
    obtain ⟨x, i2, g2, e2, x0, x1, c2, d2⟩ := spec_l2DrawNum_ev l i1 g1 hl hlen c1 d1
    simp only [Bool.false_eq_true, if_false, e2, Option.bind_some]
    exact ⟨_, _, _, _, Ev.now _, x0, x1, z, c2, d2⟩
theorem spec_l6DrawVal_ev (l : List Int) (i h t : Int) (hl : ∀ x ∈ l, (Lit.int .u8 x).wf = true) (hlen : l.length ≤ 1000000000000) (h0 : 0 ≤ i) (h1 : i ≤ l.length) :
    ∃ n s i' h', Ev (fun k => spec_l6DrawVal.f k l i h t) (n, s, i', h') ∧ -9223372036854775808 ≤ n ∧ n < 9223372036854775808 ∧ s.size ≤ 100 ∧ 0 ≤ i' ∧ i' ≤ l.length := by
  obtain ⟨n, s, i1, g1, e1, n0, n1, z, c1, d1⟩ := spec_l6DrawRight_ev l i h t hl hlen h0 h1
  obtain ⟨v, i2, g2, e2, a2, b2, _, c2, d2⟩ := spec_l1Below_ev l i1 g1 25 hl hlen c1 d1
  have pre : ∀ r, Ev (fun k => (if v = 0 then ((spec_l1PickInt.f l i2 g2 (([2, (-1), 2147483648, (-2147483649)] : List Int))).bind fun bt239 => (some (bt239.1, s, bt239.2.1, bt239.2.2))) else (if v = 1 then ((spec_l1Below.f l i2 g2 2).bind fun bt242 => (if 0 ≤ (wrap64 (40 + bt242.1)) then (if (wrap64 (40 + bt242.1) : Int).toNat ≤ 281474976710656 then (some (n, strOfNums (List.replicate (wrap64 (40 + bt242.1) : Int).toNat 0), bt242.2.1, bt242.2.2)) else (none)) else (none))) else (some (n, s, i2, g2))) : Option (Int × ByteArray × Int × Int))) r → Ev (fun k => spec_l6DrawVal.f k l i h t) r := by
    intro r hr
    unfold spec_l6DrawVal.f
    refine Ev.bind e1 ?_
    simp only [e2, Option.bind_some]
    exact hr
  by_cases v0 : v = 0
  · obtain ⟨y, i3, g3, e3, hm, c3, d3⟩ := spec_l1PickInt_ev l i2 g2 [2, (-1), 2147483648, (-2147483649)] hl hlen c2 d2 (by simp)
    simp only [List.mem_cons, List.not_mem_nil, or_false] at hm
    refine ⟨y, s, i3, g3, pre _ ?_, by omega, by omega, z, c3, d3⟩
    simp only [if_pos v0, e3, Option.bind_some]; exact Ev.now _
  by_cases v1 : v = 1
  · obtain ⟨y, i3, g3, e3, a3, b3, _, c3, d3⟩ := spec_l1Below_ev l i2 g2 2 hl hlen c2 d2
    have b3 := b3 (by decide)
    refine ⟨n, strOfNums (List.replicate (40 + y).toNat 0), i3, g3, pre _ ?_, n0, n1, by rw [strOfNums_size]; simp; omega, c3, d3⟩
    simp only [if_neg v0, if_pos v1, e3, Option.bind_some, wrap_id (n := 40 + y) (by omega) (by omega), if_pos (show 0 ≤ 40 + y by omega), if_pos (show (40 + y).toNat ≤ 281474976710656 by omega)]; exact Ev.now _
  · refine ⟨n, s, i2, g2, pre _ ?_, n0, n1, z, c2, d2⟩
    simp only [if_neg v0, if_neg v1]; exact Ev.now _

/-- ValOk. -/
def vok (t n : Int) (s : ByteArray) : Prop := (t = 0 ∧ 0 ≤ n ∧ n ≤ 1 ∧ s.toList = []) ∨ (t = 1 ∧ -2147483648 ≤ n ∧ n ≤ 2147483647 ∧ s.toList = []) ∨ ((t = 2 ∨ t = 5) ∧ s.toList = []) ∨ (t = 6 ∧ n = 0 ∧ s.size ≤ 40)
instance (t n : Int) (s : ByteArray) : Decidable (vok t n s) := by unfold vok; exact inferInstance
theorem nil_beq (l : List UInt8) : (l == ([] : List UInt8)) = decide (l = []) := by cases l <;> rfl
theorem vok_0 (n : Int) (s : ByteArray) : vok 0 n s ↔ (0 ≤ n ∧ n ≤ 1) ∧ s.toList = [] := by unfold vok; simp [and_assoc]
theorem vok_1 (n : Int) (s : ByteArray) : vok 1 n s ↔ (-2147483648 ≤ n ∧ n ≤ 2147483647) ∧ s.toList = [] := by unfold vok; simp [and_assoc]
theorem vok_2 (n : Int) (s : ByteArray) : vok 2 n s ↔ s.toList = [] := by unfold vok; simp
theorem vok_5 (n : Int) (s : ByteArray) : vok 5 n s ↔ s.toList = [] := by unfold vok; simp
theorem vok_6 (n : Int) (s : ByteArray) : vok 6 n s ↔ n = 0 ∧ s.size ≤ 40 := by unfold vok; simp
theorem vok_no (t n : Int) (s : ByteArray) (h : ¬ t = 0 ∧ ¬ t = 1 ∧ ¬ t = 2 ∧ ¬ t = 5 ∧ ¬ t = 6) : ¬ vok t n s := by unfold vok; omega
theorem some_dec {p q : Prop} [Decidable p] [Decidable q] (h : p ↔ q) : some (decide p) = some (decide q) := by congr 1; exact decide_eq_decide.2 h

/-- FloatKey, as the program's bits have it. -/
def fkey (x : Int) : Int := if x < 0 then Go.bits .xor .i64 x 9223372036854775807 else x
/-- ValLess. -/
def vlt (t n : Int) (s : ByteArray) (m : Int) (u : ByteArray) : Bool := decide (vok t n s) && decide (vok t m u) && (if t = 5 then decide (fkey n < fkey m) else if t = 6 then Op.bytesLess s.toList u.toList else decide (n < m))

theorem impl_within_ev (x a b : Int) : impl_within.f x a b = some (decide (a ≤ x ∧ x ≤ b)) := by
  unfold impl_within.f
  by_cases h : x ≥ a
  · rw [if_pos h]; congr 1; simp [show a ≤ x from h]
  · rw [if_neg h]; congr 1; simp [show ¬ a ≤ x from h]

theorem impl_ValOk_ev (t n : Int) (s : ByteArray) : impl_ValOk.f t n s = some (decide (vok t n s)) := by
  unfold impl_ValOk.f impl_isInt32.f
  simp only [impl_within_ev, Option.bind_some, nil_beq]
  by_cases h0 : t = 0
  · subst h0; rw [if_pos rfl]
    by_cases h : 0 ≤ n ∧ n ≤ 1
    · simp only [decide_eq_true h, if_true]; exact some_dec (by rw [vok_0]; exact ⟨fun x => ⟨h, x⟩, fun x => x.2⟩)
    · simp only [decide_eq_false h, Bool.false_eq_true, if_false]; rw [decide_eq_false (by rw [vok_0]; exact fun x => h x.1)]
  rw [if_neg h0]
  by_cases h1 : t = 1
  · subst h1; rw [if_pos rfl]
    by_cases h : -2147483648 ≤ n ∧ n ≤ 2147483647
    · simp only [decide_eq_true h, if_true]; exact some_dec (by rw [vok_1]; exact ⟨fun x => ⟨h, x⟩, fun x => x.2⟩)
    · simp only [decide_eq_false h, Bool.false_eq_true, if_false]; rw [decide_eq_false (by rw [vok_1]; exact fun x => h x.1)]
  rw [if_neg h1]
  by_cases h2 : t = 2
  · subst h2; rw [if_pos rfl]; exact some_dec (vok_2 n s).symm
  rw [if_neg h2]
  by_cases h5 : t = 5
  · subst h5; rw [if_pos rfl]; exact some_dec (vok_5 n s).symm
  rw [if_neg h5]
  by_cases h6 : t = 6
  · subst h6; rw [if_pos rfl]
    by_cases h : n = 0
    · rw [if_pos h]; exact some_dec (by rw [vok_6]; exact ⟨fun x => ⟨h, by omega⟩, fun x => by omega⟩)
    · rw [if_neg h, decide_eq_false (by rw [vok_6]; exact fun x => h x.1)]
  · rw [if_neg h6, decide_eq_false (vok_no t n s ⟨h0, h1, h2, h5, h6⟩)]

theorem impl_FloatKey_ev (x : Int) : impl_FloatKey.f x = some (fkey x) := by unfold impl_FloatKey.f fkey; split <;> rfl
theorem impl_ValLess_ev (t n : Int) (s : ByteArray) (m : Int) (u : ByteArray) : Ev (fun k => impl_ValLess.f k t n s m u) (vlt t n s m u) := by
  unfold impl_ValLess.f vlt
  simp only [impl_ValOk_ev, Option.bind_some]
  have bad : Ev (fun k => impl_ValLess.j0 k t true n s m u) false := Ev.step (f := fun _ => some false) (fun k => by simp only [impl_ValLess.j0]; rw [if_pos trivial]) (Ev.now _)
  by_cases h1 : vok t n s
  · simp only [decide_eq_true h1, if_true, Bool.true_and]
    by_cases h2 : vok t m u
    · simp only [decide_eq_true h2, Bool.not_true, Bool.true_and]
      refine Ev.step (f := fun _ => some (if t = 5 then decide (fkey n < fkey m) else if t = 6 then Op.bytesLess s.toList u.toList else decide (n < m))) (fun k => ?_) (Ev.now _)
      simp only [impl_ValLess.j0, impl_FloatKey_ev, Option.bind_some]
      rw [if_neg (by simp)]
      by_cases h5 : t = 5
      · rw [if_pos h5, if_pos h5]
      · rw [if_neg h5, if_neg h5]
        by_cases h6 : t = 6
        · rw [if_pos h6, if_pos h6]
        · rw [if_neg h6, if_neg h6]
    · simp only [decide_eq_false h2, Bool.not_false, Bool.false_and]; exact bad
  · simp only [decide_eq_false h1, Bool.false_eq_true, if_false, Bool.false_and]; exact bad

theorem spec_l1In_ev (x a b : Int) : spec_l1In.f x a b = some (decide (a ≤ x ∧ x ≤ b)) := by
  unfold spec_l1In.f
  by_cases h : x ≥ a
  · rw [if_pos h]; congr 1; simp [show a ≤ x from h]
  · rw [if_neg h]; congr 1; simp [show ¬ a ≤ x from h]

theorem spec_ValOk_ev (t n : Int) (s : ByteArray) : Ev (fun k => spec_ValOk.f k t n s) (decide (vok t n s)) := by
  unfold spec_ValOk.f spec_l4Int.f
  simp only [spec_l1In_ev, Option.bind_some, nil_beq]
  by_cases h0 : t = 0
  · subst h0; simp only [if_true]
    by_cases h : 0 ≤ n ∧ n ≤ 1
    · simp only [decide_eq_true h, if_true]; rw [some_dec (q := vok 0 n s) (by rw [vok_0]; exact ⟨fun x => ⟨h, x⟩, fun x => x.2⟩)]; exact Ev.now _
    · simp only [decide_eq_false h, Bool.false_eq_true, if_false]; rw [decide_eq_false (by rw [vok_0]; exact fun x => h x.1)]; exact Ev.now _
  simp only [if_neg h0]
  by_cases h1 : t = 1
  · subst h1; simp only [if_true]
    by_cases h : -2147483648 ≤ n ∧ n ≤ 2147483647
    · simp only [decide_eq_true h, if_true]; rw [some_dec (q := vok 1 n s) (by rw [vok_1]; exact ⟨fun x => ⟨h, x⟩, fun x => x.2⟩)]; exact Ev.now _
    · simp only [decide_eq_false h, Bool.false_eq_true, if_false]; rw [decide_eq_false (by rw [vok_1]; exact fun x => h x.1)]; exact Ev.now _
  simp only [if_neg h1]
  by_cases h2 : t = 2
  · subst h2; simp only [if_true, beq_self_eq_true]
    refine Ev.step (f := fun _ => some (decide (vok 2 n s))) (fun k => ?_) (Ev.now _)
    simp only [spec_ValOk.j0, nil_beq]; rw [if_pos trivial]; exact some_dec (vok_2 n s).symm
  simp only [if_neg h2]
  refine Ev.step (f := fun _ => some (decide (vok t n s))) (fun k => ?_) (Ev.now _)
  simp only [spec_ValOk.j0, nil_beq]
  by_cases h5 : t = 5
  · subst h5; rw [if_pos (by decide)]; exact some_dec (vok_5 n s).symm
  rw [if_neg (by simpa using h5)]
  by_cases h6 : t = 6
  · subst h6; rw [if_pos rfl]
    by_cases h : n = 0
    · rw [if_pos h]; exact some_dec (by rw [vok_6]; exact ⟨fun x => ⟨h, by omega⟩, fun x => by omega⟩)
    · rw [if_neg h, decide_eq_false (by rw [vok_6]; exact fun x => h x.1)]
  · rw [if_neg h6, decide_eq_false (vok_no t n s ⟨h0, h1, h2, h5, h6⟩)]

theorem spec_FloatKey_ev (x : Int) : spec_FloatKey.f x = some (fkey x) := by unfold spec_FloatKey.f fkey; split <;> rfl
theorem bt_get (s : ByteArray) (i : Nat) (h : i < s.size) : ∃ (c : UInt8), s.toList.drop i = c :: s.toList.drop (i + 1) ∧ bt s i = (c.toNat : Int) := by
  have hl : s.toList.length = s.size := by rw [ByteArray.toList_eq]; rfl
  refine ⟨s.toList[i]'(by omega), List.drop_eq_getElem_cons (by omega), ?_⟩
  unfold bt
  rw [dif_pos (by simpa using h)]
  have e : ∀ (l : List UInt8) (hq : i < l.length), l = s.data.toList → l[i] = s.data.toList[i]'(by simpa using h) := by intro l hq e; subst e; rfl
  rw [e s.toList (by omega) (ByteArray.toList_eq s)]
  rfl
theorem spec_ValLess_l (n : Int) (s : ByteArray) (m : Int) (u : ByteArray) (hs : s.size ≤ 1000000) (hu : u.size ≤ 1000000) :
    ∀ (d i : Nat), s.size - i = d → i ≤ s.size → i ≤ u.size → Ev (fun k => spec_ValLess.l0 k i n s m u) (Op.bytesLess (s.toList.drop i) (u.toList.drop i)) := by
  intro d
  have hls : s.toList.length = s.size := by rw [ByteArray.toList_eq]; rfl
  have hlu : u.toList.length = u.size := by rw [ByteArray.toList_eq]; rfl
  induction d with
  | zero =>
    intro i hd h1 h2
    have e : i = s.size := by omega
    refine Ev.step (f := fun k => spec_ValLess.j2 k i false n s m u) (fun k => ?_) ?_
    · simp only [spec_ValLess.l0]; rw [if_neg (by omega)]
    · refine Ev.step (f := fun _ => some (Op.bytesLess (s.toList.drop i) (u.toList.drop i))) (fun k => ?_) (Ev.now _)
      simp only [spec_ValLess.j2]; rw [if_neg (by simp)]
      rw [List.drop_eq_nil_of_le (by omega : s.toList.length ≤ i)]
      by_cases h : s.size < u.size
      · obtain ⟨c, hc, _⟩ := bt_get u i (by omega)
        rw [decide_eq_true (by omega), hc]; rfl
      · rw [decide_eq_false (by omega), List.drop_eq_nil_of_le (by omega : u.toList.length ≤ i)]; rfl
  | succ d ih =>
    intro i hd h1 h2
    refine Ev.step (f := fun k => spec_ValLess.j2 k i (decide ((i : Int) < u.size)) n s m u) (fun k => ?_) ?_
    · simp only [spec_ValLess.l0]; rw [if_pos (by omega)]
    obtain ⟨c, hc, bc⟩ := bt_get s i (by omega)
    by_cases h : i < u.size
    · obtain ⟨c', hc', bc'⟩ := bt_get u i h
      rw [decide_eq_true (by omega), hc, hc']
      have hne : (c == c') = decide ((c.toNat : Int) = c'.toNat) := by
        by_cases h : c = c'
        · subst h; simp
        · have h' : ¬ ((c.toNat : Int) = c'.toNat) := fun e => h (UInt8.toNat_inj.1 (by omega))
          rw [decide_eq_false h']; simpa using h
      have hlt : decide (c < c') = decide ((c.toNat : Int) < c'.toNat) := by
        apply decide_eq_decide.2
        rw [UInt8.lt_iff_toNat_lt]; omega
      by_cases he : bt s i = bt u i
      · refine Ev.step (f := fun k => spec_ValLess.l0 k ((i + 1 : Nat) : Int) n s m u) (fun k => ?_) ?_
        · simp only [spec_ValLess.j2]
          rw [if_pos trivial, if_pos (by omega), if_pos (by omega), if_pos (by omega), if_pos he, wrap_id (by omega) (by omega)]; push_cast; rfl
        · have hx : (c.toNat : Int) = c'.toNat := by rw [← bc, ← bc', he]
          have e2 : Op.bytesLess (c :: s.toList.drop (i + 1)) (c' :: u.toList.drop (i + 1)) = Op.bytesLess (s.toList.drop (i + 1)) (u.toList.drop (i + 1)) := by
            simp only [Op.bytesLess]; rw [hlt, hne, decide_eq_false (by omega), decide_eq_true hx]; simp
          rw [e2]; exact ih (i + 1) (by omega) (by omega) (by omega)
      · refine Ev.step (f := fun _ => some (Op.bytesLess (c :: s.toList.drop (i + 1)) (c' :: u.toList.drop (i + 1)))) (fun k => ?_) (Ev.now _)
        simp only [spec_ValLess.j2]
        rw [if_pos trivial, if_pos (by omega), if_pos (by omega), if_pos (by omega), if_neg he]
        have hx : ¬ (c.toNat : Int) = c'.toNat := by rw [← bc, ← bc']; exact he
        simp only [Op.bytesLess]; rw [hlt, hne, decide_eq_false hx, bc, bc']; simp
    · rw [decide_eq_false (by omega), hc, List.drop_eq_nil_of_le (by omega : u.toList.length ≤ i)]
      refine Ev.step (f := fun _ => some (Op.bytesLess (c :: s.toList.drop (i + 1)) [])) (fun k => ?_) (Ev.now _)
      simp only [spec_ValLess.j2]; rw [if_neg (by simp), decide_eq_false (by omega)]; rfl
theorem spec_ValLess_ev (t n : Int) (s : ByteArray) (m : Int) (u : ByteArray) : Ev (fun k => spec_ValLess.f k t n s m u) (vlt t n s m u) := by
  unfold spec_ValLess.f vlt
  refine Ev.bind (spec_ValOk_ev t n s) ?_
  have bad : Ev (fun k => spec_ValLess.j0 k t true n s m u) false := Ev.step (f := fun _ => some false) (fun k => by simp only [spec_ValLess.j0]; rw [if_pos trivial]) (Ev.now _)
  by_cases h1 : vok t n s
  · simp only [decide_eq_true h1, if_true, Bool.true_and]
    refine Ev.bind (spec_ValOk_ev t m u) ?_
    by_cases h2 : vok t m u
    · simp only [decide_eq_true h2, Bool.not_true, Bool.true_and]
      by_cases h5 : t = 5
      · rw [if_pos h5]
        refine Ev.step (f := fun _ => some (decide (fkey n < fkey m))) (fun k => ?_) (Ev.now _)
        simp only [spec_ValLess.j0, spec_FloatKey_ev, Option.bind_some]
        rw [if_neg (by simp), if_pos h5]
      · rw [if_neg h5]
        by_cases h6 : t = 6
        · rw [if_pos h6]
          subst h6
          have hs := (vok_6 n s).1 h1
          have hu := (vok_6 m u).1 h2
          refine Ev.step (f := fun k => spec_ValLess.l0 k 0 n s m u) (fun k => ?_) ?_
          · simp only [spec_ValLess.j0]; rw [if_neg (by simp), if_neg (by decide), if_pos trivial]
          · have h := spec_ValLess_l n s m u (by omega) (by omega) s.size 0 (by omega) (by omega) (by omega)
            simpa using h
        · rw [if_neg h6]
          refine Ev.step (f := fun _ => some (decide (n < m))) (fun k => ?_) (Ev.now _)
          simp only [spec_ValLess.j0]; rw [if_neg (by simp), if_neg h5, if_neg h6]
    · simp only [decide_eq_false h2, Bool.not_false, Bool.false_and]; exact bad
  · simp only [decide_eq_false h1, Bool.false_eq_true, if_false, Bool.false_and]; exact bad

theorem fkey_eq (x : Int) (h0 : -9223372036854775808 ≤ x) (h1 : x < 9223372036854775808) : fkey x = if x < 0 then -9223372036854775809 - x else x := by
  unfold fkey
  by_cases hx : x < 0
  · rw [if_pos hx, if_pos hx]
    have e1 : BitVec.ofInt 64 9223372036854775807 = BitVec.allOnes 64 ^^^ BitVec.ofInt 64 (-9223372036854775808) := by decide
    rw [xor64, e1, ← BitVec.xor_assoc, BitVec.xor_allOnes]
    have e2 : ~~~ BitVec.ofInt 64 x = BitVec.ofInt 64 (-1 - x) := by
      apply BitVec.eq_of_toNat_eq; rw [BitVec.toNat_not]; simp only [BitVec.toNat_ofInt]; omega
    rw [e2]
    have e3 : BitVec.ofInt 64 (-1 - x) ^^^ BitVec.ofInt 64 (-9223372036854775808) = BitVec.ofInt 64 (-9223372036854775809 - x) := by
      apply BitVec.eq_of_toNat_eq
      rw [BitVec.toNat_xor]; simp only [BitVec.toNat_ofInt]
      rw [show ((-9223372036854775808 : Int) % (2 ^ 64 : Nat)).toNat = 2 ^ 63 by decide]
      have hlt : ((-1 - x) % ((2 ^ 64 : Nat) : Int)).toNat < 2 ^ 63 := by omega
      have hx := Nat.two_pow_add_eq_or_of_lt hlt 1
      have hz : ((-1 - x) % ((2 ^ 64 : Nat) : Int)).toNat ^^^ 2 ^ 63 = 2 ^ 63 * 1 + ((-1 - x) % ((2 ^ 64 : Nat) : Int)).toNat := by
        rw [hx]; apply Nat.eq_of_testBit_eq; intro i
        rw [Nat.testBit_xor, Nat.testBit_or, Nat.mul_one]
        by_cases hi : i = 63
        · subst hi; rw [Nat.testBit_lt_two_pow hlt]; simp
        · rw [Nat.testBit_two_pow_of_ne (by omega)]; simp
      rw [hz]; omega
    rw [e3, toInt_ofInt, wrap_id (by omega) (by omega)]
  · rw [if_neg hx, if_neg hx]
theorem bl_irr : ∀ x : List UInt8, Op.bytesLess x x = false := by
  intro x
  induction x with
  | nil => rfl
  | cons a x ih =>
    have : ¬ a < a := by rw [UInt8.lt_iff_toNat_lt]; omega
    simp [Op.bytesLess, ih, this]
theorem bl_tri : ∀ x y : List UInt8, x ≠ y → Op.bytesLess x y = !Op.bytesLess y x := by
  intro x
  induction x with
  | nil =>
    intro y h
    cases y with
    | nil => exact absurd rfl h
    | cons b y => rfl
  | cons a x ih =>
    intro y h
    cases y with
    | nil => rfl
    | cons b y =>
      simp only [Op.bytesLess]
      by_cases hab : a = b
      · subst hab
        have : ¬ a < a := by rw [UInt8.lt_iff_toNat_lt]; omega
        simp only [this, decide_false, Bool.false_or, beq_self_eq_true, Bool.true_and]
        exact ih y (fun e => h (by rw [e]))
      · have hba : ¬ b = a := fun e => hab e.symm
        have hn : a.toNat ≠ b.toNat := fun e => hab (UInt8.toNat_inj.1 e)
        have e1 : (a == b) = false := by simpa using hab
        have e2 : (b == a) = false := by simpa using hba
        rw [e1, e2]
        simp only [Bool.false_and, Bool.or_false]
        by_cases hl : a < b
        · have : ¬ b < a := by rw [UInt8.lt_iff_toNat_lt] at hl ⊢; omega
          simp [hl, this]
        · have : b < a := by rw [UInt8.lt_iff_toNat_lt] at hl ⊢; omega
          simp [hl, this]
theorem bl_trans : ∀ x y z : List UInt8, Op.bytesLess x y = true → Op.bytesLess y z = true → Op.bytesLess x z = true := by
  intro x
  induction x with
  | nil =>
    intro y z h1 h2
    cases z with
    | nil => cases y <;> simp [Op.bytesLess] at h2
    | cons c z => rfl
  | cons a x ih =>
    intro y z h1 h2
    cases y with
    | nil => simp [Op.bytesLess] at h1
    | cons b y =>
      cases z with
      | nil => simp [Op.bytesLess] at h2
      | cons c z =>
        simp only [Op.bytesLess, Bool.or_eq_true, decide_eq_true_eq, Bool.and_eq_true, beq_iff_eq] at h1 h2 ⊢
        rcases h1 with h1 | ⟨rfl, h1⟩
        · rcases h2 with h2 | ⟨rfl, h2⟩
          · left; rw [UInt8.lt_iff_toNat_lt] at *; omega
          · left; exact h1
        · rcases h2 with h2 | ⟨rfl, h2⟩
          · left; exact h2
          · right; exact ⟨rfl, ih y z h1 h2⟩
/-- Of two values just one is ahead, or they are alike. -/
theorem vlt_tri (t n : Int) (s : ByteArray) (m : Int) (u : ByteArray) (n0 : -9223372036854775808 ≤ n) (n1 : n < 9223372036854775808) (m0 : -9223372036854775808 ≤ m) (m1 : m < 9223372036854775808)
    (h1 : vok t n s) (h2 : vok t m u) : (vlt t n s m u = true ∧ vlt t m u n s = false ∧ (n == m && (s.toList == u.toList)) = false) ∨ (vlt t n s m u = false ∧ vlt t m u n s = true ∧ (n == m && (s.toList == u.toList)) = false) ∨ (vlt t n s m u = false ∧ vlt t m u n s = false ∧ (n == m && (s.toList == u.toList)) = true) := by
  have e1 : ∀ x, vlt t n s m u = x ↔ (if t = 5 then decide (fkey n < fkey m) else if t = 6 then Op.bytesLess s.toList u.toList else decide (n < m)) = x := by intro x; unfold vlt; rw [decide_eq_true h1, decide_eq_true h2]; simp
  have e2 : ∀ x, vlt t m u n s = x ↔ (if t = 5 then decide (fkey m < fkey n) else if t = 6 then Op.bytesLess u.toList s.toList else decide (m < n)) = x := by intro x; unfold vlt; rw [decide_eq_true h1, decide_eq_true h2]; simp
  simp only [e1, e2]
  by_cases h6 : t = 6
  · subst h6
    obtain ⟨rfl, _⟩ := (vok_6 n s).1 h1
    obtain ⟨rfl, _⟩ := (vok_6 m u).1 h2
    simp only [show ¬ (6 : Int) = 5 by decide, if_false, if_true, beq_self_eq_true, Bool.true_and]
    by_cases he : s.toList = u.toList
    · rw [he, bl_irr]; simp
    · have hq : (s.toList == u.toList) = false := by simpa using he
      have := bl_tri _ _ he
      rw [hq, this]
      cases Op.bytesLess u.toList s.toList <;> simp
  · have hs : s.toList = [] := by
      rcases h1 with h | h | h | h
      · exact h.2.2.2
      · exact h.2.2.2
      · exact h.2
      · exact absurd h.1 h6
    have hu : u.toList = [] := by
      rcases h2 with h | h | h | h
      · exact h.2.2.2
      · exact h.2.2.2
      · exact h.2
      · exact absurd h.1 h6
    rw [hs, hu]
    simp only [if_neg h6, beq_self_eq_true, Bool.and_true]
    by_cases h5 : t = 5
    · simp only [if_pos h5, fkey_eq n n0 n1, fkey_eq m m0 m1]
      by_cases hn : n < 0 <;> by_cases hm : m < 0 <;> simp only [if_pos, if_neg, hn, hm, if_true, if_false, decide_eq_true_eq, decide_eq_false_iff_not, beq_eq_false_iff_ne, beq_iff_eq] <;> omega
    · simp only [if_neg h5, decide_eq_true_eq, decide_eq_false_iff_not, beq_eq_false_iff_ne, beq_iff_eq]; omega
theorem vlt_trans (t n : Int) (s : ByteArray) (m : Int) (u : ByteArray) (p : Int) (v : ByteArray) (h3 : vok t p v) (h : vlt t n s m u = true) (h' : vlt t m u p v = true) : vlt t n s p v = true := by
  unfold vlt at h h' ⊢
  simp only [Bool.and_eq_true, decide_eq_true_eq] at h h' ⊢
  refine ⟨⟨h.1.1, h3⟩, ?_⟩
  have a := h.2
  have b := h'.2
  by_cases h5 : t = 5
  · rw [if_pos h5] at a b ⊢; simp only [decide_eq_true_eq] at a b ⊢; omega
  · rw [if_neg h5] at a b ⊢
    by_cases h6 : t = 6
    · rw [if_pos h6] at a b ⊢; exact bl_trans _ _ _ a b
    · rw [if_neg h6] at a b ⊢; simp only [decide_eq_true_eq] at a b ⊢; omega
theorem FnOrder : laws_FnOrder.Pure := by
  intro l hlen hsz hl
  refine Ev.rounds (g := fun k => laws_FnOrder.f k l) ?_
  unfold laws_FnOrder.f
  simp only [laws_big_ev, Option.bind_some]
  by_cases hbig : (l.length : Int) > 1048576
  · simp only [decide_eq_true hbig, if_true]; exact Ev.now _
  simp only [decide_eq_false hbig, Bool.false_eq_true, if_false]
  obtain ⟨g0, e0⟩ := spec_l1New_ev l (by omega)
  obtain ⟨t, i1, g1, e1, t0, t1, c1, d1⟩ := spec_l6DrawType_ev l 0 g0 hl (by omega) (by omega) (by omega)
  obtain ⟨n, s, i2, g2, e2, n0, n1, zs, c2, d2⟩ := spec_l6DrawVal_ev l i1 g1 t hl (by omega) c1 d1
  obtain ⟨m, u, i3, g3, e3, m0, m1, zu, c3, d3⟩ := spec_l6DrawVal_ev l i2 g2 t hl (by omega) c2 d2
  have ed : Ev (fun k => spec_DrawValLess.f k l) (t, n, s, m, u) := by
    unfold spec_DrawValLess.f
    refine Ev.bind e0 ?_
    simp only [e1, Option.bind_some]
    refine Ev.bind e2 ?_
    refine Ev.bind e3 ?_
    exact Ev.now _
  have eo : Ev (fun k => spec_DrawValOk.f k l) (t, n, s) := by
    unfold spec_DrawValOk.f
    refine Ev.bind e0 ?_
    simp only [e1, Option.bind_some]
    refine Ev.bind e2 ?_
    exact Ev.now _
  refine Ev.bind ed ?_
  refine Ev.bind (impl_ValLess_ev t n s m u) ?_
  refine Ev.bind (impl_ValLess_ev t m u n s) ?_
  refine Ev.bind (spec_ValLess_ev t n s m u) ?_
  simp only [bne_self_eq_false, Bool.false_eq_true, if_false]
  refine Ev.bind (spec_ValOk_ev t n s) ?_
  have no : ¬ (vok t n s ∧ vok t m u) → Ev (fun k => laws_FnOrder.j0 k l t (vlt t n s m u) (vlt t m u n s) true n s m u) true := by
    intro h
    have a : vlt t n s m u = false := by
      unfold vlt
      by_cases h1 : vok t n s
      · rw [decide_eq_true h1, decide_eq_false (fun h2 => h ⟨h1, h2⟩)]; rfl
      · rw [decide_eq_false h1]; rfl
    have b : vlt t m u n s = false := by
      unfold vlt
      by_cases h1 : vok t n s
      · rw [decide_eq_false (fun h2 => h ⟨h1, h2⟩)]; rfl
      · rw [decide_eq_false h1, Bool.and_false]; rfl
    rw [a, b]
    refine Ev.step (f := fun _ => some true) (fun k => ?_) (Ev.now _)
    simp only [laws_FnOrder.j0]; rw [if_pos trivial, if_neg (by simp)]; rfl
  by_cases h1 : vok t n s
  · simp only [decide_eq_true h1, if_true]
    refine Ev.bind (spec_ValOk_ev t m u) ?_
    by_cases h2 : vok t m u
    · simp only [decide_eq_true h2, Bool.not_true]
      have tri := vlt_tri t n s m u n0 n1 m0 m1 h1 h2
      have hsame : impl_ValSame.f n s m u = some (n == m && (s.toList == u.toList)) := rfl
      refine Ev.step (fun k => by simp only [laws_FnOrder.j0]; rw [if_neg (by simp)]) ?_
      refine Ev.bind eo ?_
      refine Ev.bind (spec_ValOk_ev t n s) ?_
      simp only [decide_eq_true h1, if_true, hsame, Option.bind_some]
      rcases tri with ⟨a, b, c⟩ | ⟨a, b, c⟩ | ⟨a, b, c⟩
      · simp only [a, b, c, if_true]
        refine Ev.bind (impl_ValLess_ev t m u n s) ?_
        simp only [b, Bool.false_eq_true, if_false]
        exact Ev.now _
      · simp only [a, b, c, Bool.false_eq_true, if_false]
        exact Ev.now _
      · simp only [a, b, c, Bool.false_eq_true, if_false]
        exact Ev.now _
    · simp only [decide_eq_false h2, Bool.not_false]; exact no (fun h => h2 h.2)
  · simp only [decide_eq_false h1, Bool.false_eq_true, if_false]; exact no (fun h => h1 h.1)

end Go.Proofs.Ytbiibjbhgeenoaa.Pure
