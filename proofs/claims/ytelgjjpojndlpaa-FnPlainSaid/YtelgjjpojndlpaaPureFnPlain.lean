/- The law FnPlain answers true for every code. -/
import Derived.Test.YtelgjjpojndlpaaPFnPlainx10
import Derived.Test.YtelgjjpojndlpaaCom
namespace Go.Proofs.Ytelgjjpojndlpaa.Pure
open Go Go.RowKit Go.Proofs.Ytelgjjpojndlpaa.PFnPlain Go.Proofs.YtelgjjpojndlpaaW.PrintWords Go.Proofs.YtelgjjpojndlpaaW.PrintLast Go.Proofs.YtelgjjpojndlpaaW.PrintMore Go.Proofs.Ytelgjjpojndlpaa.Com
set_option linter.unusedVariables false
set_option linter.unusedSimpArgs false

theorem spec_l1Byte_ev (l : List Int) (i h : Int) (hl : ∀ x ∈ l, (Lit.int .u8 x).wf = true) (hlen : l.length ≤ 1000000000000) (h0 : 0 ≤ i) (h1 : i ≤ l.length) :
  ∃ v i' h', spec_l1Byte.f l i h = some (v, i', h') ∧ 0 ≤ v ∧ v < 256 ∧ 0 ≤ i' ∧ i' ≤ l.length := by
 have m : ∀ x, Go.bits .and .i64 x 255 = x % 256 := fun x => and_mask x 8 (by decide)
 unfold spec_l1Byte.f
 by_cases hi : i < l.length
 ·rw [if_pos hi, if_pos h0, m, m, wrap_id (n := i + 1) (by omega) (by omega)]
  exact ⟨_, _, _, rfl, by omega, by omega, by omega, by omega⟩
 ·rw [if_neg hi, m]
  exact ⟨_, _, _, rfl, by omega, by omega, by omega, by omega⟩
theorem spec_l1Below_ev (l : List Int) (i h n : Int) (hl : ∀ x ∈ l, (Lit.int .u8 x).wf = true) (hlen : l.length ≤ 1000000000000) (h0 : 0 ≤ i) (h1 : i ≤ l.length) :
  ∃ v i' h', spec_l1Below.f l i h n = some (v, i', h') ∧ 0 ≤ v ∧ (0 < n → v < n) ∧ (n ≤ 0 → v = 0) ∧ 0 ≤ i' ∧ i' ≤ l.length := by
 unfold spec_l1Below.f
 by_cases hn : n ≤ 0
 ·rw [if_pos hn]; exact ⟨_, _, _, rfl, by omega, by omega, by omega, h0, h1⟩
 ·rw [if_neg hn]
  obtain ⟨v, i1, h2, e, a, b, c, d⟩ := spec_l1Byte_ev l i h hl hlen h0 h1
  by_cases hb : n ≤ 256
  ·rw [if_pos hb]
   simp only [e, Option.bind_some]
   rw [if_neg (by omega)]
   refine ⟨_, _, _, rfl, ?_⟩
   rw [Int.tmod_eq_emod_of_nonneg a]
   exact ⟨Int.emod_nonneg _ (by omega), fun _ => Int.emod_lt_of_pos _ (by omega), by omega, c, d⟩
  ·rw [if_neg hb]
   obtain ⟨v2, i2, h3, e2, a2, b2, c2, d2⟩ := spec_l1Byte_ev l i1 h2 hl hlen c d
   obtain ⟨v3, i3, h4, e3, a3, b3, c3, d3⟩ := spec_l1Byte_ev l i2 h3 hl hlen c2 d2
   obtain ⟨v4, i4, h5, e4, a4, b4, c4, d4⟩ := spec_l1Byte_ev l i3 h4 hl hlen c3 d3
   simp only [e, e2, e3, e4, Option.bind_some]
   rw [if_neg (by omega), wrap_id (n := v * 16777216) (by omega) (by omega), wrap_id (n := v2 * 65536) (by omega) (by omega), wrap_id (n := v3 * 256) (by omega) (by omega), wrap_id (n := v * 16777216 + v2 * 65536) (by omega) (by omega), wrap_id (n := v * 16777216 + v2 * 65536 + v3 * 256) (by omega) (by omega), wrap_id (by omega) (by omega)]
   refine ⟨_, _, _, rfl, ?_⟩
   rw [Int.tmod_eq_emod_of_nonneg (by omega)]
   exact ⟨Int.emod_nonneg _ (by omega), fun _ => Int.emod_lt_of_pos _ (by omega), by omega, c4, d4⟩
theorem spec_l1New_ev (l : List Int) (hlen : l.length ≤ 1000000000000) : ∃ h, Ev (fun k => spec_l1New.f k l) (l, 0, h) := by
 have key : ∀ (d : Nat) (i x : Int), 0 ≤ i → i ≤ l.length → (l.length : Int) - i = d → ∃ h, Ev (fun k => spec_l1New.l0 k l x i) (l, 0, h) := by
  intro d
  induction d with
  | zero =>
   intro i x h0 h1 hd
   refine ⟨x, Ev.step (f := fun _ => some (l, 0, x)) (fun k => ?_) (Ev.now _)⟩
   simp only [spec_l1New.l0]; rw [if_neg (by omega)]
  | succ d ih =>
   intro i x h0 h1 hd
   by_cases h4 : i < 4000
   ·obtain ⟨h, e⟩ := ih (i + 1) (Go.bits .and .i64 (wrap64 ((wrap64 ((wrap64 (x * 131)) + (wrap64 (rd l i)))) + 7)) 1073741823) (by omega) (by omega) (by omega)
    refine ⟨h, Ev.step (fun k => ?_) e⟩
    simp only [spec_l1New.l0]; rw [if_pos (by omega), if_pos h4, if_pos h0, wrap_id (n := i + 1) (by omega) (by omega)]
   ·refine ⟨x, Ev.step (f := fun _ => some (l, 0, x)) (fun k => ?_) (Ev.now _)⟩
    simp only [spec_l1New.l0]; rw [if_pos (by omega), if_neg h4]
 obtain ⟨h, e⟩ := key l.length 0 (wrap64 (11443 + (l.length : Int))) (by omega) (by omega) (by omega)
 exact ⟨h, e⟩
theorem laws_big_ev (l : List Int) : laws_big.f l = some (decide ((l.length : Int) > 1048576)) := rfl

theorem spec_l1PickInt_ev (l : List Int) (i h : Int) (p : List Int) (hl : ∀ x ∈ l, (Lit.int .u8 x).wf = true) (hlen : l.length ≤ 1000000000000) (h0 : 0 ≤ i) (h1 : i ≤ l.length) (hp : 0 < p.length) :
  ∃ v i' h', spec_l1PickInt.f l i h p = some (v, i', h') ∧ v ∈ p ∧ 0 ≤ i' ∧ i' ≤ l.length := by
 unfold spec_l1PickInt.f
 obtain ⟨v, i1, h2, e, a, b, _, c, d⟩ := spec_l1Below_ev l i h p.length hl hlen h0 h1
 have b := b (by omega)
 simp only [e, Option.bind_some]
 rw [if_pos a, if_pos b]
 refine ⟨_, _, _, rfl, ?_, c, d⟩
 rw [rd_eq' _ _ a (by omega)]; exact List.getElem_mem _

theorem spec_l1Once_ev (l : List Int) (i h n : Int) (hl : ∀ x ∈ l, (Lit.int .u8 x).wf = true) (hlen : l.length ≤ 1000000000000) (h0 : 0 ≤ i) (h1 : i ≤ l.length) :
  ∃ v i' h', spec_l1Once.f l i h n = some (v, i', h') ∧ 0 ≤ i' ∧ i' ≤ l.length := by
 unfold spec_l1Once.f
 obtain ⟨v, i1, g1, e, _, _, _, c, d⟩ := spec_l1Below_ev l i h n hl hlen h0 h1
 simp only [e, Option.bind_some]
 exact ⟨_, _, _, rfl, c, d⟩

theorem spec_l2DrawNum_ev (l : List Int) (i h : Int) (hl : ∀ x ∈ l, (Lit.int .u8 x).wf = true) (hlen : l.length ≤ 1000000000000) (h0 : 0 ≤ i) (h1 : i ≤ l.length) :
  ∃ v i' h', spec_l2DrawNum.f l i h = some (v, i', h') ∧ -9223372036854775808 ≤ v ∧ v < 9223372036854775808 ∧ 0 ≤ i' ∧ i' ≤ l.length := by
 unfold spec_l2DrawNum.f
 obtain ⟨v, i1, g1, e, a, b, _, c, d⟩ := spec_l1Below_ev l i h 1000000 hl hlen h0 h1
 obtain ⟨v2, i2, g2, e2, a2, b2, _, c2, d2⟩ := spec_l1Below_ev l i1 g1 1000000 hl hlen c d
 obtain ⟨v3, i3, g3, e3, a3, b3, _, c3, d3⟩ := spec_l1Below_ev l i2 g2 300 hl hlen c2 d2
 have b := b (by decide)
 have b2 := b2 (by decide)
 have b3 := b3 (by decide)
 simp only [e, e2, e3, Option.bind_some]
 rw [wrap_id (n := -v2) (by omega) (by omega)]
 obtain ⟨w, i4, g4, e4, hm, c4, d4⟩ := spec_l1PickInt_ev l i3 g3 [0, 1, (-1), 63, 64, (-64), (-65), 127, 128, 16383, 16384, 2147483647, (-2147483648), 9223372036854775807, (-9223372036854775808), 4611686018427387904, v, -v2, v3] hl hlen c3 d3 (by simp)
 simp only [e4, Option.bind_some]
 refine ⟨_, _, _, rfl, ?_, ?_, c4, d4⟩
 ·simp only [List.mem_cons, List.not_mem_nil, or_false] at hm; omega
 ·simp only [List.mem_cons, List.not_mem_nil, or_false] at hm; omega

theorem byte_wf {x : Int} (h0 : 0 ≤ x) (h1 : x < 256) : (Lit.int .u8 x).wf = true := by simp [Lit.wf, IntKind.min, IntKind.max, IntKind.bits, IntKind.signed]; omega

theorem spec_l1DrawBytes_ev (l : List Int) (i h n : Int) (hl : ∀ x ∈ l, (Lit.int .u8 x).wf = true) (hlen : l.length ≤ 1000000000000) (h0 : 0 ≤ i) (h1 : i ≤ l.length) (hn : 0 ≤ n) (hn1 : n ≤ 1000000) :
  ∃ b i' h', Ev (fun k => spec_l1DrawBytes.f k l i h n) (b, i', h') ∧ (∀ x ∈ b, (Lit.int .u8 x).wf = true) ∧ (b.length : Int) ≤ n ∧ 0 ≤ i' ∧ i' ≤ l.length := by
 obtain ⟨m, i1, g1, e, a, b, _, c, d⟩ := spec_l1Below_ev l i h (n + 1) hl hlen h0 h1
 have b := b (by omega)
 have key : ∀ (d : Nat) (j : Int) (acc : List Int) (i h : Int), 0 ≤ j → j + d = m → (acc.length : Int) = j → (∀ x ∈ acc, (Lit.int .u8 x).wf = true) → 0 ≤ i → i ≤ l.length →
   ∃ b i' h', Ev (fun k => spec_l1DrawBytes.l0 k acc m j l i h) (b, i', h') ∧ (∀ x ∈ b, (Lit.int .u8 x).wf = true) ∧ (b.length : Int) = m ∧ 0 ≤ i' ∧ i' ≤ l.length := by
  intro d
  induction d with
  | zero =>
   intro j acc i h hj hd hacc hwf hi0 hi1
   refine ⟨acc, i, h, Ev.step (f := fun _ => some (acc, i, h)) (fun k => ?_) (Ev.now _), hwf, by omega, hi0, hi1⟩
   simp only [spec_l1DrawBytes.l0]; rw [if_neg (by omega)]
  | succ d ih =>
   intro j acc i h hj hd hacc hwf hi0 hi1
   obtain ⟨v, i2, g2, e2, a2, b2, c2, d2⟩ := spec_l1Byte_ev l i h hl hlen hi0 hi1
   obtain ⟨bs, i3, g3, e3, w3, l3, c3, d3⟩ := ih (j + 1) (acc ++ [v % 256]) i2 g2 (by omega) (by omega) (by simp; omega) (by
    intro x hx
    rcases List.mem_append.1 hx with hx | hx
    ·exact hwf x hx
    ·rw [List.mem_singleton] at hx; subst hx; exact byte_wf (by omega) (by omega)) c2 d2
   refine ⟨bs, i3, g3, Ev.step (fun k => ?_) e3, w3, l3, c3, d3⟩
   simp only [spec_l1DrawBytes.l0]
   rw [if_pos (by omega), e2]
   simp only [Option.bind_some]
   rw [if_pos (by omega), wrap_id (n := j + 1) (by omega) (by omega)]
 obtain ⟨bs, i3, g3, e3, w3, l3, c3, d3⟩ := key m.toNat 0 [] i1 g1 (by omega) (by omega) (by simp) (by simp) c d
 refine ⟨bs, i3, g3, ?_, w3, by omega, c3, d3⟩
 unfold spec_l1DrawBytes.f
 rw [wrap_id (n := n + 1) (by omega) (by omega)]
 simp only [e, Option.bind_some]
 exact e3

theorem spec_l6DrawType_ev (l : List Int) (i h : Int) (hl : ∀ x ∈ l, (Lit.int .u8 x).wf = true) (hlen : l.length ≤ 1000000000000) (h0 : 0 ≤ i) (h1 : i ≤ l.length) :
  ∃ v i' h', spec_l6DrawType.f l i h = some (v, i', h') ∧ -1 ≤ v ∧ v ≤ 7 ∧ 0 ≤ i' ∧ i' ≤ l.length := by
 unfold spec_l6DrawType.f
 obtain ⟨o, i1, g1, e1, c1, d1⟩ := spec_l1Once_ev l i h 25 hl hlen h0 h1
 simp only [e1, Option.bind_some]
 cases o with
 | true =>
  obtain ⟨v, i2, g2, e2, hm, c2, d2⟩ := spec_l1PickInt_ev l i1 g1 [3, 4, 7, (-1)] hl hlen c1 d1 (by simp)
  simp only [if_true, e2, Option.bind_some]
  simp only [List.mem_cons, List.not_mem_nil, or_false] at hm
  exact ⟨_, _, _, rfl, by omega, by omega, c2, d2⟩
 | false =>
  obtain ⟨v, i2, g2, e2, hm, c2, d2⟩ := spec_l1PickInt_ev l i1 g1 [0, 1, 2, 5, 6] hl hlen c1 d1 (by simp)
  simp only [Bool.false_eq_true, if_false, e2, Option.bind_some]
  simp only [List.mem_cons, List.not_mem_nil, or_false] at hm
  exact ⟨_, _, _, rfl, by omega, by omega, c2, d2⟩
theorem spec_l1Pick_ev (l : List Int) (i h : Int) (p : List ByteArray) (hl : ∀ x ∈ l, (Lit.int .u8 x).wf = true) (hlen : l.length ≤ 1000000000000) (h0 : 0 ≤ i) (h1 : i ≤ l.length) (hp : 0 < p.length) (hs : ∀ s ∈ p, s.size ≤ 100) :
  ∃ v i' h', spec_l1Pick.f l i h p = some (v, i', h') ∧ v.size ≤ 100 ∧ 0 ≤ i' ∧ i' ≤ l.length := by
 unfold spec_l1Pick.f
 obtain ⟨v, i1, h2, e, a, b, _, c, d⟩ := spec_l1Below_ev l i h p.length hl hlen h0 h1
 have b := b (by omega)
 simp only [e, Option.bind_some]
 rw [if_pos a, if_pos b]
 refine ⟨_, _, _, rfl, ?_, c, d⟩
 unfold rdOf
 have hv : v.toNat < p.length := by omega
 simp only [List.getD_eq_getElem?_getD, List.getElem?_eq_getElem hv, Option.getD_some]
 exact hs _ (List.getElem_mem hv)
theorem spec_l6DrawRight_ev (l : List Int) (i h t : Int) (hl : ∀ x ∈ l, (Lit.int .u8 x).wf = true) (hlen : l.length ≤ 1000000000000) (h0 : 0 ≤ i) (h1 : i ≤ l.length) :
  ∃ n s i' h', Ev (fun k => spec_l6DrawRight.f k l i h t) (n, s, i', h') ∧ -9223372036854775808 ≤ n ∧ n < 9223372036854775808 ∧ s.size ≤ 100 ∧ 0 ≤ i' ∧ i' ≤ l.length := by
 unfold spec_l6DrawRight.f
 have z : (⟨#[]⟩ : ByteArray).size ≤ 100 := by decide
 by_cases t0 : t = 0
 ·obtain ⟨v, i1, g1, e1, a1, b1, _, c1, d1⟩ := spec_l1Below_ev l i h 2 hl hlen h0 h1
  have b1 := b1 (by decide)
  simp only [if_pos t0, e1, Option.bind_some]
  exact ⟨_, _, _, _, Ev.now _, by omega, by omega, z, c1, d1⟩
 simp only [if_neg t0]
 by_cases t1 : t = 1
 ·obtain ⟨o, i1, g1, e1, c1, d1⟩ := spec_l1Once_ev l i h 6 hl hlen h0 h1
  simp only [if_pos t1, e1, Option.bind_some]
  cases o with
  | true =>
   obtain ⟨v, i2, g2, e2, hm, c2, d2⟩ := spec_l1PickInt_ev l i1 g1 [2147483647, (-2147483648), 0] hl hlen c1 d1 (by simp)
   simp only [if_true, e2, Option.bind_some]
   simp only [List.mem_cons, List.not_mem_nil, or_false] at hm
   exact ⟨_, _, _, _, Ev.now _, by omega, by omega, z, c2, d2⟩
  | false =>
   obtain ⟨v, i2, g2, e2, a2, b2, _, c2, d2⟩ := spec_l1Below_ev l i1 g1 40 hl hlen c1 d1
   simp only [Bool.false_eq_true, if_false, e2, Option.bind_some]
   exact ⟨_, _, _, _, Ev.now _, (wrap_rng _).1, (wrap_rng _).2, z, c2, d2⟩
 simp only [if_neg t1]
 by_cases t6 : t = 6
 ·obtain ⟨o, i1, g1, e1, c1, d1⟩ := spec_l1Once_ev l i h 3 hl hlen h0 h1
  simp only [if_pos t6, e1, Option.bind_some]
  cases o with
  | true =>
   obtain ⟨v, i2, g2, e2, hm, c2, d2⟩ := spec_l1Pick_ev l i1 g1 [(⟨#[]⟩ : ByteArray), (⟨#[97]⟩ : ByteArray), (⟨#[97, 98]⟩ : ByteArray), (⟨#[97, 98, 99]⟩ : ByteArray), (⟨#[97, 98, 100]⟩ : ByteArray), (⟨#[98]⟩ : ByteArray), (⟨#[97, 97]⟩ : ByteArray)] hl hlen c1 d1 (by simp) (by
    intro s hs
    simp only [List.mem_cons, List.not_mem_nil, or_false] at hs
    rcases hs with rfl | rfl | rfl | rfl | rfl | rfl | rfl <;> decide)
   simp only [if_true, e2, Option.bind_some]
   exact ⟨_, _, _, _, Ev.now _, by omega, by omega, hm, c2, d2⟩
  | false =>
   obtain ⟨b, i2, g2, e2, wb, lb, c2, d2⟩ := spec_l1DrawBytes_ev l i1 g1 6 hl hlen c1 d1 (by decide) (by decide)
   simp only [Bool.false_eq_true, if_false]
   have e3 : Ev (fun k => spec_l4DrawText.f k l i1 g1 6) (strOfNums b, i2, g2) := by
    unfold spec_l4DrawText.f
    refine Ev.bind e2 ?_
    exact Ev.now _
   exact ⟨_, _, _, _, Ev.bind e3 (Ev.now _), by omega, by omega, by show (strOfNums b).size ≤ 100; rw [strOfNums_size]; omega, c2, d2⟩
 simp only [if_neg t6]
 by_cases t5 : t = 5
 ·obtain ⟨v, i1, g1, e1, a1, b1, _, c1, d1⟩ := spec_l1Below_ev l i h 9 hl hlen h0 h1
  have b1 := b1 (by decide)
  obtain ⟨x, i2, g2, e2, x0, x1, c2, d2⟩ := spec_l2DrawNum_ev l i1 g1 hl hlen c1 d1
  obtain ⟨y, i3, g3, e3, hm, c3, d3⟩ := spec_l1PickInt_ev l i2 g2 [0, (-9223372036854775808), 4607182418800017408, (-4616189618054758400), 9221120237041090560, (-2251799813685248), v, x] hl hlen c2 d2 (by simp)
  simp only [if_pos t5, e1, e2, e3, Option.bind_some]
  simp only [List.mem_cons, List.not_mem_nil, or_false] at hm
  exact ⟨_, _, _, _, Ev.now _, by omega, by omega, z, c3, d3⟩
 simp only [if_neg t5]
 obtain ⟨o, i1, g1, e1, c1, d1⟩ := spec_l1Once_ev l i h 2 hl hlen h0 h1
 simp only [e1, Option.bind_some]
 cases o with
 | true =>
  obtain ⟨v, i2, g2, e2, a2, b2, _, c2, d2⟩ := spec_l1Below_ev l i1 g1 30 hl hlen c1 d1
  simp only [if_true, e2, Option.bind_some]
  exact ⟨_, _, _, _, Ev.now _, (wrap_rng _).1, (wrap_rng _).2, z, c2, d2⟩
 | false =>
  obtain ⟨x, i2, g2, e2, x0, x1, c2, d2⟩ := spec_l2DrawNum_ev l i1 g1 hl hlen c1 d1
  simp only [Bool.false_eq_true, if_false, e2, Option.bind_some]
  exact ⟨_, _, _, _, Ev.now _, x0, x1, z, c2, d2⟩
theorem spec_l6DrawVal_ev (l : List Int) (i h t : Int) (hl : ∀ x ∈ l, (Lit.int .u8 x).wf = true) (hlen : l.length ≤ 1000000000000) (h0 : 0 ≤ i) (h1 : i ≤ l.length) :
  ∃ n s i' h', Ev (fun k => spec_l6DrawVal.f k l i h t) (n, s, i', h') ∧ -9223372036854775808 ≤ n ∧ n < 9223372036854775808 ∧ s.size ≤ 100 ∧ 0 ≤ i' ∧ i' ≤ l.length := by
 obtain ⟨n, s, i1, g1, e1, n0, n1, z, c1, d1⟩ := spec_l6DrawRight_ev l i h t hl hlen h0 h1
 obtain ⟨v, i2, g2, e2, a2, b2, _, c2, d2⟩ := spec_l1Below_ev l i1 g1 25 hl hlen c1 d1
 have pre : ∀ r, Ev (fun k => (if v = 0 then ((spec_l1PickInt.f l i2 g2 (([2, (-1), 2147483648, (-2147483649)] : List Int))).bind fun bt239 => (some (bt239.1, s, bt239.2.1, bt239.2.2))) else (if v = 1 then ((spec_l1Below.f l i2 g2 2).bind fun bt242 => (if 0 ≤ (wrap64 (40 + bt242.1)) then (if (wrap64 (40 + bt242.1) : Int).toNat ≤ 281474976710656 then (some (n, strOfNums (List.replicate (wrap64 (40 + bt242.1) : Int).toNat 0), bt242.2.1, bt242.2.2)) else (none)) else (none))) else (some (n, s, i2, g2))) : Option (Int × ByteArray × Int × Int))) r → Ev (fun k => spec_l6DrawVal.f k l i h t) r := by
  intro r hr
  unfold spec_l6DrawVal.f
  refine Ev.bind e1 ?_
  simp only [e2, Option.bind_some]
  exact hr
 by_cases v0 : v = 0
 ·obtain ⟨y, i3, g3, e3, hm, c3, d3⟩ := spec_l1PickInt_ev l i2 g2 [2, (-1), 2147483648, (-2147483649)] hl hlen c2 d2 (by simp)
  simp only [List.mem_cons, List.not_mem_nil, or_false] at hm
  refine ⟨y, s, i3, g3, pre _ ?_, by omega, by omega, z, c3, d3⟩
  simp only [if_pos v0, e3, Option.bind_some]; exact Ev.now _
 by_cases v1 : v = 1
 ·obtain ⟨y, i3, g3, e3, a3, b3, _, c3, d3⟩ := spec_l1Below_ev l i2 g2 2 hl hlen c2 d2
  have b3 := b3 (by decide)
  refine ⟨n, strOfNums (List.replicate (40 + y).toNat 0), i3, g3, pre _ ?_, n0, n1, by rw [strOfNums_size]; simp; omega, c3, d3⟩
  simp only [if_neg v0, if_pos v1, e3, Option.bind_some, wrap_id (n := 40 + y) (by omega) (by omega), if_pos (show 0 ≤ 40 + y by omega), if_pos (show (40 + y).toNat ≤ 281474976710656 by omega)]; exact Ev.now _
 ·refine ⟨n, s, i2, g2, pre _ ?_, n0, n1, z, c2, d2⟩
  simp only [if_neg v0, if_neg v1]; exact Ev.now _

theorem ev_if {α : Type} {c : Prop} [Decidable c] {g f : Nat → Option α} {R : α} (hc : c) (h : Ev g R) : Ev (fun k => if c then g k else f k) R := by
 simp only [if_pos hc]; exact h

theorem ev_succ' {α : Type} {g : Nat → Option α} {r : α} (h : Ev (fun k => g (k + 1)) r) : Ev g r := Ev.step (fun _ => rfl) h

theorem spec_l6DrawList_ev (l : List Int) (i h t m : Int) (hl : ∀ x ∈ l, (Lit.int .u8 x).wf = true) (hlen : l.length ≤ 1000000000000) (h0 : 0 ≤ i) (h1 : i ≤ l.length) (hm0 : 0 ≤ m) (hm1 : m ≤ 1000) :
  ∃ r i' h', Ev (fun k => spec_l6DrawList.f k l i h t m) (r, i', h') ∧ r.length ≤ 3000 ∧ (∀ v ∈ r, -9223372036854775808 ≤ v.f0 ∧ v.f0 < 9223372036854775808) ∧ 0 ≤ i' ∧ i' ≤ l.length := by
 obtain ⟨n, i1, g1, e1, n0, n1, _, c1, d1⟩ := spec_l1Below_ev l i h (m + 1) hl hlen h0 h1
 have n1 := n1 (by omega)
 have key : ∀ (d : Nat) (j : Int) (x : List S41) (i h : Int), n - j = d → 0 ≤ j → j ≤ x.length → x.length ≤ j → (∀ v ∈ x, -9223372036854775808 ≤ v.f0 ∧ v.f0 < 9223372036854775808) → 0 ≤ i → i ≤ l.length →
   ∃ r i' h', Ev (fun k => spec_l6DrawList.l0 k t x n j l i h) (r, i', h') ∧ r.length ≤ 3000 ∧ (∀ v ∈ r, -9223372036854775808 ≤ v.f0 ∧ v.f0 < 9223372036854775808) ∧ 0 ≤ i' ∧ i' ≤ l.length := by
  intro d
  induction d with
  | zero =>
   intro j x i h hd hj0 hjx hxj hw h0 h1
   obtain ⟨o, i2, g2, e2, c2, d2⟩ := spec_l1Once_ev l i h 20 hl hlen h0 h1
   cases o with
   | true =>
    obtain ⟨z, s, i3, g3, e3, z0, z1, _, c3, d3⟩ := spec_l6DrawVal_ev l i2 g2 t hl hlen c2 d2
    refine ⟨x ++ [⟨z, s⟩], i3, g3, ev_succ' ?_, by simp; omega, ?_, c3, d3⟩
    ·simp only [spec_l6DrawList.l0, if_neg (show ¬ j < n by omega)]
     simp only [e2, Option.bind_some, if_true]
     refine Ev.bind e3 ?_
     simp only [if_pos (show x.length < 5864062014805 by omega)]; exact Ev.now _
    ·intro v hv
     rcases List.mem_append.1 hv with hv | hv
     ·exact hw v hv
     ·rw [List.mem_singleton] at hv; subst hv; exact ⟨z0, z1⟩
   | false =>
    refine ⟨x, i2, g2, ev_succ' ?_, by omega, hw, c2, d2⟩
    simp only [spec_l6DrawList.l0, if_neg (show ¬ j < n by omega)]
    simp only [e2, Option.bind_some, Bool.false_eq_true, if_false]; exact Ev.now _
  | succ d ih =>
   intro j x i h hd hj0 hjx hxj hw h0 h1
   have draw : ∀ i h : Int, 0 ≤ i → i ≤ l.length → ∃ r i' h', Ev (fun k => spec_l6DrawList.j1 k t x n j false l i h) (r, i', h') ∧ r.length ≤ 3000 ∧ (∀ v ∈ r, -9223372036854775808 ≤ v.f0 ∧ v.f0 < 9223372036854775808) ∧ 0 ≤ i' ∧ i' ≤ l.length := by
    intro i h h0 h1
    obtain ⟨z, s, i3, g3, e3, z0, z1, _, c3, d3⟩ := spec_l6DrawRight_ev l i h t hl hlen h0 h1
    obtain ⟨r, i4, g4, e4, r1, r2, r3, r4⟩ := ih (j + 1) (x ++ [⟨z, s⟩]) i3 g3 (by omega) (by omega) (by simp; omega) (by simp; omega) (fun v hv => by
     rcases List.mem_append.1 hv with hv | hv
     ·exact hw v hv
     ·rw [List.mem_singleton] at hv; subst hv; exact ⟨z0, z1⟩) c3 d3
    refine ⟨r, i4, g4, ev_succ' ?_, r1, r2, r3, r4⟩
    simp only [spec_l6DrawList.j1, Bool.false_eq_true, if_false]
    refine Ev.bind e3 ?_
    simp only [if_pos (show x.length < 5864062014805 by omega)]
    rw [wrap_id (n := j + 1) (by omega) (by omega)]
    exact e4
   by_cases hj : j > 0
   ·obtain ⟨o, i2, g2, e2, c2, d2⟩ := spec_l1Once_ev l i h 3 hl hlen h0 h1
    cases o with
    | true =>
     obtain ⟨z, i3, g3, e3, z0, z1, _, c3, d3⟩ := spec_l1Below_ev l i2 g2 j hl hlen c2 d2
     have z1 := z1 (by omega)
     have hmem : rd_T41 x z ∈ x := by
      unfold rd_T41
      rw [List.getD_eq_getElem?_getD, List.getElem?_eq_getElem (by omega)]; exact List.getElem_mem _
     obtain ⟨r, i4, g4, e4, r1, r2, r3, r4⟩ := ih (j + 1) (x ++ [⟨(rd_T41 x z).f0, (rd_T41 x z).f1⟩]) i3 g3 (by omega) (by omega) (by simp; omega) (by simp; omega) (fun v hv => by
      rcases List.mem_append.1 hv with hv | hv
      ·exact hw v hv
      ·rw [List.mem_singleton] at hv; subst hv; exact hw _ hmem) c3 d3
     refine ⟨r, i4, g4, ev_succ' ?_, r1, r2, r3, r4⟩
     simp only [spec_l6DrawList.l0, if_pos (show j < n by omega), if_pos hj]
     simp only [e2, Option.bind_some]
     refine ev_succ' ?_
     simp only [spec_l6DrawList.j1, if_true]
     simp only [e3, Option.bind_some, if_pos z0, if_pos (show z < (x.length : Int) by omega), if_pos (show x.length < 5864062014805 by omega)]
     rw [wrap_id (n := j + 1) (by omega) (by omega)]
     exact e4
    | false =>
     obtain ⟨r, i4, g4, e4, r1, r2, r3, r4⟩ := draw i2 g2 c2 d2
     refine ⟨r, i4, g4, ev_succ' ?_, r1, r2, r3, r4⟩
     simp only [spec_l6DrawList.l0, if_pos (show j < n by omega), if_pos hj]
     simp only [e2, Option.bind_some]; exact e4
   ·obtain ⟨r, i4, g4, e4, r1, r2, r3, r4⟩ := draw i h h0 h1
    refine ⟨r, i4, g4, ev_succ' ?_, r1, r2, r3, r4⟩
    simp only [spec_l6DrawList.l0, if_pos (show j < n by omega), if_neg hj]; exact e4
 obtain ⟨r, i4, g4, e4, r1, r2, r3, r4⟩ := key n.toNat 0 [] i1 g1 (by omega) (by omega) (by simp) (by simp) (fun v hv => by cases hv) c1 d1
 refine ⟨r, i4, g4, ?_, r1, r2, r3, r4⟩
 unfold spec_l6DrawList.f
 rw [wrap_id (n := m + 1) (by omega) (by omega), e1]
 simp only [Option.bind_some]
 exact e4
theorem spec_DrawPlainPack_ev (l : List Int) (hl : ∀ x ∈ l, (Lit.int .u8 x).wf = true) (hlen : l.length ≤ 1000000000000) :
  ∃ t r, Ev (fun k => spec_DrawPlainPack.f k l) (t, r) ∧ r.length ≤ 3000 ∧ (∀ v ∈ r, -9223372036854775808 ≤ v.f0 ∧ v.f0 < 9223372036854775808) := by
 obtain ⟨g0, e0⟩ := spec_l1New_ev l hlen
 obtain ⟨t, i1, g1, e1, _, _, c1, d1⟩ := spec_l6DrawType_ev l 0 g0 hl hlen (by omega) (by omega)
 obtain ⟨o, i2, g2, e2, c2, d2⟩ := spec_l1Once_ev l i1 g1 40 hl hlen c1 d1
 cases o with
 | true =>
  obtain ⟨z, i3, g3, e3, z0, z1, _, c3, d3⟩ := spec_l1Below_ev l i2 g2 2 hl hlen c2 d2
  have z1 := z1 (by decide)
  refine ⟨t, List.replicate (2000 + z).toNat z41, ?_, by simp; omega, ?_⟩
  ·unfold spec_DrawPlainPack.f
   refine Ev.bind e0 ?_
   simp only [e1, Option.bind_some]
   simp only [e2, Option.bind_some, if_true]
   simp only [e3, Option.bind_some]
   rw [wrap_id (n := 2000 + z) (by omega) (by omega)]
   simp only [if_pos (show (0 : Int) ≤ 2000 + z by omega), if_pos (show (2000 + z).toNat ≤ 11728124029610 by omega)]; exact Ev.now _
  ·intro v hv
   rw [List.mem_replicate] at hv
   rw [hv.2]; exact ⟨by decide, by decide⟩
 | false =>
  obtain ⟨r, i3, g3, e3, r1, r2, _, _⟩ := spec_l6DrawList_ev l i2 g2 t 14 hl hlen c2 d2 (by decide) (by decide)
  refine ⟨t, r, ?_, r1, r2⟩
  unfold spec_DrawPlainPack.f
  refine Ev.bind e0 ?_
  simp only [e1, Option.bind_some]
  simp only [e2, Option.bind_some, Bool.false_eq_true, if_false]
  refine Ev.bind e3 ?_
  exact Ev.now _

def vok (t n : Int) (s : ByteArray) : Prop := (t = 0 ∧ 0 ≤ n ∧ n ≤ 1 ∧ s.toList = []) ∨ (t = 1 ∧ -2147483648 ≤ n ∧ n ≤ 2147483647 ∧ s.toList = []) ∨ ((t = 2 ∨ t = 5) ∧ s.toList = []) ∨ (t = 6 ∧ n = 0 ∧ s.size ≤ 40)
instance (t n : Int) (s : ByteArray) : Decidable (vok t n s) := by unfold vok; exact inferInstance
theorem nil_beq (l : List UInt8) : (l == ([] : List UInt8)) = decide (l = []) := by cases l <;> rfl
theorem vok_0 (n : Int) (s : ByteArray) : vok 0 n s ↔ (0 ≤ n ∧ n ≤ 1) ∧ s.toList = [] := by unfold vok; simp [and_assoc]
theorem vok_1 (n : Int) (s : ByteArray) : vok 1 n s ↔ (-2147483648 ≤ n ∧ n ≤ 2147483647) ∧ s.toList = [] := by unfold vok; simp [and_assoc]
theorem vok_2 (n : Int) (s : ByteArray) : vok 2 n s ↔ s.toList = [] := by unfold vok; simp
theorem vok_5 (n : Int) (s : ByteArray) : vok 5 n s ↔ s.toList = [] := by unfold vok; simp
theorem vok_6 (n : Int) (s : ByteArray) : vok 6 n s ↔ n = 0 ∧ s.size ≤ 40 := by unfold vok; simp
theorem vok_no (t n : Int) (s : ByteArray) (h : ¬ t = 0 ∧ ¬ t = 1 ∧ ¬ t = 2 ∧ ¬ t = 5 ∧ ¬ t = 6) : ¬ vok t n s := by unfold vok; omega
theorem some_dec {p q : Prop} [Decidable p] [Decidable q] (h : p ↔ q) : some (decide p) = some (decide q) := by congr 1; exact decide_eq_decide.2 h

def fits (w : Int) (n : Int) : Prop := 0 ≤ n ∧ (blen n.toNat : Int) ≤ w
instance (w n : Int) : Decidable (fits w n) := by unfold fits; exact inferInstance
def bpk (l : List Int) (w : Int) : List Int × Bool := if l.length ≤ 2000 ∧ 0 ≤ w ∧ w ≤ 62 ∧ ∀ n ∈ l, fits w n then (packB l w.toNat, true) else ([], false)

abbrev PV := S41
def pval (t n : Int) (s : ByteArray) : List Int := if t = 6 then wbytes s.size 4 ++ bytesOf s else if t = 1 then wbytes n 4 else wbytes n 8
def valsP (t : Int) (l : List PV) : Prop := (t = 0 ∨ t = 1 ∨ t = 2 ∨ t = 5 ∨ t = 6) ∧ l.length ≤ 2000 ∧ ∀ v ∈ l, vok t v.f0 v.f1
instance (t : Int) (l : List PV) : Decidable (valsP t l) := by unfold valsP; infer_instance
def numsL (l : List PV) : List Int := l.map fun v => v.f0
def flatV (t : Int) (l : List PV) : List Int := l.flatMap fun v => pval t v.f0 v.f1
def ppk (t : Int) (l : List PV) : List Int × Bool := if valsP t l then (if t = 0 then packB (numsL l) 1 else flatV t l, true) else ([], false)
theorem rd_pv (l : List PV) (i : Nat) (h : i < l.length) : rd_T41 l i = l[i] := by
 unfold rd_T41; simp [h]
theorem bytesOf_len (s : ByteArray) : (bytesOf s).length = s.size := by
 unfold bytesOf; rw [List.length_map, Array.length_toList]; rfl
theorem pval_len (t n : Int) (s : ByteArray) (h : s.size ≤ 40) : (pval t n s).length ≤ 44 := by
 unfold pval
 split
 ·simp [wbytes_len, bytesOf_len]; omega
 ·split <;> simp [wbytes_len]
theorem vok_size (t n : Int) (s : ByteArray) (h : vok t n s) : s.size ≤ 40 := by
 have e : s.toList = [] → s.size = 0 := by
  intro h0
  rw [(Go.toList_nil_iff_emptyBytes s).1 h0]; rfl
 rcases h with h | h | h | h
 ·have := e h.2.2.2; omega
 ·have := e h.2.2.2; omega
 ·have := e h.2; omega
 ·exact h.2.2
theorem flatV_len (t : Int) (l : List PV) (h : ∀ v ∈ l, vok t v.f0 v.f1) : (flatV t l).length ≤ 44 * l.length := by
 induction l with
 | nil => simp [flatV]
 | cons v l ih =>
  have h1 := pval_len t v.f0 v.f1 (vok_size _ _ _ (h v (by simp)))
  have h2 := ih (fun x hx => h x (by simp [hx]))
  unfold flatV at *
  simp only [List.flatMap_cons, List.length_append, List.length_cons]; omega
theorem flatV_snoc (t : Int) (l : List PV) (v : PV) : flatV t (l ++ [v]) = flatV t l ++ pval t v.f0 v.f1 := by simp [flatV]
theorem numsL_snoc (l : List PV) (v : PV) : numsL (l ++ [v]) = numsL l ++ [v.f0] := by simp [numsL]
theorem ppk_len (t : Int) (l : List PV) : (ppk t l).1.length ≤ 100000 := by
 unfold ppk
 by_cases h : valsP t l
 ·rw [if_pos h]
  by_cases h0 : t = 0
  ·simp only [if_pos h0, packB_len, numsL, List.length_map]; have := h.2.1; omega
  ·simp only [if_neg h0]; have := flatV_len t l h.2.2; have := h.2.1; omega
 ·rw [if_neg h]; simp
theorem bpk_bool (l : List PV) (h : valsP 0 l) : bpk (numsL l) 1 = (packB (numsL l) 1, true) := by
 unfold bpk
 rw [if_pos]
 ·rfl
 ·refine ⟨by simp [numsL]; exact h.2.1, by decide, by decide, fun n hn => ?_⟩
  simp only [numsL, List.mem_map] at hn
  obtain ⟨v, hv, rfl⟩ := hn
  have := ((vok_0 _ _).1 (h.2.2 v hv)).1
  refine ⟨this.1, ?_⟩
  have : blen v.f0.toNat ≤ 1 := (blen_le _ _).2 (by omega)
  omega
theorem numsL_wf (l : List PV) (h : valsP 0 l) : ∀ x ∈ numsL l, (Lit.int .i64 x).wf = true := by
 intro x hx
 simp only [numsL, List.mem_map] at hx
 obtain ⟨v, hv, rfl⟩ := hx
 have := ((vok_0 _ _).1 (h.2.2 v hv)).1
 exact wf64_mk (by omega) (by omega)

theorem impl_within_ev (x a b : Int) : impl_within.f x a b = some (decide (a ≤ x ∧ x ≤ b)) := by
 unfold impl_within.f
 by_cases h : x ≥ a
 ·rw [if_pos h]; congr 1; simp [show a ≤ x from h]
 ·rw [if_neg h]; congr 1; simp [show ¬ a ≤ x from h]

theorem impl_ValOk_ev (t n : Int) (s : ByteArray) : impl_ValOk.f t n s = some (decide (vok t n s)) := by
 unfold impl_ValOk.f impl_isInt32.f
 simp only [impl_within_ev, Option.bind_some, nil_beq]
 by_cases h0 : t = 0
 ·subst h0; rw [if_pos rfl]
  by_cases h : 0 ≤ n ∧ n ≤ 1
  ·simp only [decide_eq_true h, if_true]; exact some_dec (by rw [vok_0]; exact ⟨fun x => ⟨h, x⟩, fun x => x.2⟩)
  ·simp only [decide_eq_false h, Bool.false_eq_true, if_false]; rw [decide_eq_false (by rw [vok_0]; exact fun x => h x.1)]
 rw [if_neg h0]
 by_cases h1 : t = 1
 ·subst h1; rw [if_pos rfl]
  by_cases h : -2147483648 ≤ n ∧ n ≤ 2147483647
  ·simp only [decide_eq_true h, if_true]; exact some_dec (by rw [vok_1]; exact ⟨fun x => ⟨h, x⟩, fun x => x.2⟩)
  ·simp only [decide_eq_false h, Bool.false_eq_true, if_false]; rw [decide_eq_false (by rw [vok_1]; exact fun x => h x.1)]
 rw [if_neg h1]
 by_cases h2 : t = 2
 ·subst h2; rw [if_pos rfl]; exact some_dec (vok_2 n s).symm
 rw [if_neg h2]
 by_cases h5 : t = 5
 ·subst h5; rw [if_pos rfl]; exact some_dec (vok_5 n s).symm
 rw [if_neg h5]
 by_cases h6 : t = 6
 ·subst h6; rw [if_pos rfl]
  by_cases h : n = 0
  ·rw [if_pos h]; exact some_dec (by rw [vok_6]; exact ⟨fun x => ⟨h, by omega⟩, fun x => by omega⟩)
  ·rw [if_neg h, decide_eq_false (by rw [vok_6]; exact fun x => h x.1)]
 ·rw [if_neg h6, decide_eq_false (vok_no t n s ⟨h0, h1, h2, h5, h6⟩)]

theorem impl_TypeOk_ev (t : Int) : impl_TypeOk.f t = some (decide (t = 0 ∨ t = 1 ∨ t = 2 ∨ t = 5 ∨ t = 6)) := by
 unfold impl_TypeOk.f
 simp only [impl_within_ev, Option.bind_some]
 by_cases h : 0 ≤ t ∧ t ≤ 2
 ·simp only [decide_eq_true h, if_true]; rw [decide_eq_true (by omega)]
 ·simp only [decide_eq_false h, Bool.false_eq_true, if_false]
  by_cases h5 : t = 5
  ·rw [if_pos h5, decide_eq_true (by omega)]
  ·rw [if_neg h5]; congr 1
   by_cases h6 : t = 6
   ·subst h6; rfl
   ·rw [decide_eq_false (by omega)]; simpa using h6

theorem impl_WordPut_ev (x : Int) (n : Int) (h : n < 9223372036854775808) : Ev (fun k => impl_WordPut.f k x n) (if 1 ≤ n ∧ n ≤ 8 then wbytes x n.toNat else []) := by
 unfold impl_WordPut.f
 simp only [impl_within_ev, Option.bind_some]
 by_cases hn : 1 ≤ n ∧ n ≤ 8
 ·have key : ∀ (d : Nat) (i : Nat), (i : Int) + d = n → Ev (fun k => impl_WordPut.l0 k x (wbytes x i) n i) (wbytes x n.toNat) := by
   intro d
   induction d with
   | zero =>
    intro i hd
    refine Ev.step (f := fun _ => some (wbytes x n.toNat)) (fun k => ?_) (Ev.now _)
    simp only [impl_WordPut.l0]; rw [if_neg (by omega), show n.toNat = i by omega]
   | succ d ih =>
    intro i hd
    refine Ev.step (f := fun k => impl_WordPut.l0 k x (wbytes x (i + 1)) n (i + 1 : Nat)) (fun k => ?_) (ih (i + 1) (by omega))
    simp only [impl_WordPut.l0]
    rw [if_pos (by omega), wrap_id (n := 8 * (i : Int)) (by omega) (by omega), if_pos (by omega), if_pos (by rw [wbytes_len]; omega), wrap_id (by omega) (by omega), shr64 _ _ (by omega) (by omega), wbytes_succ, show (8 * (i : Int)).toNat = 8 * i by omega]
    push_cast; rfl
  have h := key n.toNat 0 (by omega)
  rw [if_pos hn]
  simp only [decide_eq_true hn, if_true]
  simpa [wbytes] using h
 ·rw [if_neg hn]
  simp only [decide_eq_false hn, Bool.false_eq_true, if_false]; exact Ev.now _

theorem impl_packed_ev (l : List Int) (w : Nat) (hw : w ≤ 64) (hlen : l.length ≤ 1000000000) :
  Ev (fun k => impl_packed.f k l w) (packB l w) := by
 have hmul : l.length * w ≤ 64000000000 := by
  calc l.length * w ≤ 1000000000 * 64 := Nat.mul_le_mul hlen hw
   _ = 64000000000 := by decide
 have hmulc : ((l.length * w : Nat) : Int) = (l.length : Int) * w := by push_cast; rfl
 have inner : ∀ (d i j : Nat), i < l.length → j + d = w →
   ∀ R : List Int, Ev (fun k => impl_packed.l0 k w (bofB (upTo (pbit l w) ((i + 1) * w)) ((l.length * w + 7) / 8)) l l.length ((i + 1 : Nat) : Int)) R →
   Ev (fun k => impl_packed.l1 k w (bofB (upTo (pbit l w) (i * w + j)) ((l.length * w + 7) / 8)) i (rd l i) l l.length i w j) R := by
  intro d
  induction d with
  | zero =>
   intro i j hi hj R h
   refine Ev.step (fun k => ?_) h
   simp only [impl_packed.l1]
   rw [if_neg (by omega), wrap_id (n := (i : Int) + 1) (by omega) (by omega), show j = w by omega, Nat.succ_mul]
   push_cast; rfl
  | succ d ih =>
   intro i j hi hj R h
   have hP : i * w + j < l.length * w := by
    have : (i + 1) * w ≤ l.length * w := Nat.mul_le_mul_right w hi
    rw [Nat.succ_mul] at this; omega
   have hc : ((i * w : Nat) : Int) = (i : Int) * w := by push_cast; rfl
   refine Ev.step (fun k => ?_) (ih i (j + 1) hi (by omega) R h)
   simp only [impl_packed.l1]
   rw [if_pos (by omega), ← hc, wrap_id (n := ((i * w : Nat) : Int)) (by omega) (by omega), wrap_id (n := ((i * w : Nat) : Int) + j) (by omega) (by omega)]
   rw [Int.tdiv_eq_ediv_of_nonneg (by omega), Int.tmod_eq_emod_of_nonneg (by omega), wrap_id (n := (((i * w : Nat) : Int) + j) / 8) (by omega) (by omega)]
   rw [if_pos (by omega), if_pos (by rw [bofB_len]; omega), if_pos (by omega), if_pos (by omega), wrap_id (n := (j : Int) + 1) (by omega) (by omega)]
   have hb : Go.bits .and .i64 (shr .i64 (rd l i) j) 1 = pbit l w (i * w + j) := by
    rw [and_one, shr64 _ _ (by omega) (by omega), pbit_at l w i j (by omega)]; rfl
   have hbits := pbit_bits l w (i * w + j)
   rw [hb, show pbit l w (i * w + j) % 256 = pbit l w (i * w + j) by omega, shl8 _ _ (by omega) (by omega) hbits]
   rw [rd_bofB _ _ _ (by omega) (by omega)]
   have hst := byteOf_step (pbit_bits l w) ((i * w + j) / 8) ((i * w + j) % 8) (by omega)
   rw [show 8 * ((i * w + j) / 8) + (i * w + j) % 8 = i * w + j by omega] at hst
   rw [show ((((i * w : Nat) : Int) + j) % 8).toNat = (i * w + j) % 8 by omega, show ((((i * w : Nat) : Int) + j) / 8).toNat = (i * w + j) / 8 by omega]
   rw [or8 _ _ _ (by omega) hst.1 hst.2.1 hbits, ← hst.2.2, bofB_set _ _ _ _ rfl]
   push_cast; rfl
 have outer : ∀ (d i : Nat), i + d = l.length → Ev (fun k => impl_packed.l0 k w (bofB (upTo (pbit l w) (i * w)) ((l.length * w + 7) / 8)) l l.length i) (packB l w) := by
  intro d
  induction d with
  | zero =>
   intro i hi
   refine Ev.step (f := fun _ => some (packB l w)) (fun k => ?_) (Ev.now _)
   simp only [impl_packed.l0]; rw [if_neg (by omega), show i = l.length by omega]; rfl
  | succ d ih =>
   intro i hi
   refine Ev.step (fun k => ?_) (inner w i 0 (by omega) (by omega) _ (ih (i + 1) (by omega)))
   simp only [impl_packed.l0]; rw [if_pos (by omega), if_pos (by omega), if_pos (by omega)]; rfl
 have h := outer l.length 0 (by omega)
 unfold impl_packed.f
 rw [← hmulc, wrap_id (n := ((l.length * w : Nat) : Int)) (by omega) (by omega), wrap_id (n := ((l.length * w : Nat) : Int) + 7) (by omega) (by omega), Int.tdiv_eq_ediv_of_nonneg (by omega), wrap_id (by omega) (by omega)]
 simp only [if_pos (show (0 : Int) ≤ (((l.length * w : Nat) : Int) + 7) / 8 by omega), if_pos (show ((((l.length * w : Nat) : Int) + 7) / 8).toNat ≤ 281474976710656 by omega)]
 rw [show ((((l.length * w : Nat) : Int) + 7) / 8).toNat = (l.length * w + 7) / 8 by omega, bofB_zero (pbit l w)]
 simpa using h

theorem impl_valsOk_ev (t : Int) (l : List PV) (hl : l.length ≤ 1000000000000000) : Ev (fun k => impl_valsOk.f k t l) (decide (valsP t l)) := by
 have key : ∀ (d i : Nat), i + d = l.length → (∀ j, j < i → ∀ h : j < l.length, vok t l[j].f0 l[j].f1) → Ev (fun k => impl_valsOk.l0 k t l l l.length i) (decide (valsP t l)) := by
  intro d
  induction d with
  | zero =>
   intro i hd hv
   have hall : ∀ v ∈ l, vok t v.f0 v.f1 := by
    intro v hm
    obtain ⟨j, hj, rfl⟩ := List.getElem_of_mem hm
    exact hv j (by omega) hj
   refine Ev.step (f := fun _ => some (decide (valsP t l))) (fun k => ?_) (Ev.now _)
   simp only [impl_valsOk.l0]
   rw [if_neg (by omega)]
   by_cases h2 : l.length ≤ 2000
   ·rw [if_pos (by omega), impl_TypeOk_ev]
    simp only [Option.bind_some]
    congr 1
    rw [decide_eq_decide]
    exact ⟨fun h => ⟨h, h2, hall⟩, fun h => h.1⟩
   ·rw [if_neg (by omega), decide_eq_false (fun h => h2 h.2.1)]
  | succ d ih =>
   intro i hd hv
   by_cases hvi : vok t l[i].f0 l[i].f1
   ·refine Ev.step (fun k => ?_) (ih (i + 1) (by omega) (fun j h1 h2 => by
     by_cases hji : j = i
     ·subst hji; exact hvi
     ·exact hv j (by omega) h2))
    simp only [impl_valsOk.l0]
    rw [if_pos (by omega), if_pos (by omega), if_pos (by omega), rd_pv l i (by omega), impl_ValOk_ev, decide_eq_true hvi, wrap_id (n := (i : Int) + 1) (by omega) (by omega)]
    simp only [Option.bind_some, if_true]; push_cast; rfl
   ·rw [decide_eq_false (fun h => hvi (h.2.2 _ (List.getElem_mem (by omega))))]
    refine Ev.step (f := fun _ => some false) (fun k => ?_) (Ev.now _)
    simp only [impl_valsOk.l0]
    rw [if_pos (by omega), if_pos (by omega), if_pos (by omega), rd_pv l i (by omega), impl_ValOk_ev, decide_eq_false hvi]; rfl
 have := key l.length 0 (by omega) (by omega)
 unfold impl_valsOk.f
 simpa using this
theorem impl_numsOf_ev (l : List PV) (hl : l.length ≤ 1000000) : Ev (fun k => impl_numsOf.f k l) (numsL l) := by
 have key : ∀ (d i : Nat), i + d = l.length → Ev (fun k => impl_numsOf.l0 k (numsL (l.take i)) l l.length i) (numsL l) := by
  intro d
  induction d with
  | zero =>
   intro i hd
   refine Ev.step (f := fun _ => some (numsL l)) (fun k => ?_) (Ev.now _)
   simp only [impl_numsOf.l0]
   rw [if_neg (by omega), List.take_of_length_le (by omega)]
  | succ d ih =>
   intro i hd
   have h := ih (i + 1) (by omega)
   rw [List.take_succ_eq_append_getElem (by omega), numsL_snoc] at h
   refine Ev.step (fun k => ?_) h
   simp only [impl_numsOf.l0]
   rw [if_pos (by omega), if_pos (by omega), if_pos (by omega), if_pos (by simp [numsL]; omega), rd_pv l i (by omega), wrap_id (n := (i : Int) + 1) (by omega) (by omega)]; push_cast; rfl
 have := key l.length 0 (by omega)
 unfold impl_numsOf.f
 simpa [numsL] using this
theorem impl_wideOf_ev (t : Int) : impl_wideOf.f t = some (if t = 1 then 4 else if t = 2 ∨ t = 5 then 8 else 0) := by
 unfold impl_wideOf.f
 by_cases h1 : t = 1
 ·rw [if_pos h1, if_pos h1]
 rw [if_neg h1, if_neg h1]
 by_cases h2 : t = 2
 ·rw [if_pos h2, if_pos (Or.inl h2)]
 rw [if_neg h2]
 by_cases h5 : t = 5
 ·rw [if_pos h5, if_pos (Or.inr h5)]
 ·rw [if_neg h5, if_neg (by omega)]
theorem ev_app1 {β : Type} {g : Nat → Option (List Int)} {u acc : List Int} {F : Nat → List Int → Option β} {R : β} {B : Nat} (e : Ev g u) (h1 : acc.length + u.length < B) (h : Ev (fun k => F k (acc ++ u)) R) :
  Ev (fun k => (g k).bind fun t => if acc.length + t.length < B then F k (acc ++ t) else none) R := by
 refine Ev.bind e ?_
 simp only [if_pos h1]; exact h
theorem ev_app2 {β : Type} {g : Nat → Option (List Int)} {u acc q : List Int} {z : Nat} {F : Nat → List Int → Option β} {R : β} {B : Nat} (e : Ev g u) (h1 : acc.length + u.length < B) (h2 : (acc ++ u).length + z < B) (h : Ev (fun k => F k (acc ++ u ++ q)) R) :
  Ev (fun k => (g k).bind fun t => if acc.length + t.length < B then ((some (acc ++ t)).bind fun y => if y.length + z < B then F k (y ++ q) else none) else none) R := by
 refine Ev.bind e ?_
 simp only [if_pos h1, Option.bind_some, if_pos h2]; exact h
theorem impl_PlainPack_ev (t : Int) (l : List PV) (hl : l.length ≤ 1000000000000000) : Ev (fun k => impl_PlainPack.f k t l) (ppk t l) := by
 unfold impl_PlainPack.f ppk
 refine Ev.bind (impl_valsOk_ev t l hl) ?_
 by_cases h : valsP t l
 ·simp only [decide_eq_true h, if_true]
  rw [if_pos h]
  by_cases h0 : t = 0
  ·subst h0
   simp only [if_true]
   refine Ev.bind (impl_numsOf_ev l (by have := h.2.1; omega)) ?_
   refine Ev.bind (impl_packed_ev (numsL l) 1 (by decide) (by simp [numsL]; have := h.2.1; omega)) ?_
   exact Ev.now _
  ·simp only [if_neg h0]
   have hlen := h.2.1
   have key : ∀ (d i : Nat), i + d = l.length → Ev (fun k => impl_PlainPack.l0 k t (flatV t (l.take i)) l l.length i) (flatV t l, true) := by
    intro d
    induction d with
    | zero =>
     intro i hd
     refine Ev.step (f := fun _ => some (flatV t l, true)) (fun k => ?_) (Ev.now _)
     simp only [impl_PlainPack.l0]
     rw [if_neg (by omega), List.take_of_length_le (by omega)]
    | succ d ih =>
     intro i hd
     have hi := ih (i + 1) (by omega)
     have hv := h.2.2 _ (List.getElem_mem (show i < l.length by omega))
     have hz := vok_size _ _ _ hv
     have hpl := pval_len t l[i].f0 l[i].f1 hz
     have hfl := flatV_len t (l.take i) (fun v hm => h.2.2 v (List.mem_of_mem_take hm))
     have hfl2 : (flatV t (l.take i)).length ≤ 88000 := by rw [List.length_take] at hfl; omega
     rw [List.take_succ_eq_append_getElem (by omega), flatV_snoc] at hi
     generalize flatV t (l.take i) = acc at hi hfl2
     refine ev_succ' ?_
     simp only [impl_PlainPack.l0]
     have e1 : wrap64 ((i : Int) + 1) = ((i + 1 : Nat) : Int) := by rw [wrap_id (by omega) (by omega)]; push_cast; rfl
     refine ev_if (show (i : Int) < l.length by omega) ?_
     refine ev_if (show (0 : Int) ≤ i by omega) ?_
     refine ev_if (show (i : Int) < l.length by omega) ?_
     rw [rd_pv l i (by omega), e1]
     by_cases h6 : t = 6
     ·refine ev_if h6 ?_
      have hw := impl_WordPut_ev (l[i].f1.size : Int) 4 (by decide)
      have hw : Ev (fun k => impl_WordPut.f k (l[i].f1.size : Int) 4) (wbytes l[i].f1.size 4) := by simpa using hw
      refine ev_app2 (F := fun k y => impl_PlainPack.l0 k t y l l.length ((i + 1 : Nat) : Int)) hw (by rw [wbytes_len]; omega) (by rw [List.length_append, wbytes_len]; omega) ?_
      rw [show pval t l[i].f0 l[i].f1 = wbytes l[i].f1.size 4 ++ bytesOf l[i].f1 by unfold pval; rw [if_pos h6], ← List.append_assoc] at hi
      exact hi
     ·simp only [if_neg h6, impl_wideOf_ev, Option.bind_some]
      have ht := h.1
      have hw := impl_WordPut_ev l[i].f0 (if t = 1 then 4 else if t = 2 ∨ t = 5 then 8 else 0) (by split; decide; split <;> decide)
      have hp : (if 1 ≤ (if t = 1 then (4 : Int) else if t = 2 ∨ t = 5 then 8 else 0) ∧ (if t = 1 then (4 : Int) else if t = 2 ∨ t = 5 then 8 else 0) ≤ 8 then wbytes l[i].f0 (if t = 1 then (4 : Int) else if t = 2 ∨ t = 5 then 8 else 0).toNat else []) = pval t l[i].f0 l[i].f1 := by
       unfold pval
       rw [if_neg h6]
       by_cases h1 : t = 1
       ·simp [h1]
       ·rw [if_neg h1, if_pos (show t = 2 ∨ t = 5 by omega), if_neg h1]; rfl
      rw [hp] at hw
      exact ev_app1 (F := fun k y => impl_PlainPack.l0 k t y l l.length ((i + 1 : Nat) : Int)) hw (by omega) hi
   have := key l.length 0 (by omega)
   simpa [flatV] using this
 ·simp only [decide_eq_false h, Bool.false_eq_true, if_false]
  rw [if_neg h]; exact Ev.now _

theorem spec_l1In_ev (x a b : Int) : spec_l1In.f x a b = some (decide (a ≤ x ∧ x ≤ b)) := by
 unfold spec_l1In.f
 by_cases h : x ≥ a
 ·rw [if_pos h]; congr 1; simp [show a ≤ x from h]
 ·rw [if_neg h]; congr 1; simp [show ¬ a ≤ x from h]

theorem spec_ValOk_ev (t n : Int) (s : ByteArray) : Ev (fun k => spec_ValOk.f k t n s) (decide (vok t n s)) := by
 unfold spec_ValOk.f spec_l4Int.f
 simp only [spec_l1In_ev, Option.bind_some, nil_beq]
 by_cases h0 : t = 0
 ·subst h0; simp only [if_true]
  by_cases h : 0 ≤ n ∧ n ≤ 1
  ·simp only [decide_eq_true h, if_true]; rw [some_dec (q := vok 0 n s) (by rw [vok_0]; exact ⟨fun x => ⟨h, x⟩, fun x => x.2⟩)]; exact Ev.now _
  ·simp only [decide_eq_false h, Bool.false_eq_true, if_false]; rw [decide_eq_false (by rw [vok_0]; exact fun x => h x.1)]; exact Ev.now _
 simp only [if_neg h0]
 by_cases h1 : t = 1
 ·subst h1; simp only [if_true]
  by_cases h : -2147483648 ≤ n ∧ n ≤ 2147483647
  ·simp only [decide_eq_true h, if_true]; rw [some_dec (q := vok 1 n s) (by rw [vok_1]; exact ⟨fun x => ⟨h, x⟩, fun x => x.2⟩)]; exact Ev.now _
  ·simp only [decide_eq_false h, Bool.false_eq_true, if_false]; rw [decide_eq_false (by rw [vok_1]; exact fun x => h x.1)]; exact Ev.now _
 simp only [if_neg h1]
 by_cases h2 : t = 2
 ·subst h2; simp only [if_true, beq_self_eq_true]
  refine Ev.step (f := fun _ => some (decide (vok 2 n s))) (fun k => ?_) (Ev.now _)
  simp only [spec_ValOk.j0, nil_beq]; rw [if_pos trivial]; exact some_dec (vok_2 n s).symm
 simp only [if_neg h2]
 refine Ev.step (f := fun _ => some (decide (vok t n s))) (fun k => ?_) (Ev.now _)
 simp only [spec_ValOk.j0, nil_beq]
 by_cases h5 : t = 5
 ·subst h5; rw [if_pos (by decide)]; exact some_dec (vok_5 n s).symm
 rw [if_neg (by simpa using h5)]
 by_cases h6 : t = 6
 ·subst h6; rw [if_pos rfl]
  by_cases h : n = 0
  ·rw [if_pos h]; exact some_dec (by rw [vok_6]; exact ⟨fun x => ⟨h, by omega⟩, fun x => by omega⟩)
  ·rw [if_neg h, decide_eq_false (by rw [vok_6]; exact fun x => h x.1)]
 ·rw [if_neg h6, decide_eq_false (vok_no t n s ⟨h0, h1, h2, h5, h6⟩)]

theorem spec_l5Type_ev (t : Int) : spec_l5Type.f t = some (decide (t = 0 ∨ t = 1 ∨ t = 2 ∨ t = 5 ∨ t = 6)) := by
 unfold spec_l5Type.f
 by_cases h0 : t = 0
 ·rw [if_pos h0, decide_eq_true (by omega)]
 rw [if_neg h0]
 by_cases h1 : t = 1
 ·rw [if_pos h1, decide_eq_true (by omega)]
 rw [if_neg h1]
 by_cases h2 : t = 2
 ·rw [if_pos h2, decide_eq_true (by omega)]
 rw [if_neg h2]
 by_cases h5 : t = 5
 ·rw [if_pos h5, decide_eq_true (by omega)]
 rw [if_neg h5]
 by_cases h6 : t = 6
 ·rw [if_pos h6, decide_eq_true (by omega)]
 rw [if_neg h6, decide_eq_false (by omega)]

theorem spec_WordPut_ev (x : Int) (n : Int) (h : n < 9223372036854775808) : Ev (fun k => spec_WordPut.f k x n) (if 1 ≤ n ∧ n ≤ 8 then wbytes x n.toNat else []) := by
 unfold spec_WordPut.f
 by_cases hn : 1 ≤ n ∧ n ≤ 8
 ·have key : ∀ (d : Nat) (i : Nat), (i : Int) + d = n → Ev (fun k => spec_WordPut.l0 k x n (wbytes x i) i) (wbytes x n.toNat) := by
   intro d
   induction d with
   | zero =>
    intro i hd
    refine Ev.step (f := fun _ => some (wbytes x n.toNat)) (fun k => ?_) (Ev.now _)
    simp only [spec_WordPut.l0]; rw [if_neg (by omega), show n.toNat = i by omega]
   | succ d ih =>
    intro i hd
    refine Ev.step (f := fun k => spec_WordPut.l0 k x n (wbytes x (i + 1)) (i + 1 : Nat)) (fun k => ?_) (ih (i + 1) (by omega))
    simp only [spec_WordPut.l0, spec_l1In.f]
    rw [if_pos (by omega), if_pos (by omega), Option.bind_some, if_pos (by simp; omega), wrap_id (n := 8 * (i : Int)) (by omega) (by omega), if_pos (by omega), if_pos (by rw [wbytes_len]; omega), wrap_id (by omega) (by omega), shr64 _ _ (by omega) (by omega), wbytes_succ, show (8 * (i : Int)).toNat = 8 * i by omega]
    push_cast; rfl
  have h := key n.toNat 0 (by omega)
  rw [if_pos hn]
  simpa [wbytes] using h
 ·rw [if_neg hn]
  refine Ev.step (f := fun _ => some []) (fun k => ?_) (Ev.now _)
  simp only [spec_WordPut.l0, spec_l1In.f]
  by_cases h0 : 0 < n
  ·rw [if_pos h0, if_pos (by omega), Option.bind_some, if_neg (by simp; omega)]
  ·rw [if_neg h0]

theorem spec_BitsSize_ev (n w : Int) : spec_BitsSize.f n w = some (if 0 ≤ n ∧ n ≤ 2000 ∧ 0 ≤ w ∧ w ≤ 62 then (n * w + 7) / 8 else -1) := by
 unfold spec_BitsSize.f
 simp only [spec_l1In_ev, Option.bind_some]
 by_cases h1 : 0 ≤ n ∧ n ≤ 2000
 ·simp only [decide_eq_true h1, if_true]
  by_cases h2 : 0 ≤ w ∧ w ≤ 62
  ·simp only [decide_eq_true h2, if_true]
   have hm0 : 0 ≤ n * w := Int.mul_nonneg h1.1 h2.1
   have hm : n * w ≤ 2000 * 62 := Int.mul_le_mul h1.2 h2.2 h2.1 (by omega)
   rw [if_pos ⟨h1.1, h1.2, h2.1, h2.2⟩, wrap_id (n := n * w) (by omega) (by omega), wrap_id (n := n * w + 7) (by omega) (by omega), Int.tdiv_eq_ediv_of_nonneg (by omega), wrap_id (by omega) (by omega)]
  ·simp only [decide_eq_false h2, Bool.false_eq_true, if_false]
   rw [if_neg (fun h => h2 h.2.2)]
 ·simp only [decide_eq_false h1, Bool.false_eq_true, if_false]
  rw [if_neg (fun h => h1 ⟨h.1, h.2.1⟩)]

theorem shr_zero_iff (n : Int) (w : Nat) (h0 : 0 ≤ n) (hw : w ≤ 62) : (shr .i64 n w != 0) = !decide ((blen n.toNat : Int) ≤ w) := by
 rw [shr64 _ _ (by omega) (by omega), show (w : Int).toNat = w by omega]
 have hp : (0 : Int) < 2 ^ w := Int.pow_pos (by decide)
 have hc : ((2 ^ w : Nat) : Int) = 2 ^ w := by simp
 by_cases h : (blen n.toNat : Int) ≤ w
 ·rw [decide_eq_true h]
  have := (blen_le n.toNat w).1 (by omega)
  have hlt : n < 2 ^ w := by rw [← hc]; omega
  rw [Int.ediv_eq_zero_of_lt h0 hlt]; rfl
 ·rw [decide_eq_false h]
  have : ¬ n.toNat < 2 ^ w := fun hh => h (by have := (blen_le n.toNat w).2 hh; omega)
  have hge : (2 : Int) ^ w ≤ n := by rw [← hc]; omega
  have : 1 ≤ n / 2 ^ w := by rw [Int.le_ediv_iff_mul_le hp]; omega
  simp; omega

theorem spec_BitsPack_ev (l : List Int) (w : Int) (hl : ∀ x ∈ l, (Lit.int .i64 x).wf = true) (hlen : l.length ≤ 1000000000) : Ev (fun k => spec_BitsPack.f k l w) (bpk l w) := by
 unfold spec_BitsPack.f bpk
 simp only [spec_BitsSize_ev, Option.bind_some]
 by_cases hc : l.length ≤ 2000 ∧ 0 ≤ w ∧ w ≤ 62
 ·obtain ⟨h2, hw0, hw1⟩ := id hc
  obtain ⟨v, rfl⟩ := Int.eq_ofNat_of_zero_le hw0
  have hv : v ≤ 62 := by omega
  rw [if_pos (show 0 ≤ (l.length : Int) ∧ (l.length : Int) ≤ 2000 ∧ 0 ≤ (v : Int) ∧ (v : Int) ≤ 62 by omega)]
  have hmul : l.length * v ≤ 124000 := Nat.mul_le_mul h2 hv
  have hmulc : ((l.length : Int) * (v : Int)) = ((l.length * v : Nat) : Int) := by push_cast; rfl
  rw [hmulc]
  simp only [if_neg (show ¬ (((l.length * v : Nat) : Int) + 7) / 8 < 0 by omega), if_pos (show (0 : Int) ≤ (((l.length * v : Nat) : Int) + 7) / 8 by omega), if_pos (show ((((l.length * v : Nat) : Int) + 7) / 8).toNat ≤ 281474976710656 by omega)]
  have einner : ∀ (d i j : Nat), i < l.length → j + d = v →
    ∀ R : List Int × Bool, Ev (fun k => spec_BitsPack.l0 k l v (bofB (upTo (pbit l v) ((i + 1) * v)) ((l.length * v + 7) / 8)) ((i + 1 : Nat) : Int)) R →
    Ev (fun k => spec_BitsPack.l1 k l v (bofB (upTo (pbit l v) (i * v + j)) ((l.length * v + 7) / 8)) i j) R := by
   intro d
   induction d with
   | zero =>
    intro i j hi hj R h
    refine Ev.step (fun k => ?_) h
    simp only [spec_BitsPack.l1]
    rw [if_neg (by omega), wrap_id (n := (i : Int) + 1) (by omega) (by omega), show j = v by omega, Nat.succ_mul]
    push_cast; rfl
   | succ d ih =>
    intro i j hi hj R h
    have hP : i * v + j < l.length * v := by
     have : (i + 1) * v ≤ l.length * v := Nat.mul_le_mul_right v hi
     rw [Nat.succ_mul] at this; omega
    have hc' : ((i * v : Nat) : Int) = (i : Int) * v := by push_cast; rfl
    have hst := byteOf_step (pbit_bits l v) ((i * v + j) / 8) ((i * v + j) % 8) (by omega)
    rw [show 8 * ((i * v + j) / 8) + (i * v + j) % 8 = i * v + j by omega] at hst
    have hbits := pbit_bits l v (i * v + j)
    have hb : Go.bits .and .i64 (shr .i64 (rd l i) j) 1 = pbit l v (i * v + j) := by
     rw [and_one, shr64 _ _ (by omega) (by omega), pbit_at l v i j (by omega)]; rfl
    refine Ev.step (fun k => ?_) (ih i (j + 1) hi (by omega) R h)
    simp only [spec_BitsPack.l1]
    rw [if_pos (show (j : Int) < v by omega), if_pos (show (0 : Int) ≤ i by omega), if_pos (show (i : Int) < l.length by omega), if_pos (show (0 : Int) ≤ j by omega), hb, wrap_id (n := (j : Int) + 1) (by omega) (by omega)]
    by_cases h1 : pbit l v (i * v + j) = 1
    ·rw [if_pos h1, ← hc', wrap_id (n := ((i * v : Nat) : Int)) (by omega) (by omega), wrap_id (n := ((i * v : Nat) : Int) + j) (by omega) (by omega)]
     rw [Int.tdiv_eq_ediv_of_nonneg (by omega), Int.tmod_eq_emod_of_nonneg (by omega), wrap_id (n := (((i * v : Nat) : Int) + j) / 8) (by omega) (by omega)]
     rw [if_pos (by omega), if_pos (by rw [bofB_len]; omega), if_pos (by omega)]
     rw [shl8 _ _ (by omega) (by omega) (Or.inr rfl), rd_bofB _ _ _ (by omega) (by omega)]
     rw [show ((((i * v : Nat) : Int) + j) % 8).toNat = (i * v + j) % 8 by omega, show ((((i * v : Nat) : Int) + j) / 8).toNat = (i * v + j) / 8 by omega]
     rw [h1] at hst
     rw [or8 _ _ _ (by omega) hst.1 hst.2.1 (Or.inr rfl), ← hst.2.2, bofB_set _ _ _ _ rfl]
     push_cast; rfl
    ·rw [if_neg h1]
     have h0 : pbit l v (i * v + j) = 0 := by omega
     have e : bofB (upTo (pbit l v) (i * v + (j + 1))) ((l.length * v + 7) / 8) = bofB (upTo (pbit l v) (i * v + j)) ((l.length * v + 7) / 8) := by
      have hs := bofB_set (pbit l v) (i * v + j) ((l.length * v + 7) / 8) _ rfl
      rw [hst.2.2, h0] at hs
      rw [← Nat.add_assoc, ← hs]
      apply List.ext_getElem
      ·simp
      ·intro n h3 h4
       rw [List.getElem_set]
       by_cases hn : (i * v + j) / 8 = n
       ·rw [if_pos hn]; subst hn; simp [bofB]
       ·rw [if_neg hn]
     rw [e]; push_cast; rfl
  have outer : ∀ (d i : Nat), i + d = l.length → (∀ n ∈ l.take i, fits v n) → Ev (fun k => spec_BitsPack.l0 k l v (bofB (upTo (pbit l v) (i * v)) ((l.length * v + 7) / 8)) i) (if ∀ n ∈ l, fits v n then (packB l v, true) else ([], false)) := by
   intro d
   induction d with
   | zero =>
    intro i hi hf
    rw [show i = l.length by omega, List.take_length] at hf
    rw [if_pos hf]
    refine Ev.step (f := fun _ => some (packB l v, true)) (fun k => ?_) (Ev.now _)
    simp only [spec_BitsPack.l0]; rw [if_neg (by omega), show i = l.length by omega]; rfl
   | succ d ih =>
    intro i hi hf
    have hm : rd l i = l[i] := rd_eq l i (by omega)
    have hmem : l[i] ∈ l := List.getElem_mem _
    have hwf := wf64 (hl _ hmem)
    have badj : Ev (fun k => spec_BitsPack.j1 k l v (bofB (upTo (pbit l v) (i * v)) ((l.length * v + 7) / 8)) i true) ([], false) := Ev.step (f := fun _ => some ([], false)) (fun k => by simp only [spec_BitsPack.j1]; rw [if_pos trivial]) (Ev.now _)
    by_cases hn : l[i] < 0
    ·rw [if_neg (fun h => by have := (h _ hmem).1; omega)]
     refine Ev.step (fun k => ?_) badj
     simp only [spec_BitsPack.l0]; rw [if_pos (by omega), if_pos (by omega), hm, if_pos hn]
    ·by_cases hb : (blen (l[i]).toNat : Int) ≤ v
     ·have hnext := ih (i + 1) (by omega) (by
       intro n hn2
       rw [List.take_succ_eq_append_getElem (by omega)] at hn2
       rcases List.mem_append.1 hn2 with h | h
       ·exact hf n h
       ·rw [List.mem_singleton] at h; subst h; exact ⟨by omega, hb⟩)
      refine Ev.step (f := fun k => spec_BitsPack.j1 k l v (bofB (upTo (pbit l v) (i * v)) ((l.length * v + 7) / 8)) i false) (fun k => ?_) ?_
      ·simp only [spec_BitsPack.l0]; rw [if_pos (by omega), if_pos (by omega), hm, if_neg hn, if_pos (by omega), shr_zero_iff _ _ (by omega) hv, decide_eq_true hb]; rfl
      ·refine Ev.step (f := fun k => spec_BitsPack.l1 k l v (bofB (upTo (pbit l v) (i * v)) ((l.length * v + 7) / 8)) i 0) (fun k => by simp only [spec_BitsPack.j1]; rw [if_neg (by simp)]) ?_
       exact einner v i 0 (by omega) (by omega) _ hnext
     ·rw [if_neg (fun h => hb (h _ hmem).2)]
      refine Ev.step (fun k => ?_) badj
      simp only [spec_BitsPack.l0]; rw [if_pos (by omega), if_pos (by omega), hm, if_neg hn, if_pos (by omega), shr_zero_iff _ _ (by omega) hv, decide_eq_false hb]; rfl
  have h := outer l.length 0 (by omega) (by simp)
  have e : (if l.length ≤ 2000 ∧ 0 ≤ (v : Int) ∧ (v : Int) ≤ 62 ∧ ∀ n ∈ l, fits v n then (packB l (v : Int).toNat, true) else ([], false)) = (if ∀ n ∈ l, fits v n then (packB l v, true) else ([], false)) := by
   by_cases hf : ∀ n ∈ l, fits v n
   ·rw [if_pos ⟨h2, hw0, hw1, hf⟩, if_pos hf, show (v : Int).toNat = v by omega]
   ·rw [if_neg (fun h => hf h.2.2.2), if_neg hf]
  rw [e, show ((((l.length * v : Nat) : Int) + 7) / 8).toNat = (l.length * v + 7) / 8 by omega, bofB_zero (pbit l v)]
  simpa using h
 ·rw [if_neg (show ¬ (0 ≤ (l.length : Int) ∧ (l.length : Int) ≤ 2000 ∧ 0 ≤ w ∧ w ≤ 62) by omega), if_neg (fun h => hc ⟨h.1, h.2.1, h.2.2.1⟩)]
  simp only [if_pos (show (-1 : Int) < 0 by decide)]; exact Ev.now _

theorem spec_l6Vals_ev (t : Int) (l : List PV) (hl : l.length ≤ 1000000000000000) : Ev (fun k => spec_l6Vals.f k t l) (decide (valsP t l)) := by
 have bad : ¬ valsP t l → Ev (fun k => spec_l6Vals.j0 k t l true) (decide (valsP t l)) := by
  intro h
  rw [decide_eq_false h]
  exact Ev.step (f := fun _ => some false) (fun k => by simp only [spec_l6Vals.j0]; rw [if_pos trivial]) (Ev.now _)
 unfold spec_l6Vals.f
 by_cases h2 : (l.length : Int) > 2000
 ·simp only [if_pos h2]; exact bad (fun h => by have := h.2.1; omega)
 simp only [if_neg h2, spec_l5Type_ev, Option.bind_some]
 by_cases ht : t = 0 ∨ t = 1 ∨ t = 2 ∨ t = 5 ∨ t = 6
 ·simp only [decide_eq_true ht, Bool.not_true]
  refine Ev.step (f := fun k => spec_l6Vals.l0 k t l (0 : Nat)) (fun k => by simp only [spec_l6Vals.j0]; rw [if_neg (by simp)]; rfl) ?_
  have key : ∀ (d i : Nat), i + d = l.length → (∀ j, j < i → ∀ h : j < l.length, vok t l[j].f0 l[j].f1) → Ev (fun k => spec_l6Vals.l0 k t l i) (decide (valsP t l)) := by
   intro d
   induction d with
   | zero =>
    intro i hd hv
    have hall : ∀ v ∈ l, vok t v.f0 v.f1 := by
     intro v hm
     obtain ⟨j, hj, rfl⟩ := List.getElem_of_mem hm
     exact hv j (by omega) hj
    rw [decide_eq_true ⟨ht, by omega, hall⟩]
    refine Ev.step (f := fun _ => some true) (fun k => ?_) (Ev.now _)
    simp only [spec_l6Vals.l0]
    rw [if_neg (by omega)]
   | succ d ih =>
    intro i hd hv
    refine ev_succ' ?_
    simp only [spec_l6Vals.l0]
    refine ev_if (show (i : Int) < l.length by omega) ?_
    refine ev_if (show (0 : Int) ≤ i by omega) ?_
    rw [rd_pv l i (by omega)]
    refine Ev.bind (spec_ValOk_ev t _ _) ?_
    by_cases hvi : vok t l[i].f0 l[i].f1
    ·simp only [decide_eq_true hvi, if_true]
     rw [wrap_id (n := (i : Int) + 1) (by omega) (by omega)]
     exact ih (i + 1) (by omega) (fun j h1 h2 => by
      by_cases hji : j = i
      ·subst hji; exact hvi
      ·exact hv j (by omega) h2)
    ·simp only [decide_eq_false hvi, Bool.false_eq_true, if_false]
     rw [decide_eq_false (fun h => hvi (h.2.2 _ (List.getElem_mem (by omega))))]; exact Ev.now _
  exact key l.length 0 (by omega) (by omega)
 ·simp only [decide_eq_false ht, Bool.not_false]; exact bad (fun h => ht h.1)
theorem ev_app3 {β : Type} {g : Nat → Option (List Int)} {u acc q : List Int} {z b2 : Nat} {F : Nat → List Int → Option β} {R : β} {B : Nat} (e : Ev g u) (h1 : acc.length + u.length < B) (hz : z ≤ b2) (h2 : (acc ++ u).length + q.length < B) (h : Ev (fun k => F k (acc ++ u ++ q)) R) :
  Ev (fun k => (g k).bind fun t => if acc.length + t.length < B then ((some (acc ++ t)).bind fun y => if z ≤ b2 then ((some q).bind fun q' => if y.length + q'.length < B then F k (y ++ q') else none) else none) else none) R := by
 refine Ev.bind e ?_
 simp only [if_pos h1, Option.bind_some, if_pos hz, if_pos h2]; exact h
theorem spec_PlainPack_ev (t : Int) (l : List PV) (hl : l.length ≤ 1000000000000000) : Ev (fun k => spec_PlainPack.f k t l) (ppk t l) := by
 unfold spec_PlainPack.f ppk
 simp only [Option.bind_some]
 refine Ev.bind (spec_l6Vals_ev t l hl) ?_
 by_cases h : valsP t l
 ·simp only [decide_eq_true h, if_true]
  rw [if_pos h]
  have hlen := h.2.1
  by_cases h0 : t = 0
  ·subst h0
   simp only [if_true]
   have key : ∀ (d i : Nat), i + d = l.length → Ev (fun k => spec_PlainPack.l0 k 0 l [] (numsL (l.take i)) i) (packB (numsL l) 1, true) := by
    intro d
    induction d with
    | zero =>
     intro i hd
     refine ev_succ' ?_
     simp only [spec_PlainPack.l0]
     simp only [if_neg (show ¬ (i : Int) < l.length by omega), if_true]
     rw [List.take_of_length_le (by omega)]
     have e := spec_BitsPack_ev (numsL l) 1 (numsL_wf l h) (by simp [numsL]; omega)
     rw [bpk_bool l h] at e
     exact Ev.bind e (Ev.now _)
    | succ d ih =>
     intro i hd
     have hi := ih (i + 1) (by omega)
     rw [List.take_succ_eq_append_getElem (by omega), numsL_snoc] at hi
     refine Ev.step (fun k => ?_) hi
     simp only [spec_PlainPack.l0]
     rw [if_pos (by omega), if_pos (by omega), if_pos trivial, if_pos (by simp [numsL]; omega), rd_pv l i (by omega), wrap_id (n := (i : Int) + 1) (by omega) (by omega)]; push_cast; rfl
   have := key l.length 0 (by omega)
   simpa [numsL] using this
  ·simp only [if_neg h0]
   have key : ∀ (d i : Nat), i + d = l.length → Ev (fun k => spec_PlainPack.l0 k t l (flatV t (l.take i)) [] i) (flatV t l, true) := by
    intro d
    induction d with
    | zero =>
     intro i hd
     refine Ev.step (f := fun _ => some (flatV t l, true)) (fun k => ?_) (Ev.now _)
     simp only [spec_PlainPack.l0]
     rw [if_neg (by omega), if_neg h0, List.take_of_length_le (by omega)]
    | succ d ih =>
     intro i hd
     have hi := ih (i + 1) (by omega)
     have hv := h.2.2 _ (List.getElem_mem (show i < l.length by omega))
     have hz := vok_size _ _ _ hv
     have hpl := pval_len t l[i].f0 l[i].f1 hz
     have hfl := flatV_len t (l.take i) (fun v hm => h.2.2 v (List.mem_of_mem_take hm))
     have hfl2 : (flatV t (l.take i)).length ≤ 88000 := by rw [List.length_take] at hfl; omega
     rw [List.take_succ_eq_append_getElem (by omega), flatV_snoc] at hi
     generalize flatV t (l.take i) = acc at hi hfl2
     refine ev_succ' ?_
     simp only [spec_PlainPack.l0]
     have e1 : wrap64 ((i : Int) + 1) = ((i + 1 : Nat) : Int) := by rw [wrap_id (by omega) (by omega)]; push_cast; rfl
     refine ev_if (show (i : Int) < l.length by omega) ?_
     refine ev_if (show (0 : Int) ≤ i by omega) ?_
     rw [rd_pv l i (by omega), e1]
     simp only [if_neg h0]
     have w4 : ∀ x : Int, Ev (fun k => spec_WordPut.f k x 4) (wbytes x 4) := fun x => by simpa using spec_WordPut_ev x 4 (by decide)
     have w8 : ∀ x : Int, Ev (fun k => spec_WordPut.f k x 8) (wbytes x 8) := fun x => by simpa using spec_WordPut_ev x 8 (by decide)
     by_cases h1 : t = 1
     ·refine ev_if h1 ?_
      rw [show pval t l[i].f0 l[i].f1 = wbytes l[i].f0 4 by unfold pval; rw [if_neg (by omega), if_pos h1]] at hi
      exact ev_app1 (F := fun k y => spec_PlainPack.l0 k t l y [] ((i + 1 : Nat) : Int)) (w4 _) (by rw [wbytes_len]; omega) hi
     ·simp only [if_neg h1]
      by_cases h6 : t = 6
      ·refine ev_if h6 ?_
       rw [show pval t l[i].f0 l[i].f1 = wbytes l[i].f1.size 4 ++ bytesOf l[i].f1 by unfold pval; rw [if_pos h6], ← List.append_assoc] at hi
       exact ev_app3 (F := fun k y => spec_PlainPack.l0 k t l y [] ((i + 1 : Nat) : Int)) (w4 _) (by rw [wbytes_len]; omega) (by omega) (by rw [List.length_append, wbytes_len, bytesOf_len]; omega) hi
      ·simp only [if_neg h6]
       rw [show pval t l[i].f0 l[i].f1 = wbytes l[i].f0 8 by unfold pval; rw [if_neg h6, if_neg h1]] at hi
       exact ev_app1 (F := fun k y => spec_PlainPack.l0 k t l y [] ((i + 1 : Nat) : Int)) (w8 _) (by rw [wbytes_len]; omega) hi
   have := key l.length 0 (by omega)
   simpa [flatV] using this
 ·simp only [decide_eq_false h, Bool.false_eq_true, if_false]
  rw [if_neg h]; exact Ev.now _

theorem impl_BitsSize_ev (n w : Int) : impl_BitsSize.f n w = some (if 0 ≤ n ∧ n ≤ 2000 ∧ 0 ≤ w ∧ w ≤ 62 then (n * w + 7) / 8 else -1) := by
 unfold impl_BitsSize.f
 simp only [impl_within_ev, Option.bind_some]
 by_cases h1 : 0 ≤ n ∧ n ≤ 2000
 ·simp only [decide_eq_true h1, if_true]
  by_cases h2 : 0 ≤ w ∧ w ≤ 62
  ·simp only [decide_eq_true h2, if_true]
   have hm0 : 0 ≤ n * w := Int.mul_nonneg h1.1 h2.1
   have hm : n * w ≤ 2000 * 62 := Int.mul_le_mul h1.2 h2.2 h2.1 (by omega)
   rw [if_pos ⟨h1.1, h1.2, h2.1, h2.2⟩, wrap_id (n := n * w) (by omega) (by omega), wrap_id (n := n * w + 7) (by omega) (by omega), Int.tdiv_eq_ediv_of_nonneg (by omega), wrap_id (by omega) (by omega)]
  ·simp only [decide_eq_false h2, Bool.false_eq_true, if_false]
   rw [if_neg (fun h => h2 h.2.2)]
 ·simp only [decide_eq_false h1, Bool.false_eq_true, if_false]
  rw [if_neg (fun h => h1 ⟨h.1, h.2.1⟩)]

theorem impl_BitAt_ev (l : List Int) (k : Int) (hl : ∀ x ∈ l, (Lit.int .u8 x).wf = true) (h0 : -9223372036854775808 ≤ k) (h1 : k < 9223372036854775808) :
  impl_BitAt.f l k = some (if 0 ≤ k ∧ k / 8 < l.length then bitAt l k else -1) := by
 unfold impl_BitAt.f
 by_cases hk : k < 0
 ·rw [if_pos hk, if_neg (by omega)]
 ·have e : wrap64 (Int.tdiv k 8) = k / 8 := by rw [Int.tdiv_eq_ediv_of_nonneg (by omega), wrap_id (by omega) (by omega)]
  have e2 : Int.tmod k 8 = k % 8 := Int.tmod_eq_emod_of_nonneg (by omega)
  rw [if_neg hk, e, e2]
  by_cases hb : k / 8 ≥ (l.length : Int)
  ·rw [if_pos hb, if_neg (by omega)]
  ·rw [if_neg hb, if_pos (by omega), if_pos (by omega), if_pos (by omega), if_pos (by omega)]
   have hr := rd_rng8 hl (k / 8)
   unfold bitAt shr
   rw [show min (k % 8).toNat IntKind.u8.bits = (k % 8).toNat by simp [IntKind.bits]; omega]
   have hp : (0 : Int) < 2 ^ (k % 8).toNat := Int.pow_pos (by decide)
   have hd0 : 0 ≤ rd l (k / 8) / 2 ^ (k % 8).toNat := Int.ediv_nonneg hr.1 (by omega)
   have hd1 : rd l (k / 8) / 2 ^ (k % 8).toNat ≤ rd l (k / 8) := Int.ediv_le_self _ hr.1
   have hm := bits_mask .u8 8 (by decide) wraps_u8 1 (by decide) (rd l (k / 8) / 2 ^ (k % 8).toNat) hd0 (by omega)
   rw [show (2 : Int) ^ 1 - 1 = 1 by rfl] at hm
   rw [hm, wrap_id (by omega) (by omega)]; rfl

theorem impl_unpacked_ev (b : List Int) (a : Int) (many w : Nat) (hb : ∀ x ∈ b, (Lit.int .u8 x).wf = true) (hlen : b.length ≤ 1000000000000) (ha : 0 ≤ a) (hm : many ≤ 1000000) (hw : w ≤ 63) (hfit : 8 * a + many * w ≤ 8 * b.length) :
  Ev (fun k => impl_unpacked.f k b a many w) (unpackB b a many w) := by
 have inner : ∀ (d i j : Nat) (acc : List Int), i < many → j + d = w → acc.length ≤ 1000000 →
   ∀ R : List Int, Ev (fun k => impl_unpacked.l0 k b a w (acc ++ [wrap64 (unum b (8 * a + i * w) w)]) many ((i + 1 : Nat) : Int)) R →
   Ev (fun k => impl_unpacked.l1 k b a w acc i (wrap64 (unum b (8 * a + i * w) j)) many i w j) R := by
  intro d
  induction d with
  | zero =>
   intro i j acc hi hj hacc R h
   refine Ev.step (fun k => ?_) h
   simp only [impl_unpacked.l1]
   rw [if_neg (by omega), if_pos (by omega), wrap_id (n := (i : Int) + 1) (by omega) (by omega), show j = w by omega]
   push_cast; rfl
  | succ d ih =>
   intro i j acc hi hj hacc R h
   have hc : ((i * w : Nat) : Int) = (i : Int) * w := by push_cast; rfl
   have hle : (i + 1) * w ≤ many * w := Nat.mul_le_mul_right w hi
   rw [Nat.succ_mul] at hle
   have hmc : ((many * w : Nat) : Int) = (many : Int) * w := by push_cast; rfl
   rw [← hmc] at hfit
   refine Ev.step (fun k => ?_) (ih i (j + 1) acc hi (by omega) hacc R h)
   simp only [impl_unpacked.l1]
   rw [if_pos (by omega), wrap_id (n := 8 * a) (by omega) (by omega), ← hc, wrap_id (n := ((i * w : Nat) : Int)) (by omega) (by omega), wrap_id (n := 8 * a + ((i * w : Nat) : Int)) (by omega) (by omega), wrap_id (n := 8 * a + ((i * w : Nat) : Int) + j) (by omega) (by omega)]
   rw [impl_BitAt_ev b _ hb (by omega) (by omega), if_pos (by omega)]
   simp only [Option.bind_some]
   have hbit : 0 ≤ bitAt b (8 * a + ((i * w : Nat) : Int) + j) := by unfold bitAt; omega
   rw [if_pos (by omega), wrap_id (n := (j : Int) + 1) (by omega) (by omega), shl64 _ _ (by omega) (by omega), show (j : Int).toNat = j by omega]
   rw [or_add _ _ j (unum_rng _ _ _).1 (unum_rng _ _ _).2 hbit]
   push_cast; rfl
 have outer : ∀ (d i : Nat), i + d = many → Ev (fun k => impl_unpacked.l0 k b a w (unpackB b a i w) many i) (unpackB b a many w) := by
  intro d
  induction d with
  | zero =>
   intro i hi
   refine Ev.step (f := fun _ => some (unpackB b a many w)) (fun k => ?_) (Ev.now _)
   simp only [impl_unpacked.l0]; rw [if_neg (by omega), show i = many by omega]
  | succ d ih =>
   intro i hi
   have h := ih (i + 1) (by omega)
   have e : unpackB b a (i + 1) w = unpackB b a i w ++ [wrap64 (unum b (8 * a + i * w) w)] := by unfold unpackB; rw [List.range_succ]; simp
   rw [e] at h
   refine Ev.step (fun k => ?_) (inner w i 0 _ (by omega) (by omega) (by simp [unpackB]; omega) _ h)
   simp only [impl_unpacked.l0]; rw [if_pos (by omega)]
   simp [unum, show wrap64 0 = 0 by unfold wrap64; omega]
 have h := outer many 0 (by omega)
 unfold impl_unpacked.f
 simpa [unpackB] using h

def brd (b : List Int) (a n w : Int) : List Int × Int × Bool :=
 if (0 ≤ n ∧ n ≤ 2000 ∧ 0 ≤ w ∧ w ≤ 62) ∧ 0 ≤ a ∧ a + (n * w + 7) / 8 ≤ b.length then (unpackB b a n.toNat w.toNat, a + (n * w + 7) / 8, true) else ([], 0, false)
theorem impl_BitsRead_ev (b : List Int) (a n w : Int) (hb : ∀ x ∈ b, (Lit.int .u8 x).wf = true) (hlen : b.length ≤ 1000000000000) (ha : -9223372036854775808 ≤ a ∧ a < 9223372036854775808) :
  Ev (fun k => impl_BitsRead.f k b a n w) (brd b a n w) := by
 unfold impl_BitsRead.f brd
 simp only [impl_BitsSize_ev, impl_within_ev, Option.bind_some]
 by_cases h1 : 0 ≤ n ∧ n ≤ 2000 ∧ 0 ≤ w ∧ w ≤ 62
 ·simp only [if_pos h1]
  have hm0 : 0 ≤ n * w := Int.mul_nonneg h1.1 h1.2.2.1
  have hm : n * w ≤ 2000 * 62 := Int.mul_le_mul h1.2.1 h1.2.2.2 h1.2.2.1 (by omega)
  simp only [if_neg (show ¬ (n * w + 7) / 8 < 0 by omega)]
  by_cases h2 : 0 ≤ a ∧ a ≤ (b.length : Int)
  ·simp only [decide_eq_true h2, if_true]
   rw [wrap_id (n := (b.length : Int) - a) (by omega) (by omega)]
   by_cases h3 : a + (n * w + 7) / 8 ≤ b.length
   ·simp only [if_neg (show ¬ (n * w + 7) / 8 > (b.length : Int) - a by omega)]
    rw [if_pos ⟨h1, h2.1, h3⟩]
    obtain ⟨n', rfl⟩ := Int.eq_ofNat_of_zero_le h1.1
    obtain ⟨w', rfl⟩ := Int.eq_ofNat_of_zero_le h1.2.2.1
    have := impl_unpacked_ev b a n' w' hb hlen h2.1 (by omega) (by omega) (by omega)
    refine Ev.bind this ?_
    rw [wrap_id (n := a + ((n' : Int) * w' + 7) / 8) (by omega) (by omega)]
    exact Ev.now _
   ·simp only [if_pos (show (n * w + 7) / 8 > (b.length : Int) - a by omega)]
    rw [if_neg (fun h => h3 h.2.2)]; exact Ev.now _
  ·simp only [decide_eq_false h2, Bool.false_eq_true, if_false]
   rw [if_neg (fun h => h2 (by omega))]; exact Ev.now _
 ·simp only [if_neg h1, if_pos (show (-1 : Int) < 0 by decide)]
  rw [if_neg (fun h => h1 h.1)]; exact Ev.now _

theorem impl_WordGet_ev (l : List Int) (a n : Int) (hl : ∀ x ∈ l, (Lit.int .u8 x).wf = true) (hlen : l.length ≤ 1000000000000) (ha : -9223372036854775808 ≤ a ∧ a < 9223372036854775808) (hn : -9223372036854775808 ≤ n ∧ n < 9223372036854775808) :
  Ev (fun k => impl_WordGet.f k l a n) (wget l a n) := by
 unfold impl_WordGet.f wget
 simp only [impl_within_ev, Option.bind_some]
 have bad : Ev (fun k => impl_WordGet.j0 k l a n true) (0, 0, false) := Ev.step (f := fun _ => some (0, 0, false)) (fun k => by simp only [impl_WordGet.j0]; rw [if_pos trivial]) (Ev.now _)
 by_cases hn8 : 1 ≤ n ∧ n ≤ 8
 ·obtain ⟨h1, h8⟩ := id hn8
  ·simp only [decide_eq_true hn8, if_true]
   by_cases h2 : a < 0
   ·simp only [if_pos h2]; rw [if_neg (show ¬ (1 ≤ n ∧ n ≤ 8 ∧ 0 ≤ a ∧ a + n ≤ (l.length : Int)) by omega)]; exact bad
   ·simp only [if_neg h2]
    rw [wrap_id (n := (l.length : Int) - n) (by omega) (by omega)]
    by_cases h3 : a + n ≤ l.length
    ·rw [if_pos (show (1 ≤ n ∧ n ≤ 8 ∧ 0 ≤ a ∧ a + n ≤ (l.length : Int)) by omega)]
     have key : ∀ (d : Nat) (i : Nat), (i : Int) + d = n → Ev (fun k => impl_WordGet.l0 k l a n (wrap64 (wnum l a i)) n i) (wrap64 (wnum l a n.toNat), a + n, true) := by
      intro d
      induction d with
      | zero =>
       intro i hd
       refine Ev.step (f := fun _ => some (wrap64 (wnum l a n.toNat), a + n, true)) (fun k => ?_) (Ev.now _)
       simp only [impl_WordGet.l0]; rw [if_neg (by omega), show n.toNat = i by omega, wrap_id (n := a + n) (by omega) (by omega)]
      | succ d ih =>
       intro i hd
       refine Ev.step (f := fun k => impl_WordGet.l0 k l a n (wrap64 (wnum l a (i + 1))) n (i + 1 : Nat)) (fun k => ?_) (ih (i + 1) (by omega))
       simp only [impl_WordGet.l0]
       have hr := rd_rng8 hl (a + i)
       rw [if_pos (by omega), wrap_id (n := a + (i : Int)) (by omega) (by omega), wrap_id (n := 8 * (i : Int)) (by omega) (by omega), if_pos (by omega), if_pos (by omega), if_pos (by omega), wrap_id (n := rd l (a + i)) (by omega) (by omega), wrap_id (n := (i : Int) + 1) (by omega) (by omega), shl64 _ _ (by omega) (by omega), show (8 * (i : Int)).toNat = 8 * i by omega]
       rw [or_add _ _ (8 * i) (wnum_rng hl a i).1 (wnum_rng hl a i).2 hr.1]
       push_cast; rfl
     refine Ev.step (f := fun k => impl_WordGet.l0 k l a n 0 n 0) (fun k => ?_) ?_
     ·simp only [impl_WordGet.j0]; rw [if_neg (by simp; omega)]
     ·have h := key n.toNat 0 (by omega)
      simpa [wnum, show wrap64 0 = 0 by unfold wrap64; omega] using h
    ·rw [if_neg (show ¬ (1 ≤ n ∧ n ≤ 8 ∧ 0 ≤ a ∧ a + n ≤ (l.length : Int)) by omega)]
     simpa [show a > (l.length : Int) - n by omega] using bad
 ·simp only [decide_eq_false hn8, Bool.false_eq_true, if_false]
  rw [if_neg (show ¬ (1 ≤ n ∧ n ≤ 8 ∧ 0 ≤ a ∧ a + n ≤ (l.length : Int)) by omega)]; exact bad

def sgn32 (x : Int) : Int := if x > 2147483647 then x - 4294967296 else x
def pone (t : Int) (b : List Int) (a : Int) : Int × ByteArray × Int × Bool :=
 if t = 6 then
  if (wget b a 4).2.2 = true ∧ (wget b a 4).1 ≤ 40 ∧ (wget b a 4).1 ≤ (b.length : Int) - (wget b a 4).2.1 then
   (0, strOfNums ((b.take ((wget b a 4).2.1 + (wget b a 4).1).toNat).drop (wget b a 4).2.1.toNat), (wget b a 4).2.1 + (wget b a 4).1, true)
  else (0, ⟨#[]⟩, 0, false)
 else if t = 1 then (sgn32 (wget b a 4).1, ⟨#[]⟩, (wget b a 4).2.1, (wget b a 4).2.2)
 else ((wget b a 8).1, ⟨#[]⟩, (wget b a 8).2.1, (wget b a 8).2.2)
theorem wget4_rng (b : List Int) (a : Int) (hb : ∀ x ∈ b, (Lit.int .u8 x).wf = true) : 0 ≤ (wget b a 4).1 ∧ (wget b a 4).1 < 4294967296 := by
 unfold wget
 split
 ·have hr := wnum_rng hb a (4 : Int).toNat
  rw [show (2 : Int) ^ (8 * (4 : Int).toNat) = 4294967296 by rfl] at hr
  simp only; rw [wrap_id (by omega) (by omega)]; exact hr
 ·simp
theorem impl_plainOne_ev (t : Int) (b : List Int) (a : Int) (ht : t = 1 ∨ t = 2 ∨ t = 5 ∨ t = 6) (hb : ∀ x ∈ b, (Lit.int .u8 x).wf = true) (hlen : b.length ≤ 1000000000) (ha : -9223372036854775808 ≤ a ∧ a < 9223372036854775808) :
  Ev (fun k => impl_plainOne.f k t b a) (pone t b a) := by
 unfold impl_plainOne.f pone
 by_cases h6 : t = 6
 ·simp only [if_pos h6]
  refine Ev.bind (impl_WordGet_ev b a 4 hb (by omega) ha (by decide)) ?_
  by_cases hok : (wget b a 4).2.2 = true
  ·have hx := wget_ok b a 4 hb (by decide) hok
   simp only [if_pos hok]
   by_cases h40 : (wget b a 4).1 ≤ 40
   ·simp only [if_neg (show ¬ (wget b a 4).1 > 40 by omega)]
    rw [wrap_id (n := (b.length : Int) - (wget b a 4).2.1) (by omega) (by omega)]
    by_cases hl : (wget b a 4).1 ≤ (b.length : Int) - (wget b a 4).2.1
    ·rw [if_pos (show (wget b a 4).2.2 = true ∧ (wget b a 4).1 ≤ 40 ∧ (wget b a 4).1 ≤ (b.length : Int) - (wget b a 4).2.1 from ⟨hok, h40, hl⟩)]
     rw [wrap_id (n := (wget b a 4).2.1 + (wget b a 4).1) (by omega) (by omega)]
     simp only [if_neg (show ¬ (wget b a 4).1 > (b.length : Int) - (wget b a 4).2.1 by omega), if_pos (show 0 ≤ (wget b a 4).2.1 by omega), if_pos (show (wget b a 4).2.1 ≤ (wget b a 4).2.1 + (wget b a 4).1 by omega), if_pos (show (wget b a 4).2.1 + (wget b a 4).1 ≤ (b.length : Int) by omega)]
     exact Ev.now _
    ·rw [if_neg (show ¬ ((wget b a 4).2.2 = true ∧ (wget b a 4).1 ≤ 40 ∧ (wget b a 4).1 ≤ (b.length : Int) - (wget b a 4).2.1) from fun h => hl h.2.2)]
     simp only [if_pos (show (wget b a 4).1 > (b.length : Int) - (wget b a 4).2.1 by omega)]; exact Ev.now _
   ·rw [if_neg (show ¬ ((wget b a 4).2.2 = true ∧ (wget b a 4).1 ≤ 40 ∧ (wget b a 4).1 ≤ (b.length : Int) - (wget b a 4).2.1) from fun h => h40 h.2.1)]
    simp only [if_pos (show (wget b a 4).1 > 40 by omega)]; exact Ev.now _
  ·simp only [if_neg hok]; rw [if_neg (show ¬ ((wget b a 4).2.2 = true ∧ (wget b a 4).1 ≤ 40 ∧ (wget b a 4).1 ≤ (b.length : Int) - (wget b a 4).2.1) from fun h => hok h.1)]; exact Ev.now _
 ·simp only [if_neg h6]
  by_cases h1 : t = 1
  ·have hw : impl_wideOf.f t = some 4 := by unfold impl_wideOf.f; rw [if_pos h1]
   simp only [hw, Option.bind_some, if_pos h1]
   refine Ev.bind (impl_WordGet_ev b a 4 hb (by omega) ha (by decide)) ?_
   have hr := wget4_rng b a hb
   have hs : impl_signed.f (wget b a 4).1 4 = some (sgn32 (wget b a 4).1) := by
    unfold impl_signed.f sgn32 wrap32; rw [if_pos rfl, wrap_id (by omega) (by omega)]
    congr 1; split <;> omega
   simp only [hs, Option.bind_some]; exact Ev.now _
  ·have hw : impl_wideOf.f t = some 8 := by
    unfold impl_wideOf.f; rw [if_neg h1]
    by_cases h2 : t = 2
    ·rw [if_pos h2]
    ·rw [if_neg h2, if_pos (by omega)]
   simp only [hw, Option.bind_some, if_neg h1]
   refine Ev.bind (impl_WordGet_ev b a 8 hb (by omega) ha (by decide)) ?_
   have hs : impl_signed.f (wget b a 8).1 8 = some (wget b a 8).1 := by unfold impl_signed.f; rw [if_neg (by decide)]
   simp only [hs, Option.bind_some]; exact Ev.now _

def prl (t : Int) (b : List Int) : Nat → Int → List S41 → List S41 × Int × Bool
 | 0, a, acc => (acc, a, true)
 | d + 1, a, acc => if (pone t b a).2.2.2 = true then prl t b d (pone t b a).2.2.1 (acc ++ [⟨(pone t b a).1, (pone t b a).2.1⟩]) else ([], 0, false)
def ofNums (l : List Int) : List S41 := l.map fun n => ⟨n, ⟨#[]⟩⟩
def prd (t : Int) (b : List Int) (a many : Int) : List S41 × Int × Bool :=
 if (t = 0 ∨ t = 1 ∨ t = 2 ∨ t = 5 ∨ t = 6) ∧ (0 ≤ many ∧ many ≤ 2000) ∧ (0 ≤ a ∧ a ≤ b.length) then
  if t = 0 then (ofNums (brd b a many 1).1, (brd b a many 1).2.1, (brd b a many 1).2.2) else prl t b many.toNat a []
 else ([], 0, false)
theorem pone_next (t : Int) (b : List Int) (a : Int) (hb : ∀ x ∈ b, (Lit.int .u8 x).wf = true) (h : (pone t b a).2.2.2 = true) : 0 ≤ (pone t b a).2.2.1 ∧ (pone t b a).2.2.1 ≤ b.length := by
 have w8 : (wget b a 8).2.2 = true → 0 ≤ (wget b a 8).2.1 ∧ (wget b a 8).2.1 ≤ b.length := by
  intro h
  unfold wget at h ⊢
  by_cases hc : (1 : Int) ≤ 8 ∧ (8 : Int) ≤ 8 ∧ 0 ≤ a ∧ a + 8 ≤ b.length
  ·rw [if_pos hc]; simp only; omega
  ·rw [if_neg hc] at h; cases h
 unfold pone at h ⊢
 by_cases h6 : t = 6
 ·rw [if_pos h6] at h ⊢
  by_cases hc : (wget b a 4).2.2 = true ∧ (wget b a 4).1 ≤ 40 ∧ (wget b a 4).1 ≤ (b.length : Int) - (wget b a 4).2.1
  ·have hx := wget_ok b a 4 hb (by decide) hc.1
   rw [if_pos hc]; simp only; omega
  ·rw [if_neg hc] at h; cases h
 ·rw [if_neg h6] at h ⊢
  by_cases h1 : t = 1
  ·rw [if_pos h1] at h ⊢
   have hx := wget_ok b a 4 hb (by decide) h
   simp only; omega
  ·rw [if_neg h1] at h ⊢; exact w8 h
theorem impl_valsOf_ev (l : List Int) (hl : l.length ≤ 1000000) : Ev (fun k => impl_valsOf.f k l) (ofNums l) := by
 have key : ∀ (d i : Nat), i + d = l.length → Ev (fun k => impl_valsOf.l0 k (ofNums (l.take i)) l l.length i) (ofNums l) := by
  intro d
  induction d with
  | zero =>
   intro i hi
   refine Ev.step (f := fun _ => some (ofNums l)) (fun k => ?_) (Ev.now _)
   simp only [impl_valsOf.l0]; rw [if_neg (by omega), show i = l.length by omega, List.take_length]
  | succ d ih =>
   intro i hi
   refine Ev.step (fun k => ?_) (ih (i + 1) (by omega))
   simp only [impl_valsOf.l0]
   rw [if_pos (by omega), if_pos (by omega), if_pos (by omega), if_pos (by simp [ofNums]; omega), wrap_id (n := (i : Int) + 1) (by omega) (by omega), List.take_succ_eq_append_getElem (by omega), rd_eq l i (by omega)]
   have e : ∀ x, ofNums (l.take i ++ [x]) = ofNums (l.take i) ++ [⟨x, ⟨#[]⟩⟩] := fun x => by unfold ofNums; rw [List.map_append]; rfl
   rw [e]; push_cast; rfl
 have h := key l.length 0 (by omega)
 unfold impl_valsOf.f
 simpa [ofNums] using h
theorem impl_PlainRead_l (t : Int) (b : List Int) (many : Nat) (ht : t = 1 ∨ t = 2 ∨ t = 5 ∨ t = 6) (hb : ∀ x ∈ b, (Lit.int .u8 x).wf = true) (hlen : b.length ≤ 1000000000) (hm : many ≤ 2000) :
  ∀ (d i : Nat) (a : Int) (acc : List S41), i + d = many → acc.length = i → 0 ≤ a → a ≤ b.length → Ev (fun k => impl_PlainRead.l0 k t b a acc many i) (prl t b d a acc) := by
 intro d
 induction d with
 | zero =>
  intro i a acc hi hacc h0 h1
  refine Ev.step (f := fun _ => some (acc, a, true)) (fun k => ?_) (Ev.now _)
  simp only [impl_PlainRead.l0]; rw [if_neg (by omega)]
 | succ d ih =>
  intro i a acc hi hacc h0 h1
  unfold prl
  refine Ev.step (fun k => by simp only [impl_PlainRead.l0]; rw [if_pos (show (i : Int) < many by omega)]) ?_
  refine Ev.bind (impl_plainOne_ev t b a ht hb hlen (by omega)) ?_
  by_cases hok : (pone t b a).2.2.2 = true
  ·have hx := pone_next t b a hb hok
   rw [if_pos hok]
   simp only [if_pos hok, if_pos (show acc.length < 5864062014805 by omega)]
   rw [wrap_id (n := (i : Int) + 1) (by omega) (by omega)]
   exact ih (i + 1) _ _ (by omega) (by simp; omega) hx.1 hx.2
  ·rw [if_neg hok]
   simp only [if_neg hok]; exact Ev.now _
theorem impl_PlainRead_ev (t : Int) (b : List Int) (a many : Int) (hb : ∀ x ∈ b, (Lit.int .u8 x).wf = true) (hlen : b.length ≤ 1000000000) : Ev (fun k => impl_PlainRead.f k t b a many) (prd t b a many) := by
 have bad : Ev (fun k => impl_PlainRead.j0 k t b a many true) ([], 0, false) := Ev.step (f := fun _ => some ([], 0, false)) (fun k => by simp only [impl_PlainRead.j0]; rw [if_pos trivial]) (Ev.now _)
 unfold impl_PlainRead.f prd
 simp only [impl_TypeOk_ev, impl_within_ev, Option.bind_some]
 by_cases h1 : t = 0 ∨ t = 1 ∨ t = 2 ∨ t = 5 ∨ t = 6
 ·simp only [decide_eq_true h1, if_true]
  by_cases h2 : 0 ≤ many ∧ many ≤ 2000
  ·simp only [decide_eq_true h2, if_true]
   by_cases h3 : 0 ≤ a ∧ a ≤ (b.length : Int)
   ·simp only [decide_eq_true h3, Bool.not_true]
    rw [if_pos ⟨h1, h2, h3⟩]
    by_cases ht0 : t = 0
    ·rw [if_pos ht0]
     refine Ev.step (fun k => by simp only [impl_PlainRead.j0]; rw [if_neg (by simp), if_pos ht0]) ?_
     refine Ev.bind (impl_BitsRead_ev b a many 1 hb (by omega) (by omega)) ?_
     have hl : (brd b a many 1).1.length ≤ 1000000 := by
      unfold brd
      split
      ·simp [unpackB]; omega
      ·simp
     refine Ev.bind (impl_valsOf_ev _ hl) ?_
     exact Ev.now _
    ·rw [if_neg ht0]
     refine Ev.step (fun k => by simp only [impl_PlainRead.j0]; rw [if_neg (by simp), if_neg ht0]) ?_
     have h := impl_PlainRead_l t b many.toNat (by omega) hb hlen (by omega) many.toNat 0 a [] (by omega) rfl h3.1 h3.2
     rw [Int.toNat_of_nonneg h2.1] at h
     exact h
   ·simp only [decide_eq_false h3, Bool.not_false]; rw [if_neg (fun h => h3 h.2.2)]; exact bad
  ·simp only [decide_eq_false h2, Bool.false_eq_true, if_false]; rw [if_neg (fun h => h2 h.2.1)]; exact bad
 ·simp only [decide_eq_false h1, Bool.false_eq_true, if_false]; rw [if_neg (fun h => h1 h.1)]; exact bad

theorem wget_puts (p r : List Int) (x : Int) (k : Nat) (hk : 1 ≤ k ∧ k ≤ 8) : wget (p ++ (wbytes x k ++ r)) p.length k = (wrap64 (x % 2 ^ (8 * k)), (p.length : Int) + k, true) := by
 have e : wnum (p ++ (wbytes x k ++ r)) p.length k = x % 2 ^ (8 * k) := by
  refine wnum_wbytes x _ _ k ?_
  intro i hi
  rw [← List.append_assoc, rd_mid p (wbytes x k) r _ (by omega) (by rw [wbytes_len]; omega), show (p.length : Int) + i - p.length = i by omega, rd_wbytes x _ _ (by omega) (by omega), Int.toNat_natCast]
 unfold wget
 rw [if_pos (by simp only [List.length_append, wbytes_len]; omega), Int.toNat_natCast, e]
theorem strOf_bytes (s : ByteArray) : strOfNums (bytesOf s) = s := by
 obtain ⟨⟨l⟩⟩ := s
 unfold strOfNums bytesOf
 simp only [List.map_map]
 congr 2
 conv => rhs; rw [← List.map_id l]
 refine List.map_congr_left (fun b _ => ?_)
 simp
theorem nil_text (s : ByteArray) (h : s.toList = []) : s = ⟨#[]⟩ := (Go.toList_nil_iff_emptyBytes s).1 h
theorem pone_put (t n : Int) (s : ByteArray) (p r : List Int) (ht : ¬ t = 0) (hv : vok t n s) (h0 : -9223372036854775808 ≤ n) (h1 : n < 9223372036854775808) :
  pone t (p ++ (pval t n s ++ r)) p.length = (n, s, (p.length : Int) + (pval t n s).length, true) := by
 unfold pone pval
 by_cases h6 : t = 6
 ·subst h6
  obtain ⟨rfl, hz⟩ := (vok_6 n s).1 hv
  rw [if_pos rfl, if_pos rfl, List.append_assoc]
  have hw := wget_puts p (bytesOf s ++ r) (s.size : Int) 4 (by decide)
  rw [show ((4 : Nat) : Int) = 4 from rfl] at hw
  have hw : wget (p ++ (wbytes s.size 4 ++ (bytesOf s ++ r))) p.length 4 = ((s.size : Int), (p.length : Int) + 4, true) := by
   rw [hw, show (2 : Int) ^ (8 * 4) = 4294967296 by decide, wrap_id (by omega) (by omega)]
   rw [Int.emod_eq_of_lt (by omega) (by omega)]
  rw [hw]
  simp only [List.length_append, wbytes_len, bytesOf_len]
  rw [if_pos ⟨trivial, by omega, by push_cast; omega⟩]
  have e : ((p ++ (wbytes s.size 4 ++ (bytesOf s ++ r))).take ((p.length : Int) + 4 + s.size).toNat).drop ((p.length : Int) + 4).toNat = bytesOf s := by
   rw [show ((p.length : Int) + 4 + s.size).toNat = (p ++ wbytes s.size 4).length + s.size by rw [List.length_append, wbytes_len]; omega, show ((p.length : Int) + 4).toNat = (p ++ wbytes s.size 4).length by rw [List.length_append, wbytes_len]; omega, ← List.append_assoc, List.take_length_add_append, List.drop_left, ← bytesOf_len s, List.take_left]
  rw [e, strOf_bytes]
  refine Prod.ext rfl (Prod.ext rfl (Prod.ext ?_ rfl))
  show (p.length : Int) + 4 + s.size = p.length + ((4 + s.size : Nat) : Int); push_cast; omega
 ·rw [if_neg h6, if_neg h6]
  by_cases h1' : t = 1
  ·subst h1'
   obtain ⟨hn, hs⟩ := (vok_1 n s).1 hv
   rw [if_pos rfl, if_pos rfl]
   have hw := wget_puts p r n 4 (by decide)
   rw [show ((4 : Nat) : Int) = 4 from rfl] at hw
   have hw : wget (p ++ (wbytes n 4 ++ r)) p.length 4 = (n % 4294967296, (p.length : Int) + 4, true) := by
    rw [hw, show (2 : Int) ^ (8 * 4) = 4294967296 by decide, wrap_id (by omega) (by omega)]
   rw [hw, nil_text s hs, wbytes_len]
   refine Prod.ext ?_ rfl
   show sgn32 (n % 4294967296) = n
   unfold sgn32; split <;> omega
  ·have hs : s.toList = [] := by
    rcases hv with hv | hv | hv | hv
    ·exact absurd hv.1 ht
    ·exact absurd hv.1 h1'
    ·exact hv.2
    ·exact absurd hv.1 h6
   rw [if_neg h1', if_neg h1']
   have hw := wget_puts p r n 8 (by decide)
   rw [show ((8 : Nat) : Int) = 8 from rfl] at hw
   have hw : wget (p ++ (wbytes n 8 ++ r)) p.length 8 = (n, (p.length : Int) + 8, true) := by
    rw [hw, show (2 : Int) ^ (8 * 8) = 18446744073709551616 by decide]
    refine Prod.ext ?_ rfl
    show wrap64 (n % 18446744073709551616) = n
    unfold wrap64; omega
   rw [hw, nil_text s hs, wbytes_len]; rfl
theorem prl_put (t : Int) (ht : ¬ t = 0) (r : List Int) : ∀ (l : List PV) (p : List Int) (acc : List PV), (∀ v ∈ l, vok t v.f0 v.f1) → (∀ v ∈ l, -9223372036854775808 ≤ v.f0 ∧ v.f0 < 9223372036854775808) →
  prl t (p ++ (flatV t l ++ r)) l.length p.length acc = (acc ++ l, (p.length : Int) + (flatV t l).length, true) := by
 intro l
 induction l with
 | nil => intro p acc _ _; simp [prl, flatV]
 | cons v l ih =>
  intro p acc hv hw
  have e : flatV t (v :: l) = pval t v.f0 v.f1 ++ flatV t l := by simp [flatV]
  have h := ih (p ++ pval t v.f0 v.f1) (acc ++ [v]) (fun x hx => hv x (by simp [hx])) (fun x hx => hw x (by simp [hx]))
  have h1 := pone_put t v.f0 v.f1 p (flatV t l ++ r) ht (hv v (by simp)) (hw v (by simp)).1 (hw v (by simp)).2
  rw [e, List.append_assoc, List.length_cons]
  show (if (pone t (p ++ (pval t v.f0 v.f1 ++ (flatV t l ++ r))) p.length).2.2.2 = true then _ else _) = _
  rw [h1, if_pos rfl]
  rw [List.append_assoc, List.length_append] at h
  have h2 : ((p.length + (pval t v.f0 v.f1).length : Nat) : Int) = (p.length : Int) + (pval t v.f0 v.f1).length := by push_cast; rfl
  rw [h2] at h
  show prl t (p ++ (pval t v.f0 v.f1 ++ (flatV t l ++ r))) l.length ((p.length : Int) + (pval t v.f0 v.f1).length) (acc ++ [⟨v.f0, v.f1⟩]) = _
  rw [h, List.append_assoc, List.length_append]
  refine Prod.ext rfl (Prod.ext ?_ rfl)
  show (p.length : Int) + (pval t v.f0 v.f1).length + (flatV t l).length = p.length + (((pval t v.f0 v.f1).length + (flatV t l).length : Nat) : Int); push_cast; omega
theorem prd_put (t : Int) (l : List PV) (p r : List Int) (h : valsP t l) (hw : ∀ v ∈ l, -9223372036854775808 ≤ v.f0 ∧ v.f0 < 9223372036854775808) :
  prd t (p ++ ((ppk t l).1 ++ r)) p.length l.length = (l, (p.length : Int) + (ppk t l).1.length, true) := by
 unfold prd ppk
 rw [if_pos h]
 have h2 := h.2.1
 by_cases h0 : t = 0
 ·subst h0
  simp only [if_true]
  rw [if_pos ⟨Or.inl trivial, by omega, by omega, by simp only [List.length_append]; omega⟩]
  have hlp : (packB (numsL l) 1).length = (l.length + 7) / 8 := by rw [packB_len]; simp [numsL]
  have hu := unpack_pack p (numsL l) r 1 (by decide) (fun n hn => by
   simp only [numsL, List.mem_map] at hn
   obtain ⟨v, hv, rfl⟩ := hn
   have := ((vok_0 _ _).1 (h.2.2 v hv)).1
   exact ⟨this.1, (blen_le _ _).2 (by omega)⟩)
  have hb : brd (p ++ (packB (numsL l) 1 ++ r)) p.length l.length 1 = (numsL l, (p.length : Int) + ((l.length : Int) * 1 + 7) / 8, true) := by
   unfold brd
   rw [if_pos (by simp only [List.length_append, hlp]; omega), Int.toNat_natCast, show (1 : Int).toNat = 1 from rfl, ← List.append_assoc]
   rw [show (numsL l).length = l.length by simp [numsL]] at hu
   rw [hu]
  rw [hb]
  refine Prod.ext ?_ (Prod.ext ?_ rfl)
  ·show ofNums (numsL l) = l
   unfold ofNums numsL
   rw [List.map_map]
   conv => rhs; rw [← List.map_id l]
   refine List.map_congr_left (fun v hv => ?_)
   have := nil_text v.f1 ((vok_0 _ _).1 (h.2.2 v hv)).2
   show (⟨v.f0, ⟨#[]⟩⟩ : PV) = v
   rw [← this]
  ·show (p.length : Int) + ((l.length : Int) * 1 + 7) / 8 = p.length + (packB (numsL l) 1).length
   rw [hlp]; omega
 ·simp only [if_neg h0]
  rw [if_pos ⟨h.1, by omega, by omega, by simp only [List.length_append]; omega⟩, Int.toNat_natCast]
  have := prl_put t h0 r l p [] h.2.2 hw
  simpa using this

def psz (t n : Int) (s : ByteArray) : Int := if vok t n s then (if t = 0 then 0 else if t = 1 then 4 else if t = 6 then 4 + s.size else 8) else -1
theorem impl_PlainSize_ev (t n : Int) (s : ByteArray) : impl_PlainSize.f t n s = some (psz t n s) := by
 unfold impl_PlainSize.f psz
 rw [impl_ValOk_ev]
 simp only [Option.bind_some]
 by_cases h : vok t n s
 ·rw [decide_eq_true h, if_pos rfl, if_pos h]
  by_cases h6 : t = 6
  ·subst h6
   have := ((vok_6 n s).1 h).2
   rw [if_pos rfl, wrap_id (by omega) (by omega)]; rfl
  ·have ht : t = 0 ∨ t = 1 ∨ t = 2 ∨ t = 5 := by
    rcases h with h | h | h | h
    ·omega
    ·omega
    ·omega
    ·exact absurd h.1 h6
   rw [if_neg h6]
   unfold impl_wideOf.f
   rcases ht with rfl | rfl | rfl | rfl <;> rfl
 ·rw [decide_eq_false h, if_neg (by simp), if_neg h]

theorem sameVals_self (a : List PV) (hn : a.length ≤ 1000000000) : Ev (fun k => laws_sameVals.f k a a) true := by
 have key : ∀ (d : Nat) (i : Int), 0 ≤ i → i ≤ a.length → (a.length : Int) - i = d → Ev (fun k => laws_sameVals.l0 k a a i) true := by
  intro d
  induction d with
  | zero =>
   intro i h0 h1 hd
   refine Ev.step (f := fun _ => some true) (fun k => ?_) (Ev.now _)
   simp only [laws_sameVals.l0]; rw [if_neg (by omega)]
  | succ d ih =>
   intro i h0 h1 hd
   refine Ev.step (f := fun k => laws_sameVals.l0 k a a (i + 1)) (fun k => ?_) (ih (i + 1) (by omega) (by omega) (by omega))
   simp only [laws_sameVals.l0]; rw [if_pos (by omega), if_pos h0, if_pos (by omega), if_neg (by simp), wrap_id (by omega) (by omega)]
 have h := key a.length 0 (by omega) (by omega) (by omega)
 unfold laws_sameVals.f
 simpa using h
theorem psz_pval (t n : Int) (s : ByteArray) (h : vok t n s) : psz t n s = if t = 0 then 0 else ((pval t n s).length : Int) := by
 unfold psz pval
 rw [if_pos h]
 by_cases h0 : t = 0
 ·rw [if_pos h0, if_pos h0]
 ·rw [if_neg h0, if_neg h0]
  by_cases h1 : t = 1
  ·subst h1; simp [wbytes_len]
  ·rw [if_neg h1]
   by_cases h6 : t = 6
   ·rw [if_pos h6, if_pos h6]; simp [wbytes_len, bytesOf_len]
   ·rw [if_neg h6, if_neg h6, if_neg h1]; simp [wbytes_len]
theorem pval_wf (t n : Int) (s : ByteArray) : ∀ x ∈ pval t n s, (Lit.int .u8 x).wf = true := by
 intro x hx
 unfold pval at hx
 split at hx
 ·rcases List.mem_append.1 hx with hx | hx
  ·exact wbytes_wf _ _ x hx
  ·unfold bytesOf at hx
   rw [List.mem_map] at hx
   obtain ⟨b, _, rfl⟩ := hx
   have := b.toNat_lt
   exact byte_wf (by omega) (by omega)
 ·split at hx
  ·exact wbytes_wf _ _ x hx
  ·exact wbytes_wf _ _ x hx
theorem ppk_wf (t : Int) (l : List PV) : ∀ x ∈ (ppk t l).1, (Lit.int .u8 x).wf = true := by
 intro x hx
 unfold ppk at hx
 by_cases h : valsP t l
 ·rw [if_pos h] at hx
  by_cases h0 : t = 0
  ·simp only [if_pos h0] at hx; exact packB_wf _ _ x hx
  ·simp only [if_neg h0, flatV, List.mem_flatMap] at hx
   obtain ⟨v, _, hv⟩ := hx
   exact pval_wf _ _ _ x hv
 ·rw [if_neg h] at hx; cases hx
theorem FnPlain : laws_FnPlain.Pure := by
 intro l hlen hsz hl
 refine Ev.rounds (g := fun k => laws_FnPlain.f k l) ?_
 unfold laws_FnPlain.f
 obtain ⟨B, hB⟩ : ∃ B : Nat, B = 140737488355328 := ⟨_, rfl⟩
 rw [← hB]
 simp only [laws_big_ev, Option.bind_some]
 by_cases hbig : (l.length : Int) > 1048576
 ·simp only [decide_eq_true hbig, if_true]; exact Ev.now _
 simp only [decide_eq_false hbig, Bool.false_eq_true, if_false]
 obtain ⟨t, r, e, lr, hw⟩ := spec_DrawPlainPack_ev l hl (by omega)
 refine Ev.bind e ?_
 refine Ev.bind (impl_PlainPack_ev t r (by omega)) ?_
 refine Ev.bind (spec_PlainPack_ev t r (by omega)) ?_
 simp only [bne_self_eq_false, Bool.false_eq_true, if_false]
 by_cases hv : valsP t r
 ·have hround := prd_put t r [1] [2] hv hw
  have hbl := ppk_len t r
  have hwf := ppk_wf t r
  have hb : ppk t r = ((if t = 0 then packB (numsL r) 1 else flatV t r), true) := by unfold ppk; rw [if_pos hv]
  have hb1 : (ppk t r).1 = if t = 0 then packB (numsL r) 1 else flatV t r := by rw [hb]
  have hb2 : (ppk t r).2 = true := by rw [hb]
  generalize ppk t r = q at hround hbl hwf hb1 hb2
  obtain ⟨b, ok⟩ := q
  simp only at hround hbl hwf hb1 hb2
  subst hb2
  refine ev_if rfl ?_
  simp only [Option.bind_some]
  refine ev_if (by simp only [List.length_cons, List.length_nil]; omega) ?_
  refine ev_if (by simp only [List.length_append, List.length_cons, List.length_nil]; omega) ?_
  have wb : ∀ y ∈ [1] ++ b ++ [2], (Lit.int .u8 y).wf = true := by
   intro y hy
   rcases List.mem_append.1 hy with hy | hy
   ·rcases List.mem_append.1 hy with hy | hy
    ·rw [List.mem_singleton] at hy; subst hy; decide
    ·exact hwf y hy
   ·rw [List.mem_singleton] at hy; subst hy; decide
  refine Ev.bind (impl_PlainRead_ev t _ 1 r.length wb (by simp only [List.length_append, List.length_cons, List.length_nil]; omega)) ?_
  rw [show prd t ([1] ++ b ++ [2]) 1 r.length = (r, 1 + (b.length : Int), true) by rw [List.append_assoc]; exact hround]
  have hr2 := hv.2.1
  have key : ∀ (d i : Nat), i + d = r.length → Ev (fun k => laws_FnPlain.l0 k t r b r (1 + (b.length : Int)) true (if t = 0 then 0 else ((flatV t (r.take i)).length : Int)) i) true := by
   intro d
   induction d with
   | zero =>
    intro i hi
    refine ev_succ' ?_
    simp only [laws_FnPlain.l0]
    simp only [if_neg (show ¬ (i : Int) < r.length by omega), if_true]
    rw [wrap_id (n := 1 + (b.length : Int)) (by omega) (by omega)]
    simp only [if_true]
    refine Ev.bind (sameVals_self r (by omega)) ?_
    simp only [if_true]
    rw [List.take_of_length_le (by omega)]
    by_cases h0 : t = 0
    ·simp only [if_pos h0, if_true]; exact Ev.now _
    ·simp only [if_neg h0]
     rw [if_neg h0] at hb1
     rw [hb1]; simp only [beq_self_eq_true]; exact Ev.now _
   | succ d ih =>
    intro i hi
    have h := ih (i + 1) (by omega)
    have hvi := hv.2.2 _ (List.getElem_mem (show i < r.length by omega))
    have hp := psz_pval t r[i].f0 r[i].f1 hvi
    have hpl := pval_len t r[i].f0 r[i].f1 (vok_size _ _ _ hvi)
    have hfl := flatV_len t (r.take i) (fun v hm => hv.2.2 v (List.mem_of_mem_take hm))
    rw [List.length_take] at hfl
    rw [List.take_succ_eq_append_getElem (by omega), flatV_snoc] at h
    refine Ev.step (fun k => ?_) h
    simp only [laws_FnPlain.l0]
    rw [if_pos (by omega), if_pos (by omega), rd_pv r i (by omega), impl_PlainSize_ev, hp]
    simp only [Option.bind_some]
    rw [wrap_id (n := (i : Int) + 1) (by omega) (by omega)]
    by_cases h0 : t = 0
    ·simp only [if_pos h0]; rw [show (0 : Int) + 0 = 0 from rfl, wrap_id (n := 0) (by decide) (by decide)]; push_cast; rfl
    ·simp only [if_neg h0]
     rw [wrap_id (by omega) (by omega), List.length_append]; push_cast; rfl
  have := key r.length 0 (by omega)
  simpa [flatV] using this
 ·have hb : ppk t r = ([], false) := by unfold ppk; rw [if_neg hv]
  rw [hb]
  simp only [Bool.false_eq_true, if_false]; exact Ev.now _

end Go.Proofs.Ytelgjjpojndlpaa.Pure
