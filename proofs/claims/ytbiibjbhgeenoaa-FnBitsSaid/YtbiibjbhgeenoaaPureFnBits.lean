/- The law FnBits answers true for every code. -/
import Derived.Test.YtbiibjbhgeenoaaPFnBitsx5
import Derived.Test.YtbiibjbhgeenoaaCom
namespace Go.Proofs.Ytbiibjbhgeenoaa.Pure
open Go Go.RowKit Go.Proofs.Ytbiibjbhgeenoaa.PFnBits Go.Proofs.YtbiibjbhgeenoaaW.PrintWords Go.Proofs.YtbiibjbhgeenoaaW.PrintLast Go.Proofs.YtbiibjbhgeenoaaW.PrintMore Go.Proofs.Ytbiibjbhgeenoaa.Com
set_option linter.unusedVariables false
set_option linter.unusedSimpArgs false

theorem spec_l1Byte_ev (l : List Int) (i h : Int) (hl : ∀ x ∈ l, (Lit.int .u8 x).wf = true) (hlen : l.length ≤ 1000000000000) (h0 : 0 ≤ i) (h1 : i ≤ l.length) :
    ∃ v i' h', spec_l1Byte.f l i h = some (v, i', h') ∧ 0 ≤ v ∧ v < 256 ∧ 0 ≤ i' ∧ i' ≤ l.length := by
  have m : ∀ x, Go.bits .and .i64 x 255 = x % 256 := fun x => and_mask x 8 (by decide)
  unfold spec_l1Byte.f
  by_cases hi : i < l.length
  · rw [if_pos hi, if_pos h0, m, m, wrap_id (n := i + 1) (by omega) (by omega)]
    exact ⟨_, _, _, rfl, by omega, by omega, by omega, by omega⟩
  · rw [if_neg hi, m]
    exact ⟨_, _, _, rfl, by omega, by omega, by omega, by omega⟩
theorem spec_l1Below_ev (l : List Int) (i h n : Int) (hl : ∀ x ∈ l, (Lit.int .u8 x).wf = true) (hlen : l.length ≤ 1000000000000) (h0 : 0 ≤ i) (h1 : i ≤ l.length) :
    ∃ v i' h', spec_l1Below.f l i h n = some (v, i', h') ∧ 0 ≤ v ∧ (0 < n → v < n) ∧ (n ≤ 0 → v = 0) ∧ 0 ≤ i' ∧ i' ≤ l.length := by
  unfold spec_l1Below.f
  by_cases hn : n ≤ 0
  · rw [if_pos hn]; exact ⟨_, _, _, rfl, by omega, by omega, by omega, h0, h1⟩
  · rw [if_neg hn]
    obtain ⟨v, i1, h2, e, a, b, c, d⟩ := spec_l1Byte_ev l i h hl hlen h0 h1
    by_cases hb : n ≤ 256
    · rw [if_pos hb]
      simp only [e, Option.bind_some]
      rw [if_neg (by omega)]
      refine ⟨_, _, _, rfl, ?_⟩
      rw [Int.tmod_eq_emod_of_nonneg a]
      exact ⟨Int.emod_nonneg _ (by omega), fun _ => Int.emod_lt_of_pos _ (by omega), by omega, c, d⟩
    · rw [if_neg hb]
      obtain ⟨v2, i2, h3, e2, a2, b2, c2, d2⟩ := spec_l1Byte_ev l i1 h2 hl hlen c d
      obtain ⟨v3, i3, h4, e3, a3, b3, c3, d3⟩ := spec_l1Byte_ev l i2 h3 hl hlen c2 d2
      obtain ⟨v4, i4, h5, e4, a4, b4, c4, d4⟩ := spec_l1Byte_ev l i3 h4 hl hlen c3 d3
      simp only [e, e2, e3, e4, Option.bind_some]
      rw [if_neg (by omega), wrap_id (n := v * 16777216) (by omega) (by omega), wrap_id (n := v2 * 65536) (by omega) (by omega), wrap_id (n := v3 * 256) (by omega) (by omega), wrap_id (n := v * 16777216 + v2 * 65536) (by omega) (by omega), wrap_id (n := v * 16777216 + v2 * 65536 + v3 * 256) (by omega) (by omega), wrap_id (by omega) (by omega)]
      refine ⟨_, _, _, rfl, ?_⟩
      rw [Int.tmod_eq_emod_of_nonneg (by omega)]
      exact ⟨Int.emod_nonneg _ (by omega), fun _ => Int.emod_lt_of_pos _ (by omega), by omega, c4, d4⟩
theorem spec_l1New_ev (l : List Int) (hlen : l.length ≤ 1000000000000) : ∃ h, Ev (fun k => spec_l1New.f k l) (l, 0, h) := by
  have key : ∀ (d : Nat) (i x : Int), 0 ≤ i → i ≤ l.length → (l.length : Int) - i = d → ∃ h, Ev (fun k => spec_l1New.l0 k l x i) (l, 0, h) := by
    intro d
    induction d with
    | zero =>
      intro i x h0 h1 hd
      refine ⟨x, Ev.step (f := fun _ => some (l, 0, x)) (fun k => ?_) (Ev.now _)⟩
      simp only [spec_l1New.l0]; rw [if_neg (by omega)]
    | succ d ih =>
      intro i x h0 h1 hd
      by_cases h4 : i < 4000
      · obtain ⟨h, e⟩ := ih (i + 1) (Go.bits .and .i64 (wrap64 ((wrap64 ((wrap64 (x * 131)) + (wrap64 (rd l i)))) + 7)) 1073741823) (by omega) (by omega) (by omega)
        refine ⟨h, Ev.step (fun k => ?_) e⟩
        simp only [spec_l1New.l0]; rw [if_pos (by omega), if_pos h4, if_pos h0, wrap_id (n := i + 1) (by omega) (by omega)]
      · refine ⟨x, Ev.step (f := fun _ => some (l, 0, x)) (fun k => ?_) (Ev.now _)⟩
        simp only [spec_l1New.l0]; rw [if_pos (by omega), if_neg h4]
  obtain ⟨h, e⟩ := key l.length 0 (wrap64 (11443 + (l.length : Int))) (by omega) (by omega) (by omega)
  exact ⟨h, e⟩
theorem laws_big_ev (l : List Int) : laws_big.f l = some (decide ((l.length : Int) > 1048576)) := rfl

theorem spec_l1PickInt_ev (l : List Int) (i h : Int) (p : List Int) (hl : ∀ x ∈ l, (Lit.int .u8 x).wf = true) (hlen : l.length ≤ 1000000000000) (h0 : 0 ≤ i) (h1 : i ≤ l.length) (hp : 0 < p.length) :
    ∃ v i' h', spec_l1PickInt.f l i h p = some (v, i', h') ∧ v ∈ p ∧ 0 ≤ i' ∧ i' ≤ l.length := by
  unfold spec_l1PickInt.f
  obtain ⟨v, i1, h2, e, a, b, _, c, d⟩ := spec_l1Below_ev l i h p.length hl hlen h0 h1
  have b := b (by omega)
  simp only [e, Option.bind_some]
  rw [if_pos a, if_pos b]
  refine ⟨_, _, _, rfl, ?_, c, d⟩
  rw [rd_eq' _ _ a (by omega)]; exact List.getElem_mem _

theorem spec_l1Once_ev (l : List Int) (i h n : Int) (hl : ∀ x ∈ l, (Lit.int .u8 x).wf = true) (hlen : l.length ≤ 1000000000000) (h0 : 0 ≤ i) (h1 : i ≤ l.length) :
    ∃ v i' h', spec_l1Once.f l i h n = some (v, i', h') ∧ 0 ≤ i' ∧ i' ≤ l.length := by
  unfold spec_l1Once.f
  obtain ⟨v, i1, g1, e, _, _, _, c, d⟩ := spec_l1Below_ev l i h n hl hlen h0 h1
  simp only [e, Option.bind_some]
  exact ⟨_, _, _, rfl, c, d⟩

theorem spec_l1DrawWidth_ev (l : List Int) (i h : Int) (hl : ∀ x ∈ l, (Lit.int .u8 x).wf = true) (hlen : l.length ≤ 1000000000000) (h0 : 0 ≤ i) (h1 : i ≤ l.length) :
    ∃ v i' h', spec_l1DrawWidth.f l i h = some (v, i', h') ∧ -1 ≤ v ∧ v ≤ 63 ∧ 0 ≤ i' ∧ i' ≤ l.length := by
  unfold spec_l1DrawWidth.f
  obtain ⟨o, i1, g1, e1, c1, d1⟩ := spec_l1Once_ev l i h 8 hl hlen h0 h1
  simp only [e1, Option.bind_some]
  cases o with
  | true =>
    obtain ⟨v, i2, g2, e2, hm, c2, d2⟩ := spec_l1PickInt_ev l i1 g1 [(-1), 0, 62, 63, 31, 32] hl hlen c1 d1 (by simp)
    simp only [if_true, e2, Option.bind_some]
    simp only [List.mem_cons, List.not_mem_nil, or_false] at hm
    exact ⟨_, _, _, rfl, by omega, by omega, c2, d2⟩
  | false =>
    obtain ⟨v, i2, g2, e2, a2, b2, _, c2, d2⟩ := spec_l1Below_ev l i1 g1 14 hl hlen c1 d1
    have b2 := b2 (by decide)
    simp only [Bool.false_eq_true, if_false, e2, Option.bind_some]
    exact ⟨_, _, _, rfl, by omega, by omega, c2, d2⟩
theorem spec_l1Max0_ev (w : Int) : ∃ m, spec_l1Max.f w 0 = some m ∧ 0 ≤ m ∧ (w ≤ 63 → m ≤ 63) := by
  unfold spec_l1Max.f
  by_cases h : w > 0
  · rw [if_pos h]; exact ⟨_, rfl, by omega, by omega⟩
  · rw [if_neg h]; exact ⟨_, rfl, by omega, by omega⟩
theorem spec_l1Min_ev (a b : Int) (h0 : 0 ≤ a) (hb : 0 ≤ b) : ∃ m, spec_l1Min.f a b = some m ∧ 0 ≤ m ∧ m ≤ b := by
  unfold spec_l1Min.f
  by_cases h : a < b
  · rw [if_pos h]; exact ⟨_, rfl, by omega, by omega⟩
  · rw [if_neg h]; exact ⟨_, rfl, by omega, by omega⟩
theorem spec_DrawBitsPack_ev (l : List Int) (hl : ∀ x ∈ l, (Lit.int .u8 x).wf = true) (hlen : l.length ≤ 1000000000000) :
    ∃ r w, Ev (fun k => spec_DrawBitsPack.f k l) (r, w) ∧ (∀ x ∈ r, (Lit.int .i64 x).wf = true) ∧ r.length ≤ 3000 ∧ -1 ≤ w ∧ w ≤ 63 := by
  obtain ⟨g0, e0⟩ := spec_l1New_ev l hlen
  obtain ⟨w, i1, g1, e1, w0, w1, c1, d1⟩ := spec_l1DrawWidth_ev l 0 g0 hl hlen (by omega) (by omega)
  obtain ⟨n, i2, g2, e2, n0, n1, _, c2, d2⟩ := spec_l1Below_ev l i1 g1 14 hl hlen c1 d1
  have n1 := n1 (by decide)
  have key : ∀ (d : Nat) (j : Int) (acc : List Int) (i h : Int), 0 ≤ j → j + d = n → acc.length ≤ 3000 - d → (∀ x ∈ acc, (Lit.int .i64 x).wf = true) → 0 ≤ i → i ≤ l.length →
      ∃ r, Ev (fun k => spec_DrawBitsPack.l0 k w acc n j l i h) (r, w) ∧ (∀ x ∈ r, (Lit.int .i64 x).wf = true) ∧ r.length ≤ 3000 := by
    intro d
    induction d with
    | zero =>
      intro j acc i h hj hd hacc hwf hi0 hi1
      obtain ⟨o, i3, g3, e3, c3, d3⟩ := spec_l1Once_ev l i h 40 hl hlen hi0 hi1
      cases o with
      | true =>
        obtain ⟨v, i4, g4, e4, a4, b4, _⟩ := spec_l1Below_ev l i3 g3 2 hl hlen c3 d3
        have b4 := b4 (by decide)
        refine ⟨List.replicate (2000 + v).toNat 0, Ev.step (f := fun _ => some (List.replicate (2000 + v).toNat 0, w)) (fun k => ?_) (Ev.now _), ?_, by simp; omega⟩
        · simp only [spec_DrawBitsPack.l0]
          rw [if_neg (by omega), e3]
          simp only [Option.bind_some, if_true, e4]
          rw [wrap_id (n := 2000 + v) (by omega) (by omega), if_pos (by omega), if_pos (by omega)]
        · intro x hx
          have := List.eq_of_mem_replicate hx
          subst this; exact wf64_mk (by decide) (by decide)
      | false =>
        refine ⟨acc, Ev.step (f := fun _ => some (acc, w)) (fun k => ?_) (Ev.now _), hwf, by omega⟩
        simp only [spec_DrawBitsPack.l0]
        rw [if_neg (by omega), e3]
        simp only [Option.bind_some, Bool.false_eq_true, if_false]
    | succ d ih =>
      intro j acc i h hj hd hacc hwf hi0 hi1
      obtain ⟨m, em, m0, m1⟩ := spec_l1Max0_ev w
      obtain ⟨m2, em2, m20, m21⟩ := spec_l1Min_ev m 30 m0 (by decide)
      obtain ⟨m3, em3, m30, m31⟩ := spec_l1Min_ev m 61 m0 (by decide)
      have hsh : 0 < shl .i64 1 m2 ∧ shl .i64 1 m2 < 9223372036854775808 := by
        rw [shl64 _ _ m20 (by omega)]
        have hp : (0 : Int) < 2 ^ m2.toNat := Int.pow_pos (by decide)
        have hp2 : (2 : Int) ^ m2.toNat ≤ 1073741824 := by
          have : (2 : Nat) ^ m2.toNat ≤ 2 ^ 30 := Nat.pow_le_pow_right (by decide) (by omega)
          have h2 : ((2 ^ m2.toNat : Nat) : Int) ≤ ((2 ^ 30 : Nat) : Int) := by exact_mod_cast this
          simpa using h2
        rw [wrap_id (by omega) (by omega)]; omega
      obtain ⟨x, i3, g3, e3, a3, b3, _, c3, d3⟩ := spec_l1Below_ev l i h (shl .i64 1 m2) hl hlen hi0 hi1
      have b3 := b3 hsh.1
      obtain ⟨o, i4, g4, e4, c4, d4⟩ := spec_l1Once_ev l i3 g3 25 hl hlen c3 d3
      cases o with
      | true =>
        obtain ⟨v, i5, g5, e5, hm, c5, d5⟩ := spec_l1PickInt_ev l i4 g4 [(-1), shl .i64 1 m3, 9223372036854775807] hl hlen c4 d4 (by simp)
        have hv : (Lit.int .i64 v).wf = true := by
          simp only [List.mem_cons, List.not_mem_nil, or_false] at hm
          rcases hm with rfl | rfl | rfl
          · exact wf64_mk (by decide) (by decide)
          · rw [shl64 _ _ m30 (by omega)]; exact wf64_mk (wrap_rng _).1 (wrap_rng _).2
          · exact wf64_mk (by decide) (by decide)
        obtain ⟨r, er, hr, lr⟩ := ih (j + 1) (acc ++ [v]) i5 g5 (by omega) (by omega) (by simp; omega) (by
          intro y hy
          rcases List.mem_append.1 hy with hy | hy
          · exact hwf y hy
          · rw [List.mem_singleton] at hy; subst hy; exact hv) c5 d5
        refine ⟨r, Ev.step (fun k => ?_) er, hr, lr⟩
        simp only [spec_DrawBitsPack.l0]
        rw [if_pos (by omega), em]
        simp only [Option.bind_some, em2]
        rw [if_pos m20, e3]
        simp only [Option.bind_some, e4, if_true, em3]
        rw [if_pos m30, e5]
        simp only [Option.bind_some]
        rw [if_pos (by omega), wrap_id (n := j + 1) (by omega) (by omega)]
      | false =>
        obtain ⟨r, er, hr, lr⟩ := ih (j + 1) (acc ++ [x]) i4 g4 (by omega) (by omega) (by simp; omega) (by
          intro y hy
          rcases List.mem_append.1 hy with hy | hy
          · exact hwf y hy
          · rw [List.mem_singleton] at hy; subst hy; exact wf64_mk (by omega) (by omega)) c4 d4
        refine ⟨r, Ev.step (fun k => ?_) er, hr, lr⟩
        simp only [spec_DrawBitsPack.l0]
        rw [if_pos (by omega), em]
        simp only [Option.bind_some, em2]
        rw [if_pos m20, e3]
        simp only [Option.bind_some, e4, Bool.false_eq_true, if_false]
        rw [if_pos (by omega), wrap_id (n := j + 1) (by omega) (by omega)]
  obtain ⟨r, er, hr, lr⟩ := key n.toNat 0 [] i2 g2 (by omega) (by omega) (by simp) (by simp) c2 d2
  refine ⟨r, w, ?_, hr, lr, w0, w1⟩
  unfold spec_DrawBitsPack.f
  refine Ev.bind e0 ?_
  simp only [e1, e2, Option.bind_some]
  exact er

theorem impl_within_ev (x a b : Int) : impl_within.f x a b = some (decide (a ≤ x ∧ x ≤ b)) := by
  unfold impl_within.f
  by_cases h : x ≥ a
  · rw [if_pos h]; congr 1; simp [show a ≤ x from h]
  · rw [if_neg h]; congr 1; simp [show ¬ a ≤ x from h]

theorem len8_ev (i : Int) (h0 : 0 ≤ i) (h : i < 256) : bt (⟨#[0, 1, 2, 2, 3, 3, 3, 3, 4, 4, 4, 4, 4, 4, 4, 4, 5, 5, 5, 5, 5, 5, 5, 5, 5, 5, 5, 5, 5, 5, 5, 5, 6, 6, 6, 6, 6, 6, 6, 6, 6, 6, 6, 6, 6, 6, 6, 6, 6, 6, 6, 6, 6, 6, 6, 6, 6, 6, 6, 6, 6, 6, 6, 6, 7, 7, 7, 7, 7, 7, 7, 7, 7, 7, 7, 7, 7, 7, 7, 7, 7, 7, 7, 7, 7, 7, 7, 7, 7, 7, 7, 7, 7, 7, 7, 7, 7, 7, 7, 7, 7, 7, 7, 7, 7, 7, 7, 7, 7, 7, 7, 7, 7, 7, 7, 7, 7, 7, 7, 7, 7, 7, 7, 7, 7, 7, 7, 7, 8, 8, 8, 8, 8, 8, 8, 8, 8, 8, 8, 8, 8, 8, 8, 8, 8, 8, 8, 8, 8, 8, 8, 8, 8, 8, 8, 8, 8, 8, 8, 8, 8, 8, 8, 8, 8, 8, 8, 8, 8, 8, 8, 8, 8, 8, 8, 8, 8, 8, 8, 8, 8, 8, 8, 8, 8, 8, 8, 8, 8, 8, 8, 8, 8, 8, 8, 8, 8, 8, 8, 8, 8, 8, 8, 8, 8, 8, 8, 8, 8, 8, 8, 8, 8, 8, 8, 8, 8, 8, 8, 8, 8, 8, 8, 8, 8, 8, 8, 8, 8, 8, 8, 8, 8, 8, 8, 8, 8, 8, 8, 8, 8, 8, 8, 8, 8, 8, 8, 8, 8, 8, 8, 8, 8, 8, 8, 8]⟩ : ByteArray) i = blen i.toNat := by
  have e : ∀ j : Nat, j < 256 → bt (⟨#[0, 1, 2, 2, 3, 3, 3, 3, 4, 4, 4, 4, 4, 4, 4, 4, 5, 5, 5, 5, 5, 5, 5, 5, 5, 5, 5, 5, 5, 5, 5, 5, 6, 6, 6, 6, 6, 6, 6, 6, 6, 6, 6, 6, 6, 6, 6, 6, 6, 6, 6, 6, 6, 6, 6, 6, 6, 6, 6, 6, 6, 6, 6, 6, 7, 7, 7, 7, 7, 7, 7, 7, 7, 7, 7, 7, 7, 7, 7, 7, 7, 7, 7, 7, 7, 7, 7, 7, 7, 7, 7, 7, 7, 7, 7, 7, 7, 7, 7, 7, 7, 7, 7, 7, 7, 7, 7, 7, 7, 7, 7, 7, 7, 7, 7, 7, 7, 7, 7, 7, 7, 7, 7, 7, 7, 7, 7, 7, 8, 8, 8, 8, 8, 8, 8, 8, 8, 8, 8, 8, 8, 8, 8, 8, 8, 8, 8, 8, 8, 8, 8, 8, 8, 8, 8, 8, 8, 8, 8, 8, 8, 8, 8, 8, 8, 8, 8, 8, 8, 8, 8, 8, 8, 8, 8, 8, 8, 8, 8, 8, 8, 8, 8, 8, 8, 8, 8, 8, 8, 8, 8, 8, 8, 8, 8, 8, 8, 8, 8, 8, 8, 8, 8, 8, 8, 8, 8, 8, 8, 8, 8, 8, 8, 8, 8, 8, 8, 8, 8, 8, 8, 8, 8, 8, 8, 8, 8, 8, 8, 8, 8, 8, 8, 8, 8, 8, 8, 8, 8, 8, 8, 8, 8, 8, 8, 8, 8, 8, 8, 8, 8, 8, 8, 8, 8, 8]⟩ : ByteArray) (j : Int) = blen j := by decide +kernel
  have := e i.toNat (by omega)
  rwa [Int.toNat_of_nonneg h0] at this
set_option maxRecDepth 100000 in
theorem bits_Len64_j (n : Nat) (b : Int) (hb : 0 ≤ b) (hb2 : b ≤ 100) (hn : n < 4294967296) : Ev (fun k => bits_Len64.j0 k n b) (b + blen n) := by
  refine Ev.step (f := fun _ => some (b + blen n)) (fun k => ?_) (Ev.now _)
  have h8 : ∀ m : Nat, m < 256 → (blen m : Int) ≤ 8 := fun m hm => by have := (blen_le m 8).2 hm; omega
  rw [bits_Len64.j0]
  by_cases h1 : n < 65536
  · rw [if_neg (by omega)]
    by_cases h2 : n < 256
    · rw [if_neg (by omega), if_pos (by omega), if_pos (by omega), show ((n : Int) % 256) = n by omega, len8_ev _ (by omega) (by omega), show ((n : Int)).toNat = n by omega]
      have := h8 n h2
      rw [wrap_id (n := (blen n : Int)) (by omega) (by omega), wrap_id (by omega) (by omega)]
    · have e := blen_div n 8 (by omega)
      have hlt : n / 2 ^ 8 < 256 := by omega
      rw [if_pos (by omega), if_pos (by omega), if_pos (by omega), len8_ev _ (by omega) (by omega), show ((n : Int) / 256 % 256).toNat = n / 2 ^ 8 by omega]
      have := h8 _ hlt
      rw [wrap_id (n := (blen (n / 2 ^ 8) : Int)) (by omega) (by omega), wrap_id (n := b + 8) (by omega) (by omega), wrap_id (by omega) (by omega), e]
      congr 1; push_cast; omega
  · rw [if_pos (by omega)]
    by_cases h2 : n / 65536 < 256
    · have e := blen_div n 16 (by omega)
      rw [if_neg (by omega), if_pos (by omega), if_pos (by omega), len8_ev _ (by omega) (by omega), show ((n : Int) / 65536 % 256).toNat = n / 2 ^ 16 by omega]
      have := h8 (n / 2 ^ 16) (by omega)
      rw [wrap_id (n := (blen (n / 2 ^ 16) : Int)) (by omega) (by omega), wrap_id (n := b + 16) (by omega) (by omega), wrap_id (by omega) (by omega), e]
      congr 1; push_cast; omega
    · have e := blen_div n 24 (by omega)
      rw [if_pos (by omega), if_pos (by omega), if_pos (by omega), len8_ev _ (by omega) (by omega), show ((n : Int) / 65536 / 256 % 256).toNat = n / 2 ^ 24 by omega]
      have := h8 (n / 2 ^ 24) (by omega)
      rw [wrap_id (n := (blen (n / 2 ^ 24) : Int)) (by omega) (by omega), wrap_id (n := b + 16) (by omega) (by omega), wrap_id (n := b + 16 + 8) (by omega) (by omega), wrap_id (by omega) (by omega), e]
      congr 1; push_cast; omega
theorem bits_Len64_ev (n : Nat) (h : n < 18446744073709551616) : Ev (fun k => bits_Len64.f k n) (blen n) := by
  unfold bits_Len64.f
  by_cases h1 : n < 4294967296
  · refine Ev.congr (fun k => if_neg (show ¬ (n : Int) ≥ 4294967296 by omega)) ?_
    have := bits_Len64_j n 0 (by omega) (by omega) h1
    rw [Int.zero_add] at this; exact this
  · refine Ev.congr (fun k => if_pos (show (n : Int) ≥ 4294967296 by omega)) ?_
    have e := blen_div n 32 (by omega)
    have := bits_Len64_j (n / 4294967296) 32 (by omega) (by omega) (by omega)
    rw [e, show n / 2 ^ 32 = n / 4294967296 by rfl]
    rw [show ((blen (n / 4294967296) + 32 : Nat) : Int) = 32 + (blen (n / 4294967296) : Int) by omega]
    rw [show ((n / 4294967296 : Nat) : Int) = (n : Int) / 4294967296 by omega] at this
    exact this
theorem impl_widthOf_ev (n : Int) (h0 : 0 ≤ n) (h : n < 9223372036854775808) : Ev (fun k => impl_widthOf.f k n) (blen n.toNat) := by
  unfold impl_widthOf.f
  rw [uwrap_id h0 (by omega)]
  have := bits_Len64_ev n.toNat (by omega)
  rw [Int.toNat_of_nonneg h0] at this
  refine Ev.bind this ?_
  exact Ev.now _

theorem impl_packed_ev (l : List Int) (w : Nat) (hw : w ≤ 64) (hlen : l.length ≤ 1000000000) :
    Ev (fun k => impl_packed.f k l w) (packB l w) := by
  have hmul : l.length * w ≤ 64000000000 := by
    calc l.length * w ≤ 1000000000 * 64 := Nat.mul_le_mul hlen hw
      _ = 64000000000 := by decide
  have hmulc : ((l.length * w : Nat) : Int) = (l.length : Int) * w := by push_cast; rfl
  have inner : ∀ (d i j : Nat), i < l.length → j + d = w →
      ∀ R : List Int, Ev (fun k => impl_packed.l0 k w (bofB (upTo (pbit l w) ((i + 1) * w)) ((l.length * w + 7) / 8)) l l.length ((i + 1 : Nat) : Int)) R →
      Ev (fun k => impl_packed.l1 k w (bofB (upTo (pbit l w) (i * w + j)) ((l.length * w + 7) / 8)) i (rd l i) l l.length i w j) R := by
    intro d
    induction d with
    | zero =>
      intro i j hi hj R h
      refine Ev.step (fun k => ?_) h
      simp only [impl_packed.l1]
      rw [if_neg (by omega), wrap_id (n := (i : Int) + 1) (by omega) (by omega), show j = w by omega, Nat.succ_mul]
      push_cast; rfl
    | succ d ih =>
      intro i j hi hj R h
      have hP : i * w + j < l.length * w := by
        have : (i + 1) * w ≤ l.length * w := Nat.mul_le_mul_right w hi
        rw [Nat.succ_mul] at this; omega
      have hc : ((i * w : Nat) : Int) = (i : Int) * w := by push_cast; rfl
      refine Ev.step (fun k => ?_) (ih i (j + 1) hi (by omega) R h)
      simp only [impl_packed.l1]
      rw [if_pos (by omega), ← hc, wrap_id (n := ((i * w : Nat) : Int)) (by omega) (by omega), wrap_id (n := ((i * w : Nat) : Int) + j) (by omega) (by omega)]
      rw [Int.tdiv_eq_ediv_of_nonneg (by omega), Int.tmod_eq_emod_of_nonneg (by omega), wrap_id (n := (((i * w : Nat) : Int) + j) / 8) (by omega) (by omega)]
      rw [if_pos (by omega), if_pos (by rw [bofB_len]; omega), if_pos (by omega), if_pos (by omega), wrap_id (n := (j : Int) + 1) (by omega) (by omega)]
      have hb : Go.bits .and .i64 (shr .i64 (rd l i) j) 1 = pbit l w (i * w + j) := by
        rw [and_one, shr64 _ _ (by omega) (by omega), pbit_at l w i j (by omega)]; rfl
      have hbits := pbit_bits l w (i * w + j)
      rw [hb, show pbit l w (i * w + j) % 256 = pbit l w (i * w + j) by omega, shl8 _ _ (by omega) (by omega) hbits]
      rw [rd_bofB _ _ _ (by omega) (by omega)]
      have hst := byteOf_step (pbit_bits l w) ((i * w + j) / 8) ((i * w + j) % 8) (by omega)
      rw [show 8 * ((i * w + j) / 8) + (i * w + j) % 8 = i * w + j by omega] at hst
      rw [show ((((i * w : Nat) : Int) + j) % 8).toNat = (i * w + j) % 8 by omega, show ((((i * w : Nat) : Int) + j) / 8).toNat = (i * w + j) / 8 by omega]
      rw [or8 _ _ _ (by omega) hst.1 hst.2.1 hbits, ← hst.2.2, bofB_set _ _ _ _ rfl]
      push_cast; rfl
  have outer : ∀ (d i : Nat), i + d = l.length → Ev (fun k => impl_packed.l0 k w (bofB (upTo (pbit l w) (i * w)) ((l.length * w + 7) / 8)) l l.length i) (packB l w) := by
    intro d
    induction d with
    | zero =>
      intro i hi
      refine Ev.step (f := fun _ => some (packB l w)) (fun k => ?_) (Ev.now _)
      simp only [impl_packed.l0]; rw [if_neg (by omega), show i = l.length by omega]; rfl
    | succ d ih =>
      intro i hi
      refine Ev.step (fun k => ?_) (inner w i 0 (by omega) (by omega) _ (ih (i + 1) (by omega)))
      simp only [impl_packed.l0]; rw [if_pos (by omega), if_pos (by omega), if_pos (by omega)]; rfl
  have h := outer l.length 0 (by omega)
  unfold impl_packed.f
  rw [← hmulc, wrap_id (n := ((l.length * w : Nat) : Int)) (by omega) (by omega), wrap_id (n := ((l.length * w : Nat) : Int) + 7) (by omega) (by omega), Int.tdiv_eq_ediv_of_nonneg (by omega), wrap_id (by omega) (by omega)]
  simp only [if_pos (show (0 : Int) ≤ (((l.length * w : Nat) : Int) + 7) / 8 by omega), if_pos (show ((((l.length * w : Nat) : Int) + 7) / 8).toNat ≤ 281474976710656 by omega)]
  rw [show ((((l.length * w : Nat) : Int) + 7) / 8).toNat = (l.length * w + 7) / 8 by omega, bofB_zero (pbit l w)]
  simpa using h

/-- A number that BitsPack takes. -/
def fits (w : Int) (n : Int) : Prop := 0 ≤ n ∧ (blen n.toNat : Int) ≤ w
instance (w n : Int) : Decidable (fits w n) := by unfold fits; exact inferInstance
/-- What BitsPack answers. -/
def bpk (l : List Int) (w : Int) : List Int × Bool := if l.length ≤ 2000 ∧ 0 ≤ w ∧ w ≤ 62 ∧ ∀ n ∈ l, fits w n then (packB l w.toNat, true) else ([], false)
theorem impl_BitsPack_ev (l : List Int) (w : Int) (hl : ∀ x ∈ l, (Lit.int .i64 x).wf = true) : Ev (fun k => impl_BitsPack.f k l w) (bpk l w) := by
  have bad : ∀ l' w', Ev (fun k => impl_BitsPack.j0 k l' w' true) ([], false) := fun l' w' => Ev.step (f := fun _ => some ([], false)) (fun k => by simp only [impl_BitsPack.j0]; rw [if_pos trivial]) (Ev.now _)
  unfold impl_BitsPack.f bpk
  by_cases h2 : l.length ≤ 2000
  · simp only [if_neg (show ¬ (l.length : Int) > 2000 by omega), impl_within_ev, Option.bind_some]
    by_cases hw : 0 ≤ w ∧ w ≤ 62
    · simp only [decide_eq_true hw, Bool.not_true]
      have key : ∀ (d i : Nat), i + d = l.length → (∀ n ∈ l.take i, fits w n) → Ev (fun k => impl_BitsPack.l0 k l w l l.length i) (if ∀ n ∈ l, fits w n then (packB l w.toNat, true) else ([], false)) := by
        intro d
        induction d with
        | zero =>
          intro i hi hf
          rw [show i = l.length by omega, List.take_length] at hf
          rw [if_pos hf]
          refine Ev.step (f := fun k => (impl_packed.f k l w).bind fun t => some (t, true)) (fun k => ?_) ?_
          · simp only [impl_BitsPack.l0]; rw [if_neg (by omega)]
          · have := impl_packed_ev l w.toNat (by omega) (by omega)
            rw [Int.toNat_of_nonneg hw.1] at this
            refine Ev.bind this ?_
            exact Ev.now _
        | succ d ih =>
          intro i hi hf
          have hm : rd l i = l[i] := rd_eq l i (by omega)
          have hmem : l[i] ∈ l := List.getElem_mem _
          have hwf := wf64 (hl _ hmem)
          by_cases hn : l[i] < 0
          · rw [if_neg (fun h => by have := (h _ hmem).1; omega)]
            refine Ev.step (f := fun _ => some ([], false)) (fun k => ?_) (Ev.now _)
            simp only [impl_BitsPack.l0]; rw [if_pos (by omega), if_pos (by omega), if_pos (by omega), hm, if_pos hn]
          · by_cases hb : (blen (l[i]).toNat : Int) ≤ w
            · have hnext := ih (i + 1) (by omega) (by
                intro n hn2
                rw [List.take_succ_eq_append_getElem (by omega)] at hn2
                rcases List.mem_append.1 hn2 with h | h
                · exact hf n h
                · rw [List.mem_singleton] at h; subst h; exact ⟨by omega, hb⟩)
              refine Ev.step (f := fun k => (impl_widthOf.f k l[i]).bind fun t => if t > w then some ([], false) else impl_BitsPack.l0 k l w l l.length ((i + 1 : Nat) : Int)) (fun k => ?_) ?_
              · simp only [impl_BitsPack.l0]; rw [if_pos (by omega), if_pos (by omega), if_pos (by omega), hm, if_neg hn, wrap_id (by omega) (by omega)]; push_cast; rfl
              · refine Ev.bind (impl_widthOf_ev _ (by omega) hwf.2) ?_
                simp only [if_neg (show ¬ (blen (l[i]).toNat : Int) > w by omega)]; exact hnext
            · rw [if_neg (fun h => hb (h _ hmem).2)]
              refine Ev.step (f := fun k => (impl_widthOf.f k l[i]).bind fun t => if t > w then some ([], false) else impl_BitsPack.l0 k l w l l.length ((i + 1 : Nat) : Int)) (fun k => ?_) ?_
              · simp only [impl_BitsPack.l0]; rw [if_pos (by omega), if_pos (by omega), if_pos (by omega), hm, if_neg hn, wrap_id (by omega) (by omega)]; push_cast; rfl
              · refine Ev.bind (impl_widthOf_ev _ (by omega) hwf.2) ?_
                simp only [if_pos (show (blen (l[i]).toNat : Int) > w by omega)]; exact Ev.now _
      have h := key l.length 0 (by omega) (by simp)
      have e : (if l.length ≤ 2000 ∧ 0 ≤ w ∧ w ≤ 62 ∧ ∀ n ∈ l, fits w n then (packB l w.toNat, true) else ([], false)) = (if ∀ n ∈ l, fits w n then (packB l w.toNat, true) else ([], false)) := by
        by_cases hf : ∀ n ∈ l, fits w n
        · rw [if_pos ⟨h2, hw.1, hw.2, hf⟩, if_pos hf]
        · rw [if_neg (fun h => hf h.2.2.2), if_neg hf]
      rw [e]
      refine Ev.step (fun k => ?_) h
      simp only [impl_BitsPack.j0]; rw [if_neg (by simp)]; rfl
    · simp only [decide_eq_false hw, Bool.not_false]
      rw [if_neg (fun h => hw ⟨h.2.1, h.2.2.1⟩)]; exact bad _ _
  · simp only [if_pos (show (l.length : Int) > 2000 by omega)]
    rw [if_neg (fun h => h2 h.1)]; exact bad _ _

theorem spec_l1In_ev (x a b : Int) : spec_l1In.f x a b = some (decide (a ≤ x ∧ x ≤ b)) := by
  unfold spec_l1In.f
  by_cases h : x ≥ a
  · rw [if_pos h]; congr 1; simp [show a ≤ x from h]
  · rw [if_neg h]; congr 1; simp [show ¬ a ≤ x from h]

theorem spec_BitsSize_ev (n w : Int) : spec_BitsSize.f n w = some (if 0 ≤ n ∧ n ≤ 2000 ∧ 0 ≤ w ∧ w ≤ 62 then (n * w + 7) / 8 else -1) := by
  unfold spec_BitsSize.f
  simp only [spec_l1In_ev, Option.bind_some]
  by_cases h1 : 0 ≤ n ∧ n ≤ 2000
  · simp only [decide_eq_true h1, if_true]
    by_cases h2 : 0 ≤ w ∧ w ≤ 62
    · simp only [decide_eq_true h2, if_true]
      have hm0 : 0 ≤ n * w := Int.mul_nonneg h1.1 h2.1
      have hm : n * w ≤ 2000 * 62 := Int.mul_le_mul h1.2 h2.2 h2.1 (by omega)
      rw [if_pos ⟨h1.1, h1.2, h2.1, h2.2⟩, wrap_id (n := n * w) (by omega) (by omega), wrap_id (n := n * w + 7) (by omega) (by omega), Int.tdiv_eq_ediv_of_nonneg (by omega), wrap_id (by omega) (by omega)]
    · simp only [decide_eq_false h2, Bool.false_eq_true, if_false]
      rw [if_neg (fun h => h2 h.2.2)]
  · simp only [decide_eq_false h1, Bool.false_eq_true, if_false]
    rw [if_neg (fun h => h1 ⟨h.1, h.2.1⟩)]

theorem shr_zero_iff (n : Int) (w : Nat) (h0 : 0 ≤ n) (hw : w ≤ 62) : (shr .i64 n w != 0) = !decide ((blen n.toNat : Int) ≤ w) := by
  rw [shr64 _ _ (by omega) (by omega), show (w : Int).toNat = w by omega]
  have hp : (0 : Int) < 2 ^ w := Int.pow_pos (by decide)
  have hc : ((2 ^ w : Nat) : Int) = 2 ^ w := by simp
  by_cases h : (blen n.toNat : Int) ≤ w
  · rw [decide_eq_true h]
    have := (blen_le n.toNat w).1 (by omega)
    have hlt : n < 2 ^ w := by rw [← hc]; omega
    rw [Int.ediv_eq_zero_of_lt h0 hlt]; rfl
  · rw [decide_eq_false h]
    have : ¬ n.toNat < 2 ^ w := fun hh => h (by have := (blen_le n.toNat w).2 hh; omega)
    have hge : (2 : Int) ^ w ≤ n := by rw [← hc]; omega
    have : 1 ≤ n / 2 ^ w := by rw [Int.le_ediv_iff_mul_le hp]; omega
    simp; omega

theorem spec_BitsPack_ev (l : List Int) (w : Int) (hl : ∀ x ∈ l, (Lit.int .i64 x).wf = true) (hlen : l.length ≤ 1000000000) : Ev (fun k => spec_BitsPack.f k l w) (bpk l w) := by
  unfold spec_BitsPack.f bpk
  simp only [spec_BitsSize_ev, Option.bind_some]
  by_cases hc : l.length ≤ 2000 ∧ 0 ≤ w ∧ w ≤ 62
  · obtain ⟨h2, hw0, hw1⟩ := id hc
    obtain ⟨v, rfl⟩ := Int.eq_ofNat_of_zero_le hw0
    have hv : v ≤ 62 := by omega
    rw [if_pos (show 0 ≤ (l.length : Int) ∧ (l.length : Int) ≤ 2000 ∧ 0 ≤ (v : Int) ∧ (v : Int) ≤ 62 by omega)]
    have hmul : l.length * v ≤ 124000 := Nat.mul_le_mul h2 hv
    have hmulc : ((l.length : Int) * (v : Int)) = ((l.length * v : Nat) : Int) := by push_cast; rfl
    rw [hmulc]
    simp only [if_neg (show ¬ (((l.length * v : Nat) : Int) + 7) / 8 < 0 by omega), if_pos (show (0 : Int) ≤ (((l.length * v : Nat) : Int) + 7) / 8 by omega), if_pos (show ((((l.length * v : Nat) : Int) + 7) / 8).toNat ≤ 281474976710656 by omega)]
    have einner : ∀ (d i j : Nat), i < l.length → j + d = v →
        ∀ R : List Int × Bool, Ev (fun k => spec_BitsPack.l0 k l v (bofB (upTo (pbit l v) ((i + 1) * v)) ((l.length * v + 7) / 8)) ((i + 1 : Nat) : Int)) R →
        Ev (fun k => spec_BitsPack.l1 k l v (bofB (upTo (pbit l v) (i * v + j)) ((l.length * v + 7) / 8)) i j) R := by
      intro d
      induction d with
      | zero =>
        intro i j hi hj R h
        refine Ev.step (fun k => ?_) h
        simp only [spec_BitsPack.l1]
        rw [if_neg (by omega), wrap_id (n := (i : Int) + 1) (by omega) (by omega), show j = v by omega, Nat.succ_mul]
        push_cast; rfl
      | succ d ih =>
        intro i j hi hj R h
        have hP : i * v + j < l.length * v := by
          have : (i + 1) * v ≤ l.length * v := Nat.mul_le_mul_right v hi
          rw [Nat.succ_mul] at this; omega
        have hc' : ((i * v : Nat) : Int) = (i : Int) * v := by push_cast; rfl
        have hst := byteOf_step (pbit_bits l v) ((i * v + j) / 8) ((i * v + j) % 8) (by omega)
        rw [show 8 * ((i * v + j) / 8) + (i * v + j) % 8 = i * v + j by omega] at hst
        have hbits := pbit_bits l v (i * v + j)
        have hb : Go.bits .and .i64 (shr .i64 (rd l i) j) 1 = pbit l v (i * v + j) := by
          rw [and_one, shr64 _ _ (by omega) (by omega), pbit_at l v i j (by omega)]; rfl
        refine Ev.step (fun k => ?_) (ih i (j + 1) hi (by omega) R h)
        simp only [spec_BitsPack.l1]
        rw [if_pos (show (j : Int) < v by omega), if_pos (show (0 : Int) ≤ i by omega), if_pos (show (i : Int) < l.length by omega), if_pos (show (0 : Int) ≤ j by omega), hb, wrap_id (n := (j : Int) + 1) (by omega) (by omega)]
        by_cases h1 : pbit l v (i * v + j) = 1
        · rw [if_pos h1, ← hc', wrap_id (n := ((i * v : Nat) : Int)) (by omega) (by omega), wrap_id (n := ((i * v : Nat) : Int) + j) (by omega) (by omega)]
          rw [Int.tdiv_eq_ediv_of_nonneg (by omega), Int.tmod_eq_emod_of_nonneg (by omega), wrap_id (n := (((i * v : Nat) : Int) + j) / 8) (by omega) (by omega)]
          rw [if_pos (by omega), if_pos (by rw [bofB_len]; omega), if_pos (by omega)]
          rw [shl8 _ _ (by omega) (by omega) (Or.inr rfl), rd_bofB _ _ _ (by omega) (by omega)]
          rw [show ((((i * v : Nat) : Int) + j) % 8).toNat = (i * v + j) % 8 by omega, show ((((i * v : Nat) : Int) + j) / 8).toNat = (i * v + j) / 8 by omega]
          rw [h1] at hst
          rw [or8 _ _ _ (by omega) hst.1 hst.2.1 (Or.inr rfl), ← hst.2.2, bofB_set _ _ _ _ rfl]
          push_cast; rfl
        · rw [if_neg h1]
          have h0 : pbit l v (i * v + j) = 0 := by omega
          have e : bofB (upTo (pbit l v) (i * v + (j + 1))) ((l.length * v + 7) / 8) = bofB (upTo (pbit l v) (i * v + j)) ((l.length * v + 7) / 8) := by
            have hs := bofB_set (pbit l v) (i * v + j) ((l.length * v + 7) / 8) _ rfl
            rw [hst.2.2, h0] at hs
            rw [← Nat.add_assoc, ← hs]
            apply List.ext_getElem
            · simp
            · intro n h3 h4
              rw [List.getElem_set]
              by_cases hn : (i * v + j) / 8 = n
              · rw [if_pos hn]; subst hn; simp [bofB]
              · rw [if_neg hn]
          rw [e]; push_cast; rfl
    have outer : ∀ (d i : Nat), i + d = l.length → (∀ n ∈ l.take i, fits v n) → Ev (fun k => spec_BitsPack.l0 k l v (bofB (upTo (pbit l v) (i * v)) ((l.length * v + 7) / 8)) i) (if ∀ n ∈ l, fits v n then (packB l v, true) else ([], false)) := by
      intro d
      induction d with
      | zero =>
        intro i hi hf
        rw [show i = l.length by omega, List.take_length] at hf
        rw [if_pos hf]
        refine Ev.step (f := fun _ => some (packB l v, true)) (fun k => ?_) (Ev.now _)
        simp only [spec_BitsPack.l0]; rw [if_neg (by omega), show i = l.length by omega]; rfl
      | succ d ih =>
        intro i hi hf
        have hm : rd l i = l[i] := rd_eq l i (by omega)
        have hmem : l[i] ∈ l := List.getElem_mem _
        have hwf := wf64 (hl _ hmem)
        have badj : Ev (fun k => spec_BitsPack.j1 k l v (bofB (upTo (pbit l v) (i * v)) ((l.length * v + 7) / 8)) i true) ([], false) := Ev.step (f := fun _ => some ([], false)) (fun k => by simp only [spec_BitsPack.j1]; rw [if_pos trivial]) (Ev.now _)
        by_cases hn : l[i] < 0
        · rw [if_neg (fun h => by have := (h _ hmem).1; omega)]
          refine Ev.step (fun k => ?_) badj
          simp only [spec_BitsPack.l0]; rw [if_pos (by omega), if_pos (by omega), hm, if_pos hn]
        · by_cases hb : (blen (l[i]).toNat : Int) ≤ v
          · have hnext := ih (i + 1) (by omega) (by
              intro n hn2
              rw [List.take_succ_eq_append_getElem (by omega)] at hn2
              rcases List.mem_append.1 hn2 with h | h
              · exact hf n h
              · rw [List.mem_singleton] at h; subst h; exact ⟨by omega, hb⟩)
            refine Ev.step (f := fun k => spec_BitsPack.j1 k l v (bofB (upTo (pbit l v) (i * v)) ((l.length * v + 7) / 8)) i false) (fun k => ?_) ?_
            · simp only [spec_BitsPack.l0]; rw [if_pos (by omega), if_pos (by omega), hm, if_neg hn, if_pos (by omega), shr_zero_iff _ _ (by omega) hv, decide_eq_true hb]; rfl
            · refine Ev.step (f := fun k => spec_BitsPack.l1 k l v (bofB (upTo (pbit l v) (i * v)) ((l.length * v + 7) / 8)) i 0) (fun k => by simp only [spec_BitsPack.j1]; rw [if_neg (by simp)]) ?_
              exact einner v i 0 (by omega) (by omega) _ hnext
          · rw [if_neg (fun h => hb (h _ hmem).2)]
            refine Ev.step (fun k => ?_) badj
            simp only [spec_BitsPack.l0]; rw [if_pos (by omega), if_pos (by omega), hm, if_neg hn, if_pos (by omega), shr_zero_iff _ _ (by omega) hv, decide_eq_false hb]; rfl
    have h := outer l.length 0 (by omega) (by simp)
    have e : (if l.length ≤ 2000 ∧ 0 ≤ (v : Int) ∧ (v : Int) ≤ 62 ∧ ∀ n ∈ l, fits v n then (packB l (v : Int).toNat, true) else ([], false)) = (if ∀ n ∈ l, fits v n then (packB l v, true) else ([], false)) := by
      by_cases hf : ∀ n ∈ l, fits v n
      · rw [if_pos ⟨h2, hw0, hw1, hf⟩, if_pos hf, show (v : Int).toNat = v by omega]
      · rw [if_neg (fun h => hf h.2.2.2), if_neg hf]
    rw [e, show ((((l.length * v : Nat) : Int) + 7) / 8).toNat = (l.length * v + 7) / 8 by omega, bofB_zero (pbit l v)]
    simpa using h
  · rw [if_neg (show ¬ (0 ≤ (l.length : Int) ∧ (l.length : Int) ≤ 2000 ∧ 0 ≤ w ∧ w ≤ 62) by omega), if_neg (fun h => hc ⟨h.1, h.2.1, h.2.2.1⟩)]
    simp only [if_pos (show (-1 : Int) < 0 by decide)]; exact Ev.now _

theorem impl_BitsSize_ev (n w : Int) : impl_BitsSize.f n w = some (if 0 ≤ n ∧ n ≤ 2000 ∧ 0 ≤ w ∧ w ≤ 62 then (n * w + 7) / 8 else -1) := by
  unfold impl_BitsSize.f
  simp only [impl_within_ev, Option.bind_some]
  by_cases h1 : 0 ≤ n ∧ n ≤ 2000
  · simp only [decide_eq_true h1, if_true]
    by_cases h2 : 0 ≤ w ∧ w ≤ 62
    · simp only [decide_eq_true h2, if_true]
      have hm0 : 0 ≤ n * w := Int.mul_nonneg h1.1 h2.1
      have hm : n * w ≤ 2000 * 62 := Int.mul_le_mul h1.2 h2.2 h2.1 (by omega)
      rw [if_pos ⟨h1.1, h1.2, h2.1, h2.2⟩, wrap_id (n := n * w) (by omega) (by omega), wrap_id (n := n * w + 7) (by omega) (by omega), Int.tdiv_eq_ediv_of_nonneg (by omega), wrap_id (by omega) (by omega)]
    · simp only [decide_eq_false h2, Bool.false_eq_true, if_false]
      rw [if_neg (fun h => h2 h.2.2)]
  · simp only [decide_eq_false h1, Bool.false_eq_true, if_false]
    rw [if_neg (fun h => h1 ⟨h.1, h.2.1⟩)]

theorem impl_BitAt_ev (l : List Int) (k : Int) (hl : ∀ x ∈ l, (Lit.int .u8 x).wf = true) (h0 : -9223372036854775808 ≤ k) (h1 : k < 9223372036854775808) :
    impl_BitAt.f l k = some (if 0 ≤ k ∧ k / 8 < l.length then bitAt l k else -1) := by
  unfold impl_BitAt.f
  by_cases hk : k < 0
  · rw [if_pos hk, if_neg (by omega)]
  · have e : wrap64 (Int.tdiv k 8) = k / 8 := by rw [Int.tdiv_eq_ediv_of_nonneg (by omega), wrap_id (by omega) (by omega)]
    have e2 : Int.tmod k 8 = k % 8 := Int.tmod_eq_emod_of_nonneg (by omega)
    rw [if_neg hk, e, e2]
    by_cases hb : k / 8 ≥ (l.length : Int)
    · rw [if_pos hb, if_neg (by omega)]
    · rw [if_neg hb, if_pos (by omega), if_pos (by omega), if_pos (by omega), if_pos (by omega)]
      have hr := rd_rng8 hl (k / 8)
      unfold bitAt shr
      rw [show min (k % 8).toNat IntKind.u8.bits = (k % 8).toNat by simp [IntKind.bits]; omega]
      have hp : (0 : Int) < 2 ^ (k % 8).toNat := Int.pow_pos (by decide)
      have hd0 : 0 ≤ rd l (k / 8) / 2 ^ (k % 8).toNat := Int.ediv_nonneg hr.1 (by omega)
      have hd1 : rd l (k / 8) / 2 ^ (k % 8).toNat ≤ rd l (k / 8) := Int.ediv_le_self _ hr.1
      have hm := bits_mask .u8 8 (by decide) wraps_u8 1 (by decide) (rd l (k / 8) / 2 ^ (k % 8).toNat) hd0 (by omega)
      rw [show (2 : Int) ^ 1 - 1 = 1 by rfl] at hm
      rw [hm, wrap_id (by omega) (by omega)]; rfl

theorem impl_unpacked_ev (b : List Int) (a : Int) (many w : Nat) (hb : ∀ x ∈ b, (Lit.int .u8 x).wf = true) (hlen : b.length ≤ 1000000000000) (ha : 0 ≤ a) (hm : many ≤ 1000000) (hw : w ≤ 63) (hfit : 8 * a + many * w ≤ 8 * b.length) :
    Ev (fun k => impl_unpacked.f k b a many w) (unpackB b a many w) := by
  have inner : ∀ (d i j : Nat) (acc : List Int), i < many → j + d = w → acc.length ≤ 1000000 →
      ∀ R : List Int, Ev (fun k => impl_unpacked.l0 k b a w (acc ++ [wrap64 (unum b (8 * a + i * w) w)]) many ((i + 1 : Nat) : Int)) R →
      Ev (fun k => impl_unpacked.l1 k b a w acc i (wrap64 (unum b (8 * a + i * w) j)) many i w j) R := by
    intro d
    induction d with
    | zero =>
      intro i j acc hi hj hacc R h
      refine Ev.step (fun k => ?_) h
      simp only [impl_unpacked.l1]
      rw [if_neg (by omega), if_pos (by omega), wrap_id (n := (i : Int) + 1) (by omega) (by omega), show j = w by omega]
      push_cast; rfl
    | succ d ih =>
      intro i j acc hi hj hacc R h
      have hc : ((i * w : Nat) : Int) = (i : Int) * w := by push_cast; rfl
      have hle : (i + 1) * w ≤ many * w := Nat.mul_le_mul_right w hi
      rw [Nat.succ_mul] at hle
      have hmc : ((many * w : Nat) : Int) = (many : Int) * w := by push_cast; rfl
      rw [← hmc] at hfit
      refine Ev.step (fun k => ?_) (ih i (j + 1) acc hi (by omega) hacc R h)
      simp only [impl_unpacked.l1]
      rw [if_pos (by omega), wrap_id (n := 8 * a) (by omega) (by omega), ← hc, wrap_id (n := ((i * w : Nat) : Int)) (by omega) (by omega), wrap_id (n := 8 * a + ((i * w : Nat) : Int)) (by omega) (by omega), wrap_id (n := 8 * a + ((i * w : Nat) : Int) + j) (by omega) (by omega)]
      rw [impl_BitAt_ev b _ hb (by omega) (by omega), if_pos (by omega)]
      simp only [Option.bind_some]
      have hbit : 0 ≤ bitAt b (8 * a + ((i * w : Nat) : Int) + j) := by unfold bitAt; omega
      rw [if_pos (by omega), wrap_id (n := (j : Int) + 1) (by omega) (by omega), shl64 _ _ (by omega) (by omega), show (j : Int).toNat = j by omega]
      rw [or_add _ _ j (unum_rng _ _ _).1 (unum_rng _ _ _).2 hbit]
      push_cast; rfl
  have outer : ∀ (d i : Nat), i + d = many → Ev (fun k => impl_unpacked.l0 k b a w (unpackB b a i w) many i) (unpackB b a many w) := by
    intro d
    induction d with
    | zero =>
      intro i hi
      refine Ev.step (f := fun _ => some (unpackB b a many w)) (fun k => ?_) (Ev.now _)
      simp only [impl_unpacked.l0]; rw [if_neg (by omega), show i = many by omega]
    | succ d ih =>
      intro i hi
      have h := ih (i + 1) (by omega)
      have e : unpackB b a (i + 1) w = unpackB b a i w ++ [wrap64 (unum b (8 * a + i * w) w)] := by unfold unpackB; rw [List.range_succ]; simp
      rw [e] at h
      refine Ev.step (fun k => ?_) (inner w i 0 _ (by omega) (by omega) (by simp [unpackB]; omega) _ h)
      simp only [impl_unpacked.l0]; rw [if_pos (by omega)]
      simp [unum, show wrap64 0 = 0 by unfold wrap64; omega]
  have h := outer many 0 (by omega)
  unfold impl_unpacked.f
  simpa [unpackB] using h

/-- What BitsRead answers. -/
def brd (b : List Int) (a n w : Int) : List Int × Int × Bool :=
  if (0 ≤ n ∧ n ≤ 2000 ∧ 0 ≤ w ∧ w ≤ 62) ∧ 0 ≤ a ∧ a + (n * w + 7) / 8 ≤ b.length then (unpackB b a n.toNat w.toNat, a + (n * w + 7) / 8, true) else ([], 0, false)
theorem impl_BitsRead_ev (b : List Int) (a n w : Int) (hb : ∀ x ∈ b, (Lit.int .u8 x).wf = true) (hlen : b.length ≤ 1000000000000) (ha : -9223372036854775808 ≤ a ∧ a < 9223372036854775808) :
    Ev (fun k => impl_BitsRead.f k b a n w) (brd b a n w) := by
  unfold impl_BitsRead.f brd
  simp only [impl_BitsSize_ev, impl_within_ev, Option.bind_some]
  by_cases h1 : 0 ≤ n ∧ n ≤ 2000 ∧ 0 ≤ w ∧ w ≤ 62
  · simp only [if_pos h1]
    have hm0 : 0 ≤ n * w := Int.mul_nonneg h1.1 h1.2.2.1
    have hm : n * w ≤ 2000 * 62 := Int.mul_le_mul h1.2.1 h1.2.2.2 h1.2.2.1 (by omega)
    simp only [if_neg (show ¬ (n * w + 7) / 8 < 0 by omega)]
    by_cases h2 : 0 ≤ a ∧ a ≤ (b.length : Int)
    · simp only [decide_eq_true h2, if_true]
      rw [wrap_id (n := (b.length : Int) - a) (by omega) (by omega)]
      by_cases h3 : a + (n * w + 7) / 8 ≤ b.length
      · simp only [if_neg (show ¬ (n * w + 7) / 8 > (b.length : Int) - a by omega)]
        rw [if_pos ⟨h1, h2.1, h3⟩]
        obtain ⟨n', rfl⟩ := Int.eq_ofNat_of_zero_le h1.1
        obtain ⟨w', rfl⟩ := Int.eq_ofNat_of_zero_le h1.2.2.1
        have := impl_unpacked_ev b a n' w' hb hlen h2.1 (by omega) (by omega) (by omega)
        refine Ev.bind this ?_
        rw [wrap_id (n := a + ((n' : Int) * w' + 7) / 8) (by omega) (by omega)]
        exact Ev.now _
      · simp only [if_pos (show (n * w + 7) / 8 > (b.length : Int) - a by omega)]
        rw [if_neg (fun h => h3 h.2.2)]; exact Ev.now _
    · simp only [decide_eq_false h2, Bool.false_eq_true, if_false]
      rw [if_neg (fun h => h2 (by omega))]; exact Ev.now _
  · simp only [if_neg h1, if_pos (show (-1 : Int) < 0 by decide)]
    rw [if_neg (fun h => h1 h.1)]; exact Ev.now _

theorem sameInts_self (a : List Int) (hn : a.length ≤ 1000000000000000000) : Ev (fun k => laws_sameInts.f k a a) true := by
  have key : ∀ (d : Nat) (i : Int), 0 ≤ i → i ≤ a.length → (a.length : Int) - i = d → Ev (fun k => laws_sameInts.l0 k a a i) true := by
    intro d
    induction d with
    | zero =>
      intro i h0 h1 hd
      refine Ev.step (f := fun _ => some true) (fun k => ?_) (Ev.now _)
      simp only [laws_sameInts.l0]; rw [if_neg (by omega)]
    | succ d ih =>
      intro i h0 h1 hd
      refine Ev.step (f := fun k => laws_sameInts.l0 k a a (i + 1)) (fun k => ?_) (ih (i + 1) (by omega) (by omega) (by omega))
      simp only [laws_sameInts.l0]; rw [if_pos (by omega), if_pos h0, if_pos (by omega), if_pos trivial, wrap_id (by omega) (by omega)]
  have h := key a.length 0 (by omega) (by omega) (by omega)
  unfold laws_sameInts.f
  simpa using h

theorem byte_wf {x : Int} (h0 : 0 ≤ x) (h1 : x < 256) : (Lit.int .u8 x).wf = true := by simp [Lit.wf, IntKind.min, IntKind.max, IntKind.bits, IntKind.signed]; omega

theorem laws_at_ev (l : List Int) (i : Int) (hl : ∀ x ∈ l, (Lit.int .u8 x).wf = true) (hlen : l.length ≤ 1000000000000) (h0 : 0 ≤ i) (h1 : i ≤ 1000) : ∃ v, laws_at.f l i = some v ∧ 0 ≤ v ∧ v < 256 := by
  unfold laws_at.f
  by_cases h : i < l.length
  · have hr := rd_rng8 hl i
    rw [if_pos h, if_pos h0, wrap_id (by omega) (by omega)]; exact ⟨_, rfl, hr.1, hr.2⟩
  · rw [if_neg h, wrap_id (n := i * 7) (by omega) (by omega), wrap_id (n := i * 7 + (l.length : Int)) (by omega) (by omega), Int.tmod_eq_emod_of_nonneg (by omega)]
    exact ⟨_, rfl, by omega, by omega⟩

theorem FnBits : laws_FnBits.Pure := by
  intro l hlen hsz hl
  refine Ev.rounds (g := fun k => laws_FnBits.f k l) ?_
  unfold laws_FnBits.f
  simp only [laws_big_ev, Option.bind_some]
  by_cases hbig : (l.length : Int) > 1048576
  · simp only [decide_eq_true hbig, if_true]; exact Ev.now _
  simp only [decide_eq_false hbig, Bool.false_eq_true, if_false]
  obtain ⟨r, w, e, hr, lr, w0, w1⟩ := spec_DrawBitsPack_ev l hl (by omega)
  obtain ⟨t1, at1, t10, t11⟩ := laws_at_ev l 1 hl (by omega) (by decide) (by decide)
  refine Ev.bind e ?_
  refine Ev.bind (impl_BitsPack_ev r w hr) ?_
  refine Ev.bind (spec_BitsPack_ev r w hr (by omega)) ?_
  simp only [bne_self_eq_false, Bool.false_eq_true, if_false]
  by_cases hc : r.length ≤ 2000 ∧ 0 ≤ w ∧ w ≤ 62 ∧ ∀ n ∈ r, fits w n
  · obtain ⟨r2, hw0, hw1, hf⟩ := id hc
    have hb : bpk r w = (packB r w.toNat, true) := by unfold bpk; rw [if_pos hc]
    simp only [hb, if_true, impl_BitsSize_ev, at1, Option.bind_some]
    obtain ⟨v, rfl⟩ := Int.eq_ofNat_of_zero_le hw0
    have hmul : r.length * v ≤ 2000 * 62 := Nat.mul_le_mul r2 (by omega)
    have hmulc : ((r.length : Int) * (v : Int)) = ((r.length * v : Nat) : Int) := by push_cast; rfl
    have hlp : (packB r v).length = (r.length * v + 7) / 8 := packB_len r v
    rw [show (v : Int).toNat = v by omega]
    simp only [if_pos (show ([t1 % 256] : List Int).length + (packB r v).length < 140737488355328 by rw [hlp]; simp; omega), if_pos (show ([t1 % 256] ++ packB r v).length < 140737488355328 by rw [List.length_append, hlp]; simp; omega)]
    have wb : ∀ y ∈ [t1 % 256] ++ packB r v ++ [255], (Lit.int .u8 y).wf = true := by
      intro y hy
      rcases List.mem_append.1 hy with hy | hy
      · rcases List.mem_append.1 hy with hy | hy
        · rw [List.mem_singleton] at hy; subst hy; exact byte_wf (by omega) (by omega)
        · exact packB_wf r v y hy
      · rw [List.mem_singleton] at hy; subst hy; exact byte_wf (by decide) (by decide)
    refine Ev.bind (impl_BitsRead_ev _ 1 r.length v wb (by rw [List.length_append, List.length_append, hlp]; simp; omega) (by decide)) ?_
    have hb2 : brd ([t1 % 256] ++ packB r v ++ [255]) 1 r.length v = (r, 1 + ((r.length : Int) * v + 7) / 8, true) := by
      unfold brd
      have hu := unpack_pack [t1 % 256] r [255] v (by omega) (fun n hn => ⟨(hf n hn).1, by have := (hf n hn).2; omega⟩)
      rw [if_pos (by rw [List.length_append, List.length_append, hlp, hmulc]; simp; omega), show (r.length : Int).toNat = r.length by omega, show (v : Int).toNat = v by omega]
      rw [show (1 : Int) = (([t1 % 256] : List Int).length : Int) by simp, hu]
    have hsz' : (0 ≤ (r.length : Int) ∧ (r.length : Int) ≤ 2000 ∧ 0 ≤ (v : Int) ∧ (v : Int) ≤ 62) := by omega
    simp only [hb2, if_true, if_pos hsz', if_pos (show ((packB r v).length : Int) = ((r.length : Int) * v + 7) / 8 by rw [hlp, hmulc]; omega)]
    rw [hmulc, wrap_id (n := 1 + (((r.length * v : Nat) : Int) + 7) / 8) (by omega) (by omega)]
    simp only [if_true]
    refine Ev.bind (sameInts_self r (by omega)) ?_
    simp only [Bool.not_true]
    refine Ev.step (fun k => by simp only [laws_FnBits.j0]; rw [if_neg (by simp)]) ?_
    have done : ∀ i : Int, Ev (fun k => laws_FnBits.j2 k r v (packB r v) i false) true := fun i => Ev.step (f := fun _ => some true) (fun k => by simp only [laws_FnBits.j2]; rw [if_neg (by simp)]) (Ev.now _)
    have key : ∀ (d i : Nat), i + d = r.length → Ev (fun k => laws_FnBits.l0 k r v (packB r v) i) true := by
      intro d
      induction d with
      | zero =>
        intro i hi
        refine Ev.step (f := fun k => laws_FnBits.j2 k r v (packB r v) i false) (fun k => ?_) (done _)
        simp only [laws_FnBits.l0]; rw [if_neg (by omega)]
      | succ d ih =>
        intro i hi
        refine Ev.step (f := fun k => laws_FnBits.j2 k r v (packB r v) i (decide ((i : Int) < 20))) (fun k => by simp only [laws_FnBits.l0]; rw [if_pos (by omega)]) ?_
        by_cases h20 : (i : Int) < 20
        · rw [decide_eq_true h20]
          refine Ev.step (f := fun k => laws_FnBits.l1 k r v (packB r v) i 0) (fun k => by simp only [laws_FnBits.j2]; rw [if_pos trivial]) ?_
          have inner : ∀ (d2 j : Nat), j + d2 = v → Ev (fun k => laws_FnBits.l1 k r v (packB r v) i j) true := by
            intro d2
            induction d2 with
            | zero =>
              intro j hj
              refine Ev.step (fun k => ?_) (ih (i + 1) (by omega))
              simp only [laws_FnBits.l1]; rw [if_neg (by omega), wrap_id (by omega) (by omega)]; push_cast; rfl
            | succ d2 ih2 =>
              intro j hj
              have hP : i * v + j < r.length * v := by
                have : (i + 1) * v ≤ r.length * v := Nat.mul_le_mul_right v (by omega)
                rw [Nat.succ_mul] at this; omega
              have hcc : ((i * v : Nat) : Int) = (i : Int) * v := by push_cast; rfl
              refine Ev.step (fun k => ?_) (ih2 (j + 1) (by omega))
              simp only [laws_FnBits.l1]
              rw [if_pos (by omega), ← hcc, wrap_id (n := ((i * v : Nat) : Int)) (by omega) (by omega), wrap_id (n := ((i * v : Nat) : Int) + j) (by omega) (by omega)]
              rw [impl_BitAt_ev _ _ (packB_wf r v) (by omega) (by omega), if_pos (by rw [hlp]; omega)]
              simp only [Option.bind_some]
              rw [hcc, bitAt_pack r v i j (by omega) (by omega), if_pos (by omega), if_pos (by omega), if_pos (by omega), and_one, shr64 _ _ (by omega) (by omega), show (j : Int).toNat = j by omega, if_pos rfl, wrap_id (by omega) (by omega)]
              push_cast; rfl
          exact inner v 0 (by omega)
        · rw [decide_eq_false h20]; exact done _
    exact key r.length 0 (by omega)
  · have hb : bpk r w = ([], false) := by unfold bpk; rw [if_neg hc]
    simp only [hb, Bool.false_eq_true, if_false]
    exact Ev.now _

end Go.Proofs.Ytbiibjbhgeenoaa.Pure
