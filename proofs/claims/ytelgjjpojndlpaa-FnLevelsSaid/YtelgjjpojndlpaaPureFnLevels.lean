/- The law FnLevels answers true for every code. -/
import Derived.Test.YtelgjjpojndlpaaPFnLevelsx12
import Derived.Test.YtelgjjpojndlpaaCom
namespace Go.Proofs.Ytelgjjpojndlpaa.Pure
open Go Go.RowKit Go.Proofs.Ytelgjjpojndlpaa.PFnLevels Go.Proofs.YtelgjjpojndlpaaW.PrintWords Go.Proofs.YtelgjjpojndlpaaW.PrintLast Go.Proofs.YtelgjjpojndlpaaW.PrintMore Go.Proofs.Ytelgjjpojndlpaa.Com
set_option linter.unusedVariables false
set_option linter.unusedSimpArgs false

theorem spec_l1Byte_ev (l : List Int) (i h : Int) (hl : ∀ x ∈ l, (Lit.int .u8 x).wf = true) (hlen : l.length ≤ 1000000000000) (h0 : 0 ≤ i) (h1 : i ≤ l.length) :
  ∃ v i' h', spec_l1Byte.f l i h = some (v, i', h') ∧ 0 ≤ v ∧ v < 256 ∧ 0 ≤ i' ∧ i' ≤ l.length := by
 have m : ∀ x, Go.bits .and .i64 x 255 = x % 256 := fun x => and_mask x 8 (by decide)
 unfold spec_l1Byte.f
 by_cases hi : i < l.length
 ·rw [if_pos hi, if_pos h0, m, m, wrap_id (n := i + 1) (by omega) (by omega)]
  exact ⟨_, _, _, rfl, by omega, by omega, by omega, by omega⟩
 ·rw [if_neg hi, m]
  exact ⟨_, _, _, rfl, by omega, by omega, by omega, by omega⟩
theorem spec_l1Below_ev (l : List Int) (i h n : Int) (hl : ∀ x ∈ l, (Lit.int .u8 x).wf = true) (hlen : l.length ≤ 1000000000000) (h0 : 0 ≤ i) (h1 : i ≤ l.length) :
  ∃ v i' h', spec_l1Below.f l i h n = some (v, i', h') ∧ 0 ≤ v ∧ (0 < n → v < n) ∧ (n ≤ 0 → v = 0) ∧ 0 ≤ i' ∧ i' ≤ l.length := by
 unfold spec_l1Below.f
 by_cases hn : n ≤ 0
 ·rw [if_pos hn]; exact ⟨_, _, _, rfl, by omega, by omega, by omega, h0, h1⟩
 ·rw [if_neg hn]
  obtain ⟨v, i1, h2, e, a, b, c, d⟩ := spec_l1Byte_ev l i h hl hlen h0 h1
  by_cases hb : n ≤ 256
  ·rw [if_pos hb]
   simp only [e, Option.bind_some]
   rw [if_neg (by omega)]
   refine ⟨_, _, _, rfl, ?_⟩
   rw [Int.tmod_eq_emod_of_nonneg a]
   exact ⟨Int.emod_nonneg _ (by omega), fun _ => Int.emod_lt_of_pos _ (by omega), by omega, c, d⟩
  ·rw [if_neg hb]
   obtain ⟨v2, i2, h3, e2, a2, b2, c2, d2⟩ := spec_l1Byte_ev l i1 h2 hl hlen c d
   obtain ⟨v3, i3, h4, e3, a3, b3, c3, d3⟩ := spec_l1Byte_ev l i2 h3 hl hlen c2 d2
   obtain ⟨v4, i4, h5, e4, a4, b4, c4, d4⟩ := spec_l1Byte_ev l i3 h4 hl hlen c3 d3
   simp only [e, e2, e3, e4, Option.bind_some]
   rw [if_neg (by omega), wrap_id (n := v * 16777216) (by omega) (by omega), wrap_id (n := v2 * 65536) (by omega) (by omega), wrap_id (n := v3 * 256) (by omega) (by omega), wrap_id (n := v * 16777216 + v2 * 65536) (by omega) (by omega), wrap_id (n := v * 16777216 + v2 * 65536 + v3 * 256) (by omega) (by omega), wrap_id (by omega) (by omega)]
   refine ⟨_, _, _, rfl, ?_⟩
   rw [Int.tmod_eq_emod_of_nonneg (by omega)]
   exact ⟨Int.emod_nonneg _ (by omega), fun _ => Int.emod_lt_of_pos _ (by omega), by omega, c4, d4⟩
theorem spec_l1New_ev (l : List Int) (hlen : l.length ≤ 1000000000000) : ∃ h, Ev (fun k => spec_l1New.f k l) (l, 0, h) := by
 have key : ∀ (d : Nat) (i x : Int), 0 ≤ i → i ≤ l.length → (l.length : Int) - i = d → ∃ h, Ev (fun k => spec_l1New.l0 k l x i) (l, 0, h) := by
  intro d
  induction d with
  | zero =>
   intro i x h0 h1 hd
   refine ⟨x, Ev.step (f := fun _ => some (l, 0, x)) (fun k => ?_) (Ev.now _)⟩
   simp only [spec_l1New.l0]; rw [if_neg (by omega)]
  | succ d ih =>
   intro i x h0 h1 hd
   by_cases h4 : i < 4000
   ·obtain ⟨h, e⟩ := ih (i + 1) (Go.bits .and .i64 (wrap64 ((wrap64 ((wrap64 (x * 131)) + (wrap64 (rd l i)))) + 7)) 1073741823) (by omega) (by omega) (by omega)
    refine ⟨h, Ev.step (fun k => ?_) e⟩
    simp only [spec_l1New.l0]; rw [if_pos (by omega), if_pos h4, if_pos h0, wrap_id (n := i + 1) (by omega) (by omega)]
   ·refine ⟨x, Ev.step (f := fun _ => some (l, 0, x)) (fun k => ?_) (Ev.now _)⟩
    simp only [spec_l1New.l0]; rw [if_pos (by omega), if_neg h4]
 obtain ⟨h, e⟩ := key l.length 0 (wrap64 (11443 + (l.length : Int))) (by omega) (by omega) (by omega)
 exact ⟨h, e⟩
theorem laws_big_ev (l : List Int) : laws_big.f l = some (decide ((l.length : Int) > 1048576)) := rfl

theorem spec_l1PickInt_ev (l : List Int) (i h : Int) (p : List Int) (hl : ∀ x ∈ l, (Lit.int .u8 x).wf = true) (hlen : l.length ≤ 1000000000000) (h0 : 0 ≤ i) (h1 : i ≤ l.length) (hp : 0 < p.length) :
  ∃ v i' h', spec_l1PickInt.f l i h p = some (v, i', h') ∧ v ∈ p ∧ 0 ≤ i' ∧ i' ≤ l.length := by
 unfold spec_l1PickInt.f
 obtain ⟨v, i1, h2, e, a, b, _, c, d⟩ := spec_l1Below_ev l i h p.length hl hlen h0 h1
 have b := b (by omega)
 simp only [e, Option.bind_some]
 rw [if_pos a, if_pos b]
 refine ⟨_, _, _, rfl, ?_, c, d⟩
 rw [rd_eq' _ _ a (by omega)]; exact List.getElem_mem _

theorem spec_l1Once_ev (l : List Int) (i h n : Int) (hl : ∀ x ∈ l, (Lit.int .u8 x).wf = true) (hlen : l.length ≤ 1000000000000) (h0 : 0 ≤ i) (h1 : i ≤ l.length) :
  ∃ v i' h', spec_l1Once.f l i h n = some (v, i', h') ∧ 0 ≤ i' ∧ i' ≤ l.length := by
 unfold spec_l1Once.f
 obtain ⟨v, i1, g1, e, _, _, _, c, d⟩ := spec_l1Below_ev l i h n hl hlen h0 h1
 simp only [e, Option.bind_some]
 exact ⟨_, _, _, rfl, c, d⟩

theorem spec_l8DrawNums_ev (l : List Int) (i h t : Int) (hl : ∀ x ∈ l, (Lit.int .u8 x).wf = true) (hlen : l.length ≤ 1000000000000) (h0 : 0 ≤ i) (h1 : i ≤ l.length) (ht0 : 0 ≤ t) (ht1 : t ≤ 1000000000000) :
  ∃ r i' h', Ev (fun k => spec_l8DrawNums.f k l i h t) (r, i', h') ∧ (∀ x ∈ r, (Lit.int .i64 x).wf = true) ∧ r.length ≤ 3000 ∧ 0 ≤ i' ∧ i' ≤ l.length := by
 have wfapp : ∀ (acc : List Int) (v : Int), (∀ x ∈ acc, (Lit.int .i64 x).wf = true) → 0 ≤ v → v ≤ t → ∀ x ∈ acc ++ [v], (Lit.int .i64 x).wf = true := by
  intro acc v ha hv0 hv1 x hx
  rcases List.mem_append.1 hx with hx|hx
  ·exact ha x hx
  ·rw [List.mem_singleton] at hx; subst hx; exact wf64_mk (by omega) (by omega)
 have hwt : wrap64 (t + 1) = t + 1 := wrap_id (by omega) (by omega)
 have key : ∀ (d : Nat) (x6 : Int) (acc : List Int) (i h : Int), 0 ≤ x6 → x6 + d = 6 → acc.length + 40 * d ≤ 240 → (∀ x ∈ acc, (Lit.int .i64 x).wf = true) → 0 ≤ i → i ≤ l.length →
   ∃ r i' h', Ev (fun k => spec_l8DrawNums.l0 k t acc x6 l i h) (r, i', h') ∧ (∀ x ∈ r, (Lit.int .i64 x).wf = true) ∧ r.length ≤ 3000 ∧ 0 ≤ i' ∧ i' ≤ l.length := by
  intro d
  induction d with
  | zero =>
   intro x6 acc i h hx hd hacc hwf hi0 hi1
   obtain ⟨v, i1, g1, e1, v0, v1, _, c1, d1⟩ := spec_l1Below_ev l i h 6 hl hlen hi0 hi1
   have v1 := v1 (by decide)
   obtain ⟨o, i3, g3, e3, c3, d3⟩ := spec_l1Once_ev l i1 g1 40 hl hlen c1 d1
   cases o with
   | true =>
    obtain ⟨v2, i4, g4, e4, a4, b4, _, c4, d4⟩ := spec_l1Below_ev l i3 g3 2 hl hlen c3 d3
    have b4 := b4 (by decide)
    refine ⟨List.replicate (2000 + v2).toNat 0, i4, g4, Ev.step (f := fun _ => some (List.replicate (2000 + v2).toNat 0, i4, g4)) (fun k => ?_) (Ev.now _), ?_, by simp; omega, c4, d4⟩
    ·simp only [spec_l8DrawNums.l0, e1, e3, e4, Option.bind_some]
     rw [if_neg (by omega), if_pos trivial, wrap_id (n := 2000 + v2) (by omega) (by omega), if_pos (by omega), if_pos (by omega)]
    ·intro x hx
     have := List.eq_of_mem_replicate hx
     subst this; exact wf64_mk (by decide) (by decide)
   | false =>
    refine ⟨acc, i3, g3, Ev.step (f := fun _ => some (acc, i3, g3)) (fun k => ?_) (Ev.now _), hwf, by omega, c3, d3⟩
    simp only [spec_l8DrawNums.l0, e1, e3, Option.bind_some]
    rw [if_neg (by omega), if_neg (by simp)]
  | succ d ih =>
   intro x6 acc i h hx hd hacc hwf hi0 hi1
   obtain ⟨v, i1, g1, e1, v0, v1, _, c1, d1⟩ := spec_l1Below_ev l i h 6 hl hlen hi0 hi1
   have v1 := v1 (by decide)
   by_cases hv : x6 < v
   ·obtain ⟨y, i2, g2, e2, y0, y1, _, c2, d2⟩ := spec_l1Below_ev l i1 g1 (t + 1) hl hlen c1 d1
    have y1 := y1 (by omega)
    obtain ⟨o, i3, g3, e3, c3, d3⟩ := spec_l1Once_ev l i2 g2 2 hl hlen c2 d2
    have l2 : ∀ (d2 : Nat) (x10 : Int) (acc : List Int) (i h : Int), 0 ≤ x10 → x10 + d2 = 9 → acc.length + d2 + 40 * d ≤ 240 → (∀ x ∈ acc, (Lit.int .i64 x).wf = true) → 0 ≤ i → i ≤ l.length →
      ∃ r i' h', Ev (fun k => spec_l8DrawNums.l2 k t acc x6 x10 l i h) (r, i', h') ∧ (∀ x ∈ r, (Lit.int .i64 x).wf = true) ∧ r.length ≤ 3000 ∧ 0 ≤ i' ∧ i' ≤ l.length := by
     intro d2
     induction d2 with
     | zero =>
      intro x10 acc i h hx10 hd2 hacc hwf hi0 hi1
      obtain ⟨z, i4, g4, e4, z0, z1, _, c4, d4⟩ := spec_l1Below_ev l i h 9 hl hlen hi0 hi1
      have z1 := z1 (by decide)
      obtain ⟨r, i5, g5, e5, w5, n5, c5, d5⟩ := ih (x6 + 1) acc i4 g4 (by omega) (by omega) (by omega) hwf c4 d4
      refine ⟨r, i5, g5, Ev.step (fun k => ?_) e5, w5, n5, c5, d5⟩
      simp only [spec_l8DrawNums.l2, e4, Option.bind_some]
      rw [if_neg (by omega), wrap_id (n := x6 + 1) (by omega) (by omega)]
     | succ d2 ih2 =>
      intro x10 acc i h hx10 hd2 hacc hwf hi0 hi1
      obtain ⟨z, i4, g4, e4, z0, z1, _, c4, d4⟩ := spec_l1Below_ev l i h 9 hl hlen hi0 hi1
      have z1 := z1 (by decide)
      by_cases hz : x10 < z
      ·obtain ⟨q, i5, g5, e5, q0, q1, _, c5, d5⟩ := spec_l1Below_ev l i4 g4 (t + 1) hl hlen c4 d4
       have q1 := q1 (by omega)
       obtain ⟨r, i6, g6, e6, w6, n6, c6, d6⟩ := ih2 (x10 + 1) (acc ++ [q]) i5 g5 (by omega) (by omega) (by simp; omega) (wfapp acc q hwf q0 (by omega)) c5 d5
       refine ⟨r, i6, g6, Ev.step (fun k => ?_) e6, w6, n6, c6, d6⟩
       simp only [spec_l8DrawNums.l2, hwt, e4, e5, Option.bind_some]
       rw [if_pos hz, if_pos (by omega), wrap_id (n := x10 + 1) (by omega) (by omega)]
      ·obtain ⟨r, i5, g5, e5, w5, n5, c5, d5⟩ := ih (x6 + 1) acc i4 g4 (by omega) (by omega) (by omega) hwf c4 d4
       refine ⟨r, i5, g5, Ev.step (fun k => ?_) e5, w5, n5, c5, d5⟩
       simp only [spec_l8DrawNums.l2, e4, Option.bind_some]
       rw [if_neg hz, wrap_id (n := x6 + 1) (by omega) (by omega)]
    have l1 : ∀ (d1 : Nat) (x8 x9 : Int) (acc : List Int) (i h : Int), 0 ≤ x9 → x9 ≤ x8 → x8 ≤ 20 → x8 - x9 = d1 → acc.length + d1 + 9 + 40 * d ≤ 240 → (∀ x ∈ acc, (Lit.int .i64 x).wf = true) → 0 ≤ i → i ≤ l.length →
      ∃ r i' h', Ev (fun k => spec_l8DrawNums.l1 k t acc x6 y x8 x9 l i h) (r, i', h') ∧ (∀ x ∈ r, (Lit.int .i64 x).wf = true) ∧ r.length ≤ 3000 ∧ 0 ≤ i' ∧ i' ≤ l.length := by
     intro d1
     induction d1 with
     | zero =>
      intro x8 x9 acc i h a1 a2 a3 a4 hacc hwf hi0 hi1
      obtain ⟨r, i5, g5, e5, w5, n5, c5, d5⟩ := l2 9 0 acc i h (by omega) (by omega) (by omega) hwf hi0 hi1
      refine ⟨r, i5, g5, Ev.step (fun k => ?_) e5, w5, n5, c5, d5⟩
      simp only [spec_l8DrawNums.l1]
      rw [if_neg (by omega)]
     | succ d1 ih1 =>
      intro x8 x9 acc i h a1 a2 a3 a4 hacc hwf hi0 hi1
      obtain ⟨r, i5, g5, e5, w5, n5, c5, d5⟩ := ih1 x8 (x9 + 1) (acc ++ [y]) i h (by omega) (by omega) (by omega) (by omega) (by simp; omega) (wfapp acc y hwf y0 (by omega)) hi0 hi1
      refine ⟨r, i5, g5, Ev.step (fun k => ?_) e5, w5, n5, c5, d5⟩
      simp only [spec_l8DrawNums.l1]
      rw [if_pos (by omega), if_pos (by omega), wrap_id (n := x9 + 1) (by omega) (by omega)]
    cases o with
    | true =>
     obtain ⟨u, i4, g4, e4, u0, u1, _, c4, d4⟩ := spec_l1Below_ev l i3 g3 20 hl hlen c3 d3
     have u1 := u1 (by decide)
     obtain ⟨r, i5, g5, e5, w5, n5, c5, d5⟩ := l1 u.toNat u 0 acc i4 g4 (by omega) (by omega) (by omega) (by omega) (by omega) hwf c4 d4
     refine ⟨r, i5, g5, Ev.step (f := fun k => spec_l8DrawNums.j1 k t acc x6 y u l i4 g4) (fun k => ?_) (Ev.step (fun k => by simp only [spec_l8DrawNums.j1]) e5), w5, n5, c5, d5⟩
     simp only [spec_l8DrawNums.l0, hwt, e1, e2, e3, e4, Option.bind_some]
     rw [if_pos hv, if_pos trivial]
    | false =>
     obtain ⟨r, i5, g5, e5, w5, n5, c5, d5⟩ := l1 1 1 0 acc i3 g3 (by omega) (by omega) (by omega) (by omega) (by omega) hwf c3 d3
     refine ⟨r, i5, g5, Ev.step (f := fun k => spec_l8DrawNums.j1 k t acc x6 y 1 l i3 g3) (fun k => ?_) (Ev.step (fun k => by simp only [spec_l8DrawNums.j1]) e5), w5, n5, c5, d5⟩
     simp only [spec_l8DrawNums.l0, hwt, e1, e2, e3, Option.bind_some]
     rw [if_pos hv, if_neg (by simp)]
   ·obtain ⟨o, i3, g3, e3, c3, d3⟩ := spec_l1Once_ev l i1 g1 40 hl hlen c1 d1
    cases o with
    | true =>
     obtain ⟨v2, i4, g4, e4, a4, b4, _, c4, d4⟩ := spec_l1Below_ev l i3 g3 2 hl hlen c3 d3
     have b4 := b4 (by decide)
     refine ⟨List.replicate (2000 + v2).toNat 0, i4, g4, Ev.step (f := fun _ => some (List.replicate (2000 + v2).toNat 0, i4, g4)) (fun k => ?_) (Ev.now _), ?_, by simp; omega, c4, d4⟩
     ·simp only [spec_l8DrawNums.l0, e1, e3, e4, Option.bind_some]
      rw [if_neg hv, if_pos trivial, wrap_id (n := 2000 + v2) (by omega) (by omega), if_pos (by omega), if_pos (by omega)]
     ·intro x hx
      have := List.eq_of_mem_replicate hx
      subst this; exact wf64_mk (by decide) (by decide)
    | false =>
     refine ⟨acc, i3, g3, Ev.step (f := fun _ => some (acc, i3, g3)) (fun k => ?_) (Ev.now _), hwf, by omega, c3, d3⟩
     simp only [spec_l8DrawNums.l0, e1, e3, Option.bind_some]
     rw [if_neg hv, if_neg (by simp)]
 exact key 6 0 [] i h (by omega) (by omega) (by simp) (by simp) h0 h1

theorem spec_l8DrawMax_ev (l : List Int) (i h : Int) (hl : ∀ x ∈ l, (Lit.int .u8 x).wf = true) (hlen : l.length ≤ 1000000000000) (h0 : 0 ≤ i) (h1 : i ≤ l.length) :
  ∃ v i' h', spec_l8DrawMax.f l i h = some (v, i', h') ∧ -1 ≤ v ∧ v ≤ 256 ∧ 0 ≤ i' ∧ i' ≤ l.length := by
 unfold spec_l8DrawMax.f
 obtain ⟨o, i1, g1, e1, c1, d1⟩ := spec_l1Once_ev l i h 9 hl hlen h0 h1
 simp only [e1, Option.bind_some]
 cases o with
 | true =>
  obtain ⟨v, i2, g2, e2, hm, c2, d2⟩ := spec_l1PickInt_ev l i1 g1 [(-1), 0, 255, 256] hl hlen c1 d1 (by simp)
  simp only [if_true, e2, Option.bind_some]
  simp only [List.mem_cons, List.not_mem_nil, or_false] at hm
  exact ⟨_, _, _, rfl, by omega, by omega, c2, d2⟩
 | false =>
  obtain ⟨v, i2, g2, e2, a2, b2, _, c2, d2⟩ := spec_l1Below_ev l i1 g1 5 hl hlen c1 d1
  have b2 := b2 (by decide)
  simp only [Bool.false_eq_true, if_false, e2, Option.bind_some]
  exact ⟨_, _, _, rfl, by omega, by omega, c2, d2⟩
theorem spec_l1Max0_ev (w : Int) : ∃ m, spec_l1Max.f w 0 = some m ∧ 0 ≤ m ∧ (w ≤ 1000 → m ≤ 1000) := by
 unfold spec_l1Max.f
 by_cases h : w > 0
 ·rw [if_pos h]; exact ⟨_, rfl, by omega, by omega⟩
 ·rw [if_neg h]; exact ⟨_, rfl, by omega, by omega⟩
theorem spec_DrawLevelsPack_ev (l : List Int) (hl : ∀ x ∈ l, (Lit.int .u8 x).wf = true) (hlen : l.length ≤ 1000000000000) :
  ∃ r m, Ev (fun k => spec_DrawLevelsPack.f k l) (r, m) ∧ (∀ x ∈ r, (Lit.int .i64 x).wf = true) ∧ r.length ≤ 3000 ∧ -1 ≤ m ∧ m ≤ 256 := by
 obtain ⟨g0, e0⟩ := spec_l1New_ev l hlen
 obtain ⟨m, i1, g1, e1, m0, m1, c1, d1⟩ := spec_l8DrawMax_ev l 0 g0 hl hlen (by omega) (by omega)
 obtain ⟨t, et, t0, t1⟩ := spec_l1Max0_ev m
 obtain ⟨r, i2, g2, e2, w2, n2, c2, d2⟩ := spec_l8DrawNums_ev l i1 g1 t hl hlen c1 d1 t0 (by omega)
 have jf : ∀ i g, Ev (fun k => spec_DrawLevelsPack.j0 k m r false l i g) (r, m) := fun i g => Ev.step (f := fun _ => some (r, m)) (fun k => by simp only [spec_DrawLevelsPack.j0]; rw [if_neg (by simp)]) (Ev.now _)
 by_cases hr : 0 < r.length
 ·obtain ⟨o, i3, g3, e3, c3, d3⟩ := spec_l1Once_ev l i2 g2 15 hl hlen c2 d2
  cases o with
  | true =>
   obtain ⟨v, i4, g4, e4, v0, v1, _, c4, d4⟩ := spec_l1Below_ev l i3 g3 r.length hl hlen c3 d3
   have v1 := v1 (by omega)
   obtain ⟨q, i5, g5, e5, hq, c5, d5⟩ := spec_l1PickInt_ev l i4 g4 [(-1), wrap64 (m + 1)] hl hlen c4 d4 (by simp)
   refine ⟨r.set v.toNat q, m, ?_, ?_, by simp; omega, m0, m1⟩
   ·unfold spec_DrawLevelsPack.f
    refine Ev.bind e0 ?_
    simp only [e1, et, Option.bind_some]
    refine Ev.bind e2 ?_
    simp only [if_pos (show (r.length : Int) > 0 by omega), e3, Option.bind_some]
    refine Ev.step (f := fun _ => some (r.set v.toNat q, m)) (fun k => ?_) (Ev.now _)
    simp only [spec_DrawLevelsPack.j0, e4, e5, Option.bind_some]
    rw [if_pos trivial, if_pos v0, if_pos v1]
   ·intro x hx
    rcases List.mem_or_eq_of_mem_set hx with hx|rfl
    ·exact w2 x hx
    ·simp only [List.mem_cons, List.not_mem_nil, or_false] at hq
     rcases hq with rfl|rfl
     ·exact wf64_mk (by decide) (by decide)
     ·exact wf64_mk (wrap_rng _).1 (wrap_rng _).2
  | false =>
   refine ⟨r, m, ?_, w2, n2, m0, m1⟩
   unfold spec_DrawLevelsPack.f
   refine Ev.bind e0 ?_
   simp only [e1, et, Option.bind_some]
   refine Ev.bind e2 ?_
   simp only [if_pos (show (r.length : Int) > 0 by omega), e3, Option.bind_some]
   exact jf _ _
 ·refine ⟨r, m, ?_, w2, n2, m0, m1⟩
  unfold spec_DrawLevelsPack.f
  refine Ev.bind e0 ?_
  simp only [e1, et, Option.bind_some]
  refine Ev.bind e2 ?_
  simp only [if_neg (show ¬ (r.length : Int) > 0 by omega)]
  exact jf _ _

def alkF (l : List Int) (a : Nat) : Nat → Nat → Nat
 | 0, n => n
 | d + 1, n => if a + n < l.length ∧ rd l ((a + n : Nat) : Int) = rd l (a : Int) then alkF l a d (n + 1) else n
def alk (l : List Int) (a : Nat) : Nat := alkF l a l.length 0
theorem alkF_le (l : List Int) (a : Nat) : ∀ d n, a + n ≤ l.length → a + alkF l a d n ≤ l.length := by
 intro d
 induction d with
 | zero => intro n h; exact h
 | succ d ih =>
  intro n h; unfold alkF
  split
  ·rename_i hc; exact ih (n + 1) (by omega)
  ·exact h
theorem alkF_same (l : List Int) (a : Nat) : ∀ d n, (∀ j, j < n → rd l ((a + j : Nat) : Int) = rd l a) → ∀ j, j < alkF l a d n → rd l ((a + j : Nat) : Int) = rd l a := by
 intro d
 induction d with
 | zero => intro n h; exact h
 | succ d ih =>
  intro n h; unfold alkF
  split
  ·rename_i hc
   refine ih (n + 1) ?_
   intro j hj
   by_cases hjn : j < n
   ·exact h j hjn
   ·rw [show j = n by omega]; exact hc.2
  ·exact h
theorem alk_le (l : List Int) (a : Nat) (h : a ≤ l.length) : a + alk l a ≤ l.length := alkF_le l a _ 0 (by omega)
theorem alk_same (l : List Int) (a : Nat) : ∀ j, j < alk l a → rd l ((a + j : Nat) : Int) = rd l a := alkF_same l a _ 0 (by omega)
theorem impl_alikeFrom_ev (l : List Int) (a : Nat) (hlen : l.length ≤ 1000000000) (ha : a < 2000000000) : Ev (fun k => impl_alikeFrom.f k l a) (alk l a) := by
 have key : ∀ (d n : Nat), l.length < a + n + (d + 1) → n ≤ 1000000000 → Ev (fun k => impl_alikeFrom.l0 k l a n) (alkF l a d n) := by
  intro d
  induction d with
  | zero =>
   intro n h hn
   refine Ev.step (f := fun _ => some (n : Int)) (fun k => ?_) (Ev.now _)
   simp only [impl_alikeFrom.l0]
   rw [wrap_id (n := (a : Int) + n) (by omega) (by omega), if_neg (by omega)]
  | succ d ih =>
   intro n h hn
   unfold alkF
   by_cases h1 : a + n < l.length
   ·by_cases h2 : rd l ((a + n : Nat) : Int) = rd l (a : Int)
    ·rw [if_pos ⟨h1, h2⟩]
     refine Ev.step (fun k => ?_) (ih (n + 1) (by omega) (by omega))
     simp only [impl_alikeFrom.l0]
     rw [wrap_id (n := (a : Int) + n) (by omega) (by omega), if_pos (by omega), if_pos (by omega), if_pos (by omega), if_pos (by omega), show ((a : Int) + n) = ((a + n : Nat) : Int) by omega, if_pos h2, wrap_id (n := (n : Int) + 1) (by omega) (by omega)]; push_cast; rfl
    ·rw [if_neg (fun h => h2 h.2)]
     refine Ev.step (f := fun _ => some (n : Int)) (fun k => ?_) (Ev.now _)
     simp only [impl_alikeFrom.l0]
     rw [wrap_id (n := (a : Int) + n) (by omega) (by omega), if_pos (by omega), if_pos (by omega), if_pos (by omega), if_pos (by omega), show ((a : Int) + n) = ((a + n : Nat) : Int) by omega, if_neg h2]
   ·rw [if_neg (fun h => h1 h.1)]
    refine Ev.step (f := fun _ => some (n : Int)) (fun k => ?_) (Ev.now _)
    simp only [impl_alikeFrom.l0]
    rw [wrap_id (n := (a : Int) + n) (by omega) (by omega), if_neg (by omega)]
 exact key l.length 0 (by omega) (by omega)
def grpF (l : List Int) (a : Nat) : Nat → Nat → Nat
 | 0, g => g
 | d + 1, g => if a + 8 * g < l.length ∧ alk l (a + 8 * g) < 8 then grpF l a d (g + 1) else g
def grp (l : List Int) (a : Nat) : Nat := grpF l a l.length 1
theorem grpF_ge (l : List Int) (a : Nat) : ∀ d g, g ≤ grpF l a d g := by
 intro d
 induction d with
 | zero => intro n; exact Nat.le_refl _
 | succ d ih =>
  intro n; unfold grpF
  split
  ·have := ih (n + 1); omega
  ·exact Nat.le_refl _
theorem grpF_le (l : List Int) (a : Nat) : ∀ d g, a + 8 * g < l.length + 8 → a + 8 * grpF l a d g < l.length + 8 := by
 intro d
 induction d with
 | zero => intro g h; exact h
 | succ d ih =>
  intro g h; unfold grpF
  split
  ·rename_i hc; exact ih (g + 1) (by omega)
  ·exact h
theorem grp_ge (l : List Int) (a : Nat) : 1 ≤ grp l a := grpF_ge l a _ 1
theorem grp_le (l : List Int) (a : Nat) (h : a < l.length) : a + 8 * grp l a < l.length + 8 := grpF_le l a _ 1 (by omega)
def pad (l : List Int) (a m : Nat) : List Int := (List.range m).map fun i : Nat => rd l ((a + i : Nat) : Int)
theorem pad_len (l : List Int) (a m : Nat) : (pad l a m).length = m := by simp [pad]
theorem rd_out (l : List Int) (i : Nat) (h : l.length ≤ i) : rd l (i : Int) = 0 := by
 unfold rd; simp [h]
theorem pad_copy (l : List Int) (a m : Nat) (h : a ≤ l.length) :
  (l.drop a).take (min (l.drop a).length m) ++ (List.replicate m (0 : Int)).drop (min (l.drop a).length m) = pad l a m := by
 apply List.ext_getElem
 ·simp [pad]; omega
 ·intro i h1 h2
  rw [pad_len] at h2
  simp only [pad, List.getElem_map, List.getElem_range]
  rw [List.getElem_append]
  split
  ·rename_i hi
   simp only [List.length_take, List.length_drop] at hi
   rw [List.getElem_take, List.getElem_drop, rd_eq l (a + i) (by omega)]
  ·rename_i hi
   simp only [List.length_take, List.length_drop] at hi
   rw [List.getElem_drop, List.getElem_replicate, rd_out l (a + i) (by omega)]
def rpkF (l : List Int) (w : Nat) : Nat → Nat → List Int
 | 0, _ => []
 | f + 1, a =>
  if a < l.length then
   if 8 ≤ alk l a then uvb (2 * alk l a) ++ wbytes (rd l (a : Int)) ((w + 7) / 8) ++ rpkF l w f (a + alk l a)
   else uvb (2 * grp l a + 1) ++ packB (pad l a (8 * grp l a)) w ++ rpkF l w f (a + 8 * grp l a)
  else []
theorem rpkF_succ (l : List Int) (w f a : Nat) : rpkF l w (f + 1) a = if a < l.length then
   if 8 ≤ alk l a then uvb (2 * alk l a) ++ wbytes (rd l (a : Int)) ((w + 7) / 8) ++ rpkF l w f (a + alk l a)
   else uvb (2 * grp l a + 1) ++ packB (pad l a (8 * grp l a)) w ++ rpkF l w f (a + 8 * grp l a)
  else [] := rfl
def rpk (l : List Int) (w : Int) : List Int × Bool := if l.length ≤ 2000 ∧ 0 ≤ w ∧ w ≤ 24 ∧ ∀ n ∈ l, 0 ≤ n ∧ (blen n.toNat : Int) ≤ w then (rpkF l w.toNat (l.length + 1) 0, true) else ([], false)
theorem rpkF_len (l : List Int) (w : Nat) (hw : w ≤ 24) (hlen : l.length ≤ 2000) : ∀ (f a : Nat), (rpkF l w f a).length + 40 * a ≤ 40 * l.length + 320 ∨ rpkF l w f a = [] := by
 intro f
 induction f with
 | zero => intro a; right; rfl
 | succ f ih =>
  intro a
  rw [rpkF_succ]
  by_cases ha : a < l.length
  ·left
   rw [if_pos ha]
   by_cases h8 : 8 ≤ alk l a
   ·rw [if_pos h8]
    have hal := alk_le l a (by omega)
    have h1 := uvb_len10 (2 * alk l a) (by omega)
    rcases ih (a + alk l a) with h|h
    ·simp only [List.length_append, wbytes_len]; omega
    ·rw [h]; simp only [List.length_append, wbytes_len, List.length_nil]; omega
   ·rw [if_neg h8]
    have hgl := grp_le l a ha
    have hgg := grp_ge l a
    have h1 := uvb_len10 (2 * grp l a + 1) (by omega)
    have hm : 8 * grp l a * w ≤ 8 * grp l a * 24 := Nat.mul_le_mul_left _ hw
    rcases ih (a + 8 * grp l a) with h|h
    ·simp only [List.length_append, packB_len, pad_len]; omega
    ·rw [h]; simp only [List.length_append, packB_len, pad_len, List.length_nil]; omega
  ·right; rw [if_neg ha]
theorem rpkF_wf (l : List Int) (w : Nat) : ∀ (f a : Nat), ∀ x ∈ rpkF l w f a, (Lit.int .u8 x).wf = true := by
 intro f
 induction f with
 | zero => intro a x hx; cases hx
 | succ f ih =>
  intro a x hx
  rw [rpkF_succ] at hx
  split at hx
  ·split at hx
   ·rcases List.mem_append.1 hx with hx|hx
    ·rcases List.mem_append.1 hx with hx|hx
     ·exact uvb_wf _ _ hx
     ·exact wbytes_wf _ _ _ hx
    ·exact ih _ _ hx
   ·rcases List.mem_append.1 hx with hx|hx
    ·rcases List.mem_append.1 hx with hx|hx
     ·exact uvb_wf _ _ hx
     ·exact packB_wf _ _ _ hx
    ·exact ih _ _ hx
  ·cases hx
theorem ux_nat (n : Nat) (h : n < 18446744073709551616) : ux (n : Int) = n := by unfold ux; omega
theorem app4 (a b c d : List Int) : a ++ b ++ c ++ d = a ++ (b ++ c ++ d) := by simp only [List.append_assoc]
theorem ev_app {β : Type} {g1 g2 : Nat → Option (List Int)} {u q : List Int} {acc : List Int} {F : Nat → List Int → Option β} {R : β} {B : Nat} (e : Ev g1 u) (e2 : Ev g2 q) (h1 : acc.length + u.length < B) (h2 : (acc ++ u).length + q.length < B) (h : Ev (fun k => F k (acc ++ u ++ q)) R) :
  Ev (fun k => (g1 k).bind fun t => (if acc.length + t.length < B then ((some (acc ++ t : List Int)).bind fun y => ((g2 k).bind fun t2 => (if y.length + t2.length < B then F k (y ++ t2) else none))) else none)) R := by
 refine Ev.bind e ?_
 simp only [if_pos h1, Option.bind_some]
 refine Ev.bind e2 ?_
 simp only [if_pos h2]
 exact h
theorem ev_if {α : Type} {c : Prop} [Decidable c] {g f : Nat → Option α} {R : α} (hc : c) (h : Ev g R) : Ev (fun k => if c then g k else f k) R := by
 simp only [if_pos hc]; exact h
theorem rpk_len (l : List Int) (w : Int) : (rpk l w).1.length ≤ 100000 := by
 unfold rpk
 split
 ·rename_i h
  rcases rpkF_len l w.toNat (by omega) h.1 (l.length + 1) 0 with h2|h2
  ·simp only; omega
  ·simp only [h2, List.length_nil]; omega
 ·simp

theorem len8_ev (i : Int) (h0 : 0 ≤ i) (h : i < 256) : bt (⟨#[0, 1, 2, 2, 3, 3, 3, 3, 4, 4, 4, 4, 4, 4, 4, 4, 5, 5, 5, 5, 5, 5, 5, 5, 5, 5, 5, 5, 5, 5, 5, 5, 6, 6, 6, 6, 6, 6, 6, 6, 6, 6, 6, 6, 6, 6, 6, 6, 6, 6, 6, 6, 6, 6, 6, 6, 6, 6, 6, 6, 6, 6, 6, 6, 7, 7, 7, 7, 7, 7, 7, 7, 7, 7, 7, 7, 7, 7, 7, 7, 7, 7, 7, 7, 7, 7, 7, 7, 7, 7, 7, 7, 7, 7, 7, 7, 7, 7, 7, 7, 7, 7, 7, 7, 7, 7, 7, 7, 7, 7, 7, 7, 7, 7, 7, 7, 7, 7, 7, 7, 7, 7, 7, 7, 7, 7, 7, 7, 8, 8, 8, 8, 8, 8, 8, 8, 8, 8, 8, 8, 8, 8, 8, 8, 8, 8, 8, 8, 8, 8, 8, 8, 8, 8, 8, 8, 8, 8, 8, 8, 8, 8, 8, 8, 8, 8, 8, 8, 8, 8, 8, 8, 8, 8, 8, 8, 8, 8, 8, 8, 8, 8, 8, 8, 8, 8, 8, 8, 8, 8, 8, 8, 8, 8, 8, 8, 8, 8, 8, 8, 8, 8, 8, 8, 8, 8, 8, 8, 8, 8, 8, 8, 8, 8, 8, 8, 8, 8, 8, 8, 8, 8, 8, 8, 8, 8, 8, 8, 8, 8, 8, 8, 8, 8, 8, 8, 8, 8, 8, 8, 8, 8, 8, 8, 8, 8, 8, 8, 8, 8, 8, 8, 8, 8, 8, 8]⟩ : ByteArray) i = blen i.toNat := by
 have e : ∀ j : Nat, j < 256 → bt (⟨#[0, 1, 2, 2, 3, 3, 3, 3, 4, 4, 4, 4, 4, 4, 4, 4, 5, 5, 5, 5, 5, 5, 5, 5, 5, 5, 5, 5, 5, 5, 5, 5, 6, 6, 6, 6, 6, 6, 6, 6, 6, 6, 6, 6, 6, 6, 6, 6, 6, 6, 6, 6, 6, 6, 6, 6, 6, 6, 6, 6, 6, 6, 6, 6, 7, 7, 7, 7, 7, 7, 7, 7, 7, 7, 7, 7, 7, 7, 7, 7, 7, 7, 7, 7, 7, 7, 7, 7, 7, 7, 7, 7, 7, 7, 7, 7, 7, 7, 7, 7, 7, 7, 7, 7, 7, 7, 7, 7, 7, 7, 7, 7, 7, 7, 7, 7, 7, 7, 7, 7, 7, 7, 7, 7, 7, 7, 7, 7, 8, 8, 8, 8, 8, 8, 8, 8, 8, 8, 8, 8, 8, 8, 8, 8, 8, 8, 8, 8, 8, 8, 8, 8, 8, 8, 8, 8, 8, 8, 8, 8, 8, 8, 8, 8, 8, 8, 8, 8, 8, 8, 8, 8, 8, 8, 8, 8, 8, 8, 8, 8, 8, 8, 8, 8, 8, 8, 8, 8, 8, 8, 8, 8, 8, 8, 8, 8, 8, 8, 8, 8, 8, 8, 8, 8, 8, 8, 8, 8, 8, 8, 8, 8, 8, 8, 8, 8, 8, 8, 8, 8, 8, 8, 8, 8, 8, 8, 8, 8, 8, 8, 8, 8, 8, 8, 8, 8, 8, 8, 8, 8, 8, 8, 8, 8, 8, 8, 8, 8, 8, 8, 8, 8, 8, 8, 8, 8]⟩ : ByteArray) (j : Int) = blen j := by decide +kernel
 have := e i.toNat (by omega)
 rwa [Int.toNat_of_nonneg h0] at this
set_option maxRecDepth 100000 in
theorem bits_Len64_j (n : Nat) (b : Int) (hb : 0 ≤ b) (hb2 : b ≤ 100) (hn : n < 4294967296) : Ev (fun k => bits_Len64.j0 k n b) (b + blen n) := by
 refine Ev.step (f := fun _ => some (b + blen n)) (fun k => ?_) (Ev.now _)
 have h8 : ∀ m : Nat, m < 256 → (blen m : Int) ≤ 8 := fun m hm => by have := (blen_le m 8).2 hm; omega
 rw [bits_Len64.j0]
 by_cases h1 : n < 65536
 ·rw [if_neg (by omega)]
  by_cases h2 : n < 256
  ·rw [if_neg (by omega), if_pos (by omega), if_pos (by omega), show ((n : Int) % 256) = n by omega, len8_ev _ (by omega) (by omega), show ((n : Int)).toNat = n by omega]
   have := h8 n h2
   rw [wrap_id (n := (blen n : Int)) (by omega) (by omega), wrap_id (by omega) (by omega)]
  ·have e := blen_div n 8 (by omega)
   have hlt : n / 2 ^ 8 < 256 := by omega
   rw [if_pos (by omega), if_pos (by omega), if_pos (by omega), len8_ev _ (by omega) (by omega), show ((n : Int) / 256 % 256).toNat = n / 2 ^ 8 by omega]
   have := h8 _ hlt
   rw [wrap_id (n := (blen (n / 2 ^ 8) : Int)) (by omega) (by omega), wrap_id (n := b + 8) (by omega) (by omega), wrap_id (by omega) (by omega), e]
   congr 1; push_cast; omega
 ·rw [if_pos (by omega)]
  by_cases h2 : n / 65536 < 256
  ·have e := blen_div n 16 (by omega)
   rw [if_neg (by omega), if_pos (by omega), if_pos (by omega), len8_ev _ (by omega) (by omega), show ((n : Int) / 65536 % 256).toNat = n / 2 ^ 16 by omega]
   have := h8 (n / 2 ^ 16) (by omega)
   rw [wrap_id (n := (blen (n / 2 ^ 16) : Int)) (by omega) (by omega), wrap_id (n := b + 16) (by omega) (by omega), wrap_id (by omega) (by omega), e]
   congr 1; push_cast; omega
  ·have e := blen_div n 24 (by omega)
   rw [if_pos (by omega), if_pos (by omega), if_pos (by omega), len8_ev _ (by omega) (by omega), show ((n : Int) / 65536 / 256 % 256).toNat = n / 2 ^ 24 by omega]
   have := h8 (n / 2 ^ 24) (by omega)
   rw [wrap_id (n := (blen (n / 2 ^ 24) : Int)) (by omega) (by omega), wrap_id (n := b + 16) (by omega) (by omega), wrap_id (n := b + 16 + 8) (by omega) (by omega), wrap_id (by omega) (by omega), e]
   congr 1; push_cast; omega
theorem bits_Len64_ev (n : Nat) (h : n < 18446744073709551616) : Ev (fun k => bits_Len64.f k n) (blen n) := by
 unfold bits_Len64.f
 by_cases h1 : n < 4294967296
 ·refine Ev.congr (fun k => if_neg (show ¬ (n : Int) ≥ 4294967296 by omega)) ?_
  have := bits_Len64_j n 0 (by omega) (by omega) h1
  rw [Int.zero_add] at this; exact this
 ·refine Ev.congr (fun k => if_pos (show (n : Int) ≥ 4294967296 by omega)) ?_
  have e := blen_div n 32 (by omega)
  have := bits_Len64_j (n / 4294967296) 32 (by omega) (by omega) (by omega)
  rw [e, show n / 2 ^ 32 = n / 4294967296 by rfl]
  rw [show ((blen (n / 4294967296) + 32 : Nat) : Int) = 32 + (blen (n / 4294967296) : Int) by omega]
  rw [show ((n / 4294967296 : Nat) : Int) = (n : Int) / 4294967296 by omega] at this
  exact this
theorem impl_widthOf_ev (n : Int) (h0 : 0 ≤ n) (h : n < 9223372036854775808) : Ev (fun k => impl_widthOf.f k n) (blen n.toNat) := by
 unfold impl_widthOf.f
 rw [uwrap_id h0 (by omega)]
 have := bits_Len64_ev n.toNat (by omega)
 rw [Int.toNat_of_nonneg h0] at this
 refine Ev.bind this ?_
 exact Ev.now _

def bw (m : Int) : Int := if m < 0 then -1 else if blen m.toNat > 62 then -1 else blen m.toNat
theorem impl_BitsWidth_ev (m : Int) (h1 : m < 9223372036854775808) : Ev (fun k => impl_BitsWidth.f k m) (bw m) := by
 unfold impl_BitsWidth.f bw
 by_cases h : m < 0
 ·simp only [if_pos h]; exact Ev.now _
 ·simp only [if_neg h]
  refine Ev.bind (impl_widthOf_ev m (by omega) h1) ?_
  by_cases h2 : blen m.toNat > 62
  ·simp only [if_pos h2, if_pos (show (blen m.toNat : Int) > 62 by omega)]; exact Ev.now _
  ·simp only [if_neg h2, if_neg (show ¬ (blen m.toNat : Int) > 62 by omega)]
   refine Ev.bind (impl_widthOf_ev m (by omega) h1) ?_
   exact Ev.now _

def lpk (l : List Int) (m : Int) : List Int × Bool :=
 if (0 ≤ m ∧ m ≤ 255) ∧ ∀ x ∈ l, 0 ≤ x ∧ x ≤ m then
  if (rpk l (bw m)).2 = true then (if m = 0 then ([], true) else (wbytes ((rpk l (bw m)).1.length : Int) 4 ++ (rpk l (bw m)).1, true)) else ([], false)
 else ([], false)
theorem lpk_len (l : List Int) (m : Int) : (lpk l m).1.length ≤ 200000 := by
 have h := rpk_len l (bw m)
 unfold lpk
 split
 ·split
  ·split
   ·simp
   ·simp only [List.length_append, wbytes_len]; omega
  ·simp
 ·simp
theorem ev_app1 {β : Type} {g : Nat → Option β} {a b : Nat} {B : Nat} {R : β} (h : a + b < B) (hg : Ev g R) : Ev (fun k => if a + b < B then g k else none) R := by
 simp only [if_pos h]; exact hg

theorem spec_l8Bits_ev (l : List Int) (v : Nat) (hw : v ≤ 62) (hlen : l.length ≤ 100000) : Ev (fun k => spec_l8Bits.f k l v) (packB l v) := by
 unfold spec_l8Bits.f
 have hmul : l.length * v ≤ 100000 * 62 := Nat.mul_le_mul hlen hw
 have hmulc : ((l.length : Int) * (v : Int)) = ((l.length * v : Nat) : Int) := by push_cast; rfl
 rw [hmulc, wrap_id (n := ((l.length * v : Nat) : Int)) (by omega) (by omega), wrap_id (n := ((l.length * v : Nat) : Int) + 7) (by omega) (by omega), Int.tdiv_eq_ediv_of_nonneg (by omega), wrap_id (n := (((l.length * v : Nat) : Int) + 7) / 8) (by omega) (by omega)]
 simp only [if_pos (show (0 : Int) ≤ (((l.length * v : Nat) : Int) + 7) / 8 by omega), if_pos (show ((((l.length * v : Nat) : Int) + 7) / 8).toNat ≤ 281474976710656 by omega)]
 have einner : ∀ (d i j : Nat), i < l.length → j + d = v →
   ∀ R : List Int, Ev (fun k => spec_l8Bits.l0 k l v (bofB (upTo (pbit l v) ((i + 1) * v)) ((l.length * v + 7) / 8)) ((i + 1 : Nat) : Int)) R →
   Ev (fun k => spec_l8Bits.l1 k l v (bofB (upTo (pbit l v) (i * v + j)) ((l.length * v + 7) / 8)) i j) R := by
  intro d
  induction d with
  | zero =>
   intro i j hi hj R h
   refine Ev.step (fun k => ?_) h
   simp only [spec_l8Bits.l1]
   rw [if_neg (by omega), wrap_id (n := (i : Int) + 1) (by omega) (by omega), show j = v by omega, Nat.succ_mul]
   push_cast; rfl
  | succ d ih =>
   intro i j hi hj R h
   have hP : i * v + j < l.length * v := by
    have : (i + 1) * v ≤ l.length * v := Nat.mul_le_mul_right v hi
    rw [Nat.succ_mul] at this; omega
   have hc' : ((i * v : Nat) : Int) = (i : Int) * v := by push_cast; rfl
   have hst := byteOf_step (pbit_bits l v) ((i * v + j) / 8) ((i * v + j) % 8) (by omega)
   rw [show 8 * ((i * v + j) / 8) + (i * v + j) % 8 = i * v + j by omega] at hst
   have hbits := pbit_bits l v (i * v + j)
   have hb : Go.bits .and .i64 (shr .i64 (rd l i) j) 1 = pbit l v (i * v + j) := by
    rw [and_one, shr64 _ _ (by omega) (by omega), pbit_at l v i j (by omega)]; rfl
   refine Ev.step (fun k => ?_) (ih i (j + 1) hi (by omega) R h)
   simp only [spec_l8Bits.l1]
   rw [if_pos (show (j : Int) < v by omega), if_pos (show (0 : Int) ≤ i by omega), if_pos (show (i : Int) < l.length by omega), if_pos (show (0 : Int) ≤ j by omega), hb, wrap_id (n := (j : Int) + 1) (by omega) (by omega)]
   by_cases h1 : pbit l v (i * v + j) = 1
   ·rw [if_pos h1, ← hc', wrap_id (n := ((i * v : Nat) : Int)) (by omega) (by omega), wrap_id (n := ((i * v : Nat) : Int) + j) (by omega) (by omega)]
    rw [Int.tdiv_eq_ediv_of_nonneg (by omega), Int.tmod_eq_emod_of_nonneg (by omega), wrap_id (n := (((i * v : Nat) : Int) + j) / 8) (by omega) (by omega)]
    rw [if_pos (by omega), if_pos (by rw [bofB_len]; omega), if_pos (by omega)]
    rw [shl8 _ _ (by omega) (by omega) (Or.inr rfl), rd_bofB _ _ _ (by omega) (by omega)]
    rw [show ((((i * v : Nat) : Int) + j) % 8).toNat = (i * v + j) % 8 by omega, show ((((i * v : Nat) : Int) + j) / 8).toNat = (i * v + j) / 8 by omega]
    rw [h1] at hst
    rw [or8 _ _ _ (by omega) hst.1 hst.2.1 (Or.inr rfl), ← hst.2.2, bofB_set _ _ _ _ rfl]
    push_cast; rfl
   ·rw [if_neg h1]
    have h0 : pbit l v (i * v + j) = 0 := by omega
    have e : bofB (upTo (pbit l v) (i * v + (j + 1))) ((l.length * v + 7) / 8) = bofB (upTo (pbit l v) (i * v + j)) ((l.length * v + 7) / 8) := by
     have hs := bofB_set (pbit l v) (i * v + j) ((l.length * v + 7) / 8) _ rfl
     rw [hst.2.2, h0] at hs
     rw [← Nat.add_assoc, ← hs]
     apply List.ext_getElem
     ·simp
     ·intro n h3 h4
      rw [List.getElem_set]
      by_cases hn : (i * v + j) / 8 = n
      ·rw [if_pos hn]; subst hn; simp [bofB]
      ·rw [if_neg hn]
    rw [e]; push_cast; rfl
 have outer : ∀ (d i : Nat), i + d = l.length → Ev (fun k => spec_l8Bits.l0 k l v (bofB (upTo (pbit l v) (i * v)) ((l.length * v + 7) / 8)) i) (packB l v) := by
  intro d
  induction d with
  | zero =>
   intro i hi
   refine Ev.step (f := fun _ => some (packB l v)) (fun k => ?_) (Ev.now _)
   simp only [spec_l8Bits.l0]; rw [if_neg (by omega), show i = l.length by omega]; rfl
  | succ d ih =>
   intro i hi
   refine Ev.step (f := fun k => spec_l8Bits.l1 k l v (bofB (upTo (pbit l v) (i * v)) ((l.length * v + 7) / 8)) i 0) (fun k => ?_) ?_
   ·simp only [spec_l8Bits.l0]; rw [if_pos (by omega)]
   ·exact einner v i 0 (by omega) (by omega) _ (ih (i + 1) (by omega))
 have h := outer l.length 0 (by omega)
 rw [show ((((l.length * v : Nat) : Int) + 7) / 8).toNat = (l.length * v + 7) / 8 by omega, bofB_zero (pbit l v)]
 simpa using h

theorem spec_l2Down7 (a : Int) : spec_l2Down.f a 7 = some (a / 128 % 144115188075855872) := by
 unfold spec_l2Down.f
 rw [if_neg (by decide), if_pos (by decide), if_pos (by unfold wrap64; omega)]
 rw [shr64 _ _ (by decide) (by decide), show (wrap64 (64 - 7)) = 57 by unfold wrap64; omega, shl64 _ _ (by decide) (by decide)]
 rw [show wrap64 (wrap64 (1 * 2 ^ (57 : Int).toNat) - 1) = 2 ^ 57 - 1 by decide +kernel, and_mask _ 57 (by decide)]
 rfl

theorem spec_UvarPut_l (j : Nat) : ∀ (x : Int) (acc : List Int), -9223372036854775808 ≤ x → x < 9223372036854775808 → ux x < 128 ^ (j + 1) → acc.length + j ≤ 100000000000 →
  Ev (fun k => spec_UvarPut.l0 k x acc) (acc ++ uvb (ux x)) := by
 induction j with
 | zero =>
  intro x acc h0 h1 hx hl
  have hx' : ux x < 128 := by simpa using hx
  refine Ev.step (f := fun _ => some (acc ++ uvb (ux x))) (fun k => ?_) (Ev.now _)
  simp only [spec_UvarPut.l0, spec_l2Down7, Option.bind_some]
  rw [uvb, if_pos hx']
  unfold ux at hx' ⊢
  rw [if_pos (by omega), if_pos (by omega)]
  congr 3; omega
 | succ j ih =>
  intro x acc h0 h1 hx hl
  by_cases hs : ux x < 128
  ·refine Ev.step (f := fun _ => some (acc ++ uvb (ux x))) (fun k => ?_) (Ev.now _)
   simp only [spec_UvarPut.l0, spec_l2Down7, Option.bind_some]
   rw [uvb, if_pos hs]
   unfold ux at hs ⊢
   rw [if_pos (by omega), if_pos (by omega)]
   congr 3; omega
  ·have e : ux (x / 128 % 144115188075855872) = ux x / 128 := by unfold ux; omega
   have hd : ux x / 128 < 128 ^ (j + 1) := by rw [Nat.div_lt_iff_lt_mul (by decide)]; rw [Nat.pow_succ] at hx; exact hx
   have h := ih (x / 128 % 144115188075855872) (acc ++ [((ux x % 128 + 128 : Nat) : Int)]) (by omega) (by omega) (by rw [e]; exact hd) (by simp; omega)
   rw [e, List.append_assoc, List.singleton_append] at h
   rw [uvb, if_neg hs]
   refine Ev.step (fun k => ?_) h
   simp only [spec_UvarPut.l0, spec_l2Down7, Option.bind_some]
   unfold ux at hs
   rw [if_neg (by omega), if_pos (by omega)]
   have e2 : (wrap64 (Go.bits .and .i64 x 127 + 128)) % 256 = ((ux x % 128 + 128 : Nat) : Int) := by
    rw [show Go.bits .and .i64 x 127 = x % 128 from and_mask x 7 (by decide), wrap_id (by omega) (by omega)]; unfold ux; omega
   rw [e2]
theorem spec_UvarPut_ev (x : Int) (h0 : -9223372036854775808 ≤ x) (h1 : x < 9223372036854775808) : Ev (fun k => spec_UvarPut.f k x) (uvb (ux x)) := by
 have h := spec_UvarPut_l 9 x [] h0 h1 (Nat.lt_of_lt_of_le (ux_lt x) (by decide)) (by simp)
 simpa [spec_UvarPut.f] using h

theorem spec_WordPut_ev (x : Int) (n : Int) (h : n < 9223372036854775808) : Ev (fun k => spec_WordPut.f k x n) (if 1 ≤ n ∧ n ≤ 8 then wbytes x n.toNat else []) := by
 unfold spec_WordPut.f
 by_cases hn : 1 ≤ n ∧ n ≤ 8
 ·have key : ∀ (d : Nat) (i : Nat), (i : Int) + d = n → Ev (fun k => spec_WordPut.l0 k x n (wbytes x i) i) (wbytes x n.toNat) := by
   intro d
   induction d with
   | zero =>
    intro i hd
    refine Ev.step (f := fun _ => some (wbytes x n.toNat)) (fun k => ?_) (Ev.now _)
    simp only [spec_WordPut.l0]; rw [if_neg (by omega), show n.toNat = i by omega]
   | succ d ih =>
    intro i hd
    refine Ev.step (f := fun k => spec_WordPut.l0 k x n (wbytes x (i + 1)) (i + 1 : Nat)) (fun k => ?_) (ih (i + 1) (by omega))
    simp only [spec_WordPut.l0, spec_l1In.f]
    rw [if_pos (by omega), if_pos (by omega), Option.bind_some, if_pos (by simp; omega), wrap_id (n := 8 * (i : Int)) (by omega) (by omega), if_pos (by omega), if_pos (by rw [wbytes_len]; omega), wrap_id (by omega) (by omega), shr64 _ _ (by omega) (by omega), wbytes_succ, show (8 * (i : Int)).toNat = 8 * i by omega]
    push_cast; rfl
  have h := key n.toNat 0 (by omega)
  rw [if_pos hn]
  simpa [wbytes] using h
 ·rw [if_neg hn]
  refine Ev.step (f := fun _ => some []) (fun k => ?_) (Ev.now _)
  simp only [spec_WordPut.l0, spec_l1In.f]
  by_cases h0 : 0 < n
  ·rw [if_pos h0, if_pos (by omega), Option.bind_some, if_neg (by simp; omega)]
  ·rw [if_neg h0]

theorem spec_l1In_ev (x a b : Int) : spec_l1In.f x a b = some (decide (a ≤ x ∧ x ≤ b)) := by
 unfold spec_l1In.f
 by_cases h : x ≥ a
 ·rw [if_pos h]; congr 1; simp [show a ≤ x from h]
 ·rw [if_neg h]; congr 1; simp [show ¬ a ≤ x from h]

theorem spec_BitsSize_ev (n w : Int) : spec_BitsSize.f n w = some (if 0 ≤ n ∧ n ≤ 2000 ∧ 0 ≤ w ∧ w ≤ 62 then (n * w + 7) / 8 else -1) := by
 unfold spec_BitsSize.f
 simp only [spec_l1In_ev, Option.bind_some]
 by_cases h1 : 0 ≤ n ∧ n ≤ 2000
 ·simp only [decide_eq_true h1, if_true]
  by_cases h2 : 0 ≤ w ∧ w ≤ 62
  ·simp only [decide_eq_true h2, if_true]
   have hm0 : 0 ≤ n * w := Int.mul_nonneg h1.1 h2.1
   have hm : n * w ≤ 2000 * 62 := Int.mul_le_mul h1.2 h2.2 h2.1 (by omega)
   rw [if_pos ⟨h1.1, h1.2, h2.1, h2.2⟩, wrap_id (n := n * w) (by omega) (by omega), wrap_id (n := n * w + 7) (by omega) (by omega), Int.tdiv_eq_ediv_of_nonneg (by omega), wrap_id (by omega) (by omega)]
  ·simp only [decide_eq_false h2, Bool.false_eq_true, if_false]
   rw [if_neg (fun h => h2 h.2.2)]
 ·simp only [decide_eq_false h1, Bool.false_eq_true, if_false]
  rw [if_neg (fun h => h1 ⟨h.1, h.2.1⟩)]

theorem shr_zero_iff (n : Int) (w : Nat) (h0 : 0 ≤ n) (hw : w ≤ 62) : (shr .i64 n w != 0) = !decide ((blen n.toNat : Int) ≤ w) := by
 rw [shr64 _ _ (by omega) (by omega), show (w : Int).toNat = w by omega]
 have hp : (0 : Int) < 2 ^ w := Int.pow_pos (by decide)
 have hc : ((2 ^ w : Nat) : Int) = 2 ^ w := by simp
 by_cases h : (blen n.toNat : Int) ≤ w
 ·rw [decide_eq_true h]
  have := (blen_le n.toNat w).1 (by omega)
  have hlt : n < 2 ^ w := by rw [← hc]; omega
  rw [Int.ediv_eq_zero_of_lt h0 hlt]; rfl
 ·rw [decide_eq_false h]
  have : ¬ n.toNat < 2 ^ w := fun hh => h (by have := (blen_le n.toNat w).2 hh; omega)
  have hge : (2 : Int) ^ w ≤ n := by rw [← hc]; omega
  have : 1 ≤ n / 2 ^ w := by rw [Int.le_ediv_iff_mul_le hp]; omega
  simp; omega

theorem spec_l8Alike_ev (l : List Int) (a : Nat) (hlen : l.length ≤ 1000000000) (ha : a < 2000000000) : Ev (fun k => spec_l8Alike.f k l a) (alk l a) := by
 have key : ∀ (d n : Nat), l.length < a + n + (d + 1) → n ≤ 1000000000 → Ev (fun k => spec_l8Alike.l0 k l a n) (alkF l a d n) := by
  intro d
  induction d with
  | zero =>
   intro n h hn
   refine Ev.step (f := fun _ => some (n : Int)) (fun k => ?_) (Ev.now _)
   simp only [spec_l8Alike.l0]
   rw [wrap_id (n := (a : Int) + n) (by omega) (by omega), if_neg (by omega)]
  | succ d ih =>
   intro n h hn
   unfold alkF
   by_cases h1 : a + n < l.length
   ·by_cases h2 : rd l ((a + n : Nat) : Int) = rd l (a : Int)
    ·rw [if_pos ⟨h1, h2⟩]
     refine Ev.step (fun k => ?_) (ih (n + 1) (by omega) (by omega))
     simp only [spec_l8Alike.l0]
     rw [wrap_id (n := (a : Int) + n) (by omega) (by omega), if_pos (by omega), if_pos (by omega), if_pos (by omega), if_pos (by omega), show ((a : Int) + n) = ((a + n : Nat) : Int) by omega, if_pos h2, wrap_id (n := (n : Int) + 1) (by omega) (by omega)]; push_cast; rfl
    ·rw [if_neg (fun h => h2 h.2)]
     refine Ev.step (f := fun _ => some (n : Int)) (fun k => ?_) (Ev.now _)
     simp only [spec_l8Alike.l0]
     rw [wrap_id (n := (a : Int) + n) (by omega) (by omega), if_pos (by omega), if_pos (by omega), if_pos (by omega), if_pos (by omega), show ((a : Int) + n) = ((a + n : Nat) : Int) by omega, if_neg h2]
   ·rw [if_neg (fun h => h1 h.1)]
    refine Ev.step (f := fun _ => some (n : Int)) (fun k => ?_) (Ev.now _)
    simp only [spec_l8Alike.l0]
    rw [wrap_id (n := (a : Int) + n) (by omega) (by omega), if_neg (by omega)]
 exact key l.length 0 (by omega) (by omega)
theorem pad_succ (l : List Int) (a m : Nat) : pad l a (m + 1) = pad l a m ++ [rd l ((a + m : Nat) : Int)] := by simp [pad, List.range_succ]
theorem ih_cast (a b : Nat) : ((a + b : Nat) : Int) = (a : Int) + (b : Int) := by push_cast; rfl
theorem spec_RunPack_a (l : List Int) (w : Nat) (hw : w ≤ 24) (a n : Nat) (hn : n ≤ 2000) (hal : a ≤ 2000) (acc : List Int) (hacc : acc.length ≤ 100000) (R : List Int × Bool)
  (h : Ev (fun k => spec_RunPack.l1 k l w (acc ++ uvb (2 * n) ++ wbytes (rd l (a : Int)) ((w + 7) / 8)) ((a + n : Nat) : Int)) R) :
  Ev (fun k => (spec_UvarPut.f k (wrap64 (2 * (n : Int)))).bind fun t155 => (if acc.length + t155.length < 140737488355328 then ((some (acc ++ t155 : List Int)).bind fun y158 => (if (w : Int) > 0 then (if 0 ≤ (a : Int) then ((spec_BitsSize.f 1 w).bind fun t162 => ((spec_WordPut.f k (rd l a) t162).bind fun t163 => (if y158.length + t163.length < 140737488355328 then (spec_RunPack.l1 k l w (y158 ++ t163) (wrap64 ((a : Int) + n))) else (none)))) else (none)) else (spec_RunPack.l1 k l w y158 (wrap64 ((a : Int) + n))))) else (none))) R := by
 rw [ih_cast] at h
 rw [wrap_id (n := 2 * (n : Int)) (by omega) (by omega), wrap_id (n := (a : Int) + n) (by omega) (by omega)]
 have h10 := uvb_len10 (2 * n) (by omega)
 refine Ev.bind (spec_UvarPut_ev _ (by omega) (by omega)) ?_
 rw [show ux (2 * (n : Int)) = 2 * n by unfold ux; omega]
 generalize uvb (2 * n) = u at h h10 ⊢
 simp only [if_pos (show acc.length + u.length < 140737488355328 by omega), Option.bind_some]
 by_cases h0 : w = 0
 ·subst h0
  simp only [if_neg (show ¬ ((0 : Nat) : Int) > 0 by omega)]
  rw [show (0 + 7) / 8 = 0 from rfl, show wbytes (rd l (a : Int)) 0 = [] from rfl, List.append_nil] at h
  exact h
 ·simp only [if_pos (show (w : Int) > 0 by omega), if_pos (show (0 : Int) ≤ a by omega), spec_BitsSize_ev, Option.bind_some]
  rw [if_pos (show 0 ≤ (1 : Int) ∧ (1 : Int) ≤ 2000 ∧ 0 ≤ (w : Int) ∧ (w : Int) ≤ 62 by omega), show ((1 : Int) * w + 7) / 8 = (((w + 7) / 8 : Nat) : Int) by omega]
  refine Ev.bind (spec_WordPut_ev _ _ (by omega)) ?_
  rw [if_pos (by omega), show (((w + 7) / 8 : Nat) : Int).toNat = (w + 7) / 8 by omega]
  simp only [if_pos (show (acc ++ u).length + (wbytes (rd l (a : Int)) ((w + 7) / 8)).length < 140737488355328 by rw [List.length_append, wbytes_len]; omega)]
  exact h
theorem spec_RunPack_fin (l : List Int) (w : Nat) (hw : w ≤ 24) (b g m : Nat) (hg : g ≤ 2000) (hmg : m = 2 * g + 1) (p : List Int) (hp : p.length = 8 * g) (acc : List Int) (hacc : acc.length ≤ 100000) (R : List Int × Bool)
  (h : Ev (fun k => spec_RunPack.l1 k l w (acc ++ uvb m ++ packB p w) b) R) :
  Ev (fun k => spec_RunPack.j4 k l w acc b p false) R := by
 have hm : 8 * g * w ≤ 16000 * 24 := Nat.mul_le_mul (by omega) hw
 have hml : m ≤ 4001 := by omega
 have hmi : 2 * (g : Int) + 1 = (m : Int) := by omega
 have h10 := uvb_len10 m (Nat.lt_of_le_of_lt hml (by decide))
 have hs : (p.length : Int) / 8 = (g : Int) := by omega
 have hpl : (packB p w).length ≤ 100000 := by rw [packB_len, hp]; omega
 have hpl2 : p.length ≤ 100000 := by omega
 clear hp hm hmg
 have hux : ux (m : Int) = m := ux_nat m (Nat.lt_of_le_of_lt hml (by decide))
 have e := spec_UvarPut_ev (m : Int) (by omega) (by omega)
 have e2 := spec_l8Bits_ev p w (by omega) hpl2
 rw [hux] at e
 generalize uvb m = u at h h10 e
 generalize packB p w = q at h hpl e2
 refine Ev.step (f := fun k => (spec_UvarPut.f k (m : Int)).bind fun t173 => (if acc.length + t173.length < 140737488355328 then ((some (acc ++ t173 : List Int)).bind fun y176 => ((spec_l8Bits.f k p w).bind fun t179 => (if y176.length + t179.length < 140737488355328 then (spec_RunPack.l1 k l w (y176 ++ t179) b) else (none)))) else (none))) (fun k => ?_) ?_
 ·simp only [spec_RunPack.j4]
  rw [if_neg (by simp), hs, wrap_id (n := (g : Int)) (by omega) (by omega), wrap_id (n := 2 * (g : Int)) (by omega) (by omega), wrap_id (n := 2 * (g : Int) + 1) (by omega) (by omega), hmi]
 exact ev_app (F := fun k y => spec_RunPack.l1 k l w y b) e e2 (by omega) (by rw [List.length_append]; omega) h
theorem spec_RunPack_in (l : List Int) (w a : Nat) (hlen : l.length ≤ 2000) (acc : List Int) : ∀ (d j g : Nat), j + d = 8 → a + 8 * g < l.length + 8 → ∀ R : List Int × Bool, Ev (fun k => spec_RunPack.l2 k l w acc ((a + 8 * (g + 1) : Nat) : Int) (pad l a (8 * (g + 1)))) R → Ev (fun k => spec_RunPack.l3 k l w acc ((a + 8 * g : Nat) : Int) (pad l a (8 * g + j)) j) R := by
 intro d
 induction d with
 | zero =>
  intro j g hj hg R h
  refine Ev.step (fun k => ?_) h
  simp only [spec_RunPack.l3]
  rw [if_neg (by omega), show wrap64 (((a + 8 * g : Nat) : Int) + 8) = ((a + 8 * (g + 1) : Nat) : Int) by rw [wrap_id (by omega) (by omega)]; omega, show 8 * g + j = 8 * (g + 1) by omega]
 | succ d ihd =>
  intro j g hj hg R h
  refine Ev.step (fun k => ?_) (ihd (j + 1) g (by omega) hg R h)
  simp only [spec_RunPack.l3]
  rw [if_pos (by omega), wrap_id (n := ((a + 8 * g : Nat) : Int) + j) (by omega) (by omega), wrap_id (n := (j : Int) + 1) (by omega) (by omega), pad_len, show 8 * g + (j + 1) = (8 * g + j) + 1 by omega, pad_succ, show a + (8 * g + j) = a + 8 * g + j by omega]
  by_cases hin : a + 8 * g + j < l.length
  ·rw [if_pos (by omega), if_pos (by omega), if_pos (by omega), ← ih_cast (a + 8 * g) j, show (j : Int) + 1 = ((j + 1 : Nat) : Int) by omega]
  ·rw [if_neg (by omega), if_pos (by omega), rd_out l (a + 8 * g + j) (by omega), show (j : Int) + 1 = ((j + 1 : Nat) : Int) by omega]
theorem spec_RunPack_g (l : List Int) (w a G : Nat) (hlen : l.length ≤ 2000) (acc : List Int) (R : List Int × Bool) (fin : Ev (fun k => spec_RunPack.j4 k l w acc ((a + 8 * G : Nat) : Int) (pad l a (8 * G)) false) R) :
  ∀ (d g : Nat), 1 ≤ g → l.length ≤ a + 8 * g + 8 * d → a + 8 * g < l.length + 8 → grpF l a d g = G → Ev (fun k => spec_RunPack.l2 k l w acc ((a + 8 * g : Nat) : Int) (pad l a (8 * g))) R := by
 intro d
 induction d with
 | zero =>
  intro g h1 h2 h3 h4
  have h4 : g = G := h4
  subst h4
  refine Ev.step (fun k => ?_) fin
  simp only [spec_RunPack.l2]; rw [if_neg (by omega)]
 | succ d ihd =>
  intro g h1 h2 h3 h4
  unfold grpF at h4
  by_cases hc : a + 8 * g < l.length
  ·refine Ev.step (f := fun k => (spec_l8Alike.f k l ((a + 8 * g : Nat) : Int)).bind fun t => spec_RunPack.j4 k l w acc ((a + 8 * g : Nat) : Int) (pad l a (8 * g)) (decide (t < 8))) (fun k => ?_) ?_
   ·simp only [spec_RunPack.l2]; rw [if_pos (by omega), if_neg (by rw [pad_len]; omega)]
   refine Ev.bind (spec_l8Alike_ev l _ (by omega) (by omega)) ?_
   by_cases hk : alk l (a + 8 * g) < 8
   ·rw [if_pos ⟨hc, hk⟩] at h4
    rw [decide_eq_true (show ((alk l (a + 8 * g) : Nat) : Int) < 8 by omega)]
    refine Ev.step (f := fun k => spec_RunPack.l3 k l w acc ((a + 8 * g : Nat) : Int) (pad l a (8 * g)) 0) (fun k => by simp only [spec_RunPack.j4]; rw [if_pos trivial]) ?_
    exact spec_RunPack_in l w a hlen acc 8 0 g (by omega) (by omega) _ (ihd (g + 1) (by omega) (by omega) (by omega) h4)
   ·rw [if_neg (fun h => hk h.2)] at h4
    rw [decide_eq_false (show ¬ ((alk l (a + 8 * g) : Nat) : Int) < 8 by omega)]
    rw [h4]; exact fin
  ·rw [if_neg (fun h => hc h.1)] at h4
   rw [h4]
   refine Ev.step (fun k => ?_) fin
   simp only [spec_RunPack.l2]; rw [if_neg (by omega)]
theorem spec_RunPack_l (l : List Int) (w : Nat) (hw : w ≤ 24) (hlen : l.length ≤ 2000) : ∀ (f a : Nat) (acc : List Int), l.length < a + f → a < l.length + 8 → acc.length ≤ 40 * a →
  Ev (fun k => spec_RunPack.l1 k l w acc a) (acc ++ rpkF l w f a, true) := by
 intro f
 induction f with
 | zero =>
  intro a acc hf ha hacc
  refine Ev.step (f := fun _ => some (acc ++ rpkF l w 0 a, true)) (fun k => ?_) (Ev.now _)
  simp only [spec_RunPack.l1]
  rw [if_neg (by omega), show rpkF l w 0 a = [] from rfl, List.append_nil]
 | succ f ih =>
  intro a acc hf ha hacc
  rw [rpkF_succ]
  by_cases hal : a < l.length
  ·rw [if_pos hal]
   refine Ev.step (fun k => by simp only [spec_RunPack.l1]; rw [if_pos (show (a : Int) < l.length by omega)]) ?_
   refine Ev.bind (spec_l8Alike_ev l a (by omega) (by omega)) ?_
   have hak := alk_le l a (by omega)
   by_cases h8 : 8 ≤ alk l a
   ·rw [if_pos h8]
    have hu := uvb_len10 (2 * alk l a) (by omega)
    have h := ih (a + alk l a) (acc ++ uvb (2 * alk l a) ++ wbytes (rd l (a : Int)) ((w + 7) / 8)) (by omega) (by omega) (by rw [List.length_append, List.length_append, wbytes_len]; omega)
    rw [app4] at h
    simp only [if_pos (show ((alk l a : Nat) : Int) ≥ 8 by omega)]
    exact spec_RunPack_a l w hw a (alk l a) (by omega) (by omega) acc (by omega) _ h
   ·rw [if_neg h8]
    have hg1 := grp_ge l a
    have hg2 := grp_le l a hal
    have h10 := uvb_len10 (2 * grp l a + 1) (by omega)
    have hm : 8 * grp l a * w ≤ 8 * grp l a * 24 := Nat.mul_le_mul_left _ hw
    simp only [if_neg (show ¬ ((alk l a : Nat) : Int) ≥ 8 by omega)]
    have h := ih (a + 8 * grp l a) (acc ++ uvb (2 * grp l a + 1) ++ packB (pad l a (8 * grp l a)) w) (by omega) (by omega) (by rw [List.length_append, List.length_append, packB_len, pad_len]; omega)
    rw [app4] at h
    have fin := spec_RunPack_fin l w hw _ (grp l a) _ (by omega) rfl (pad l a (8 * grp l a)) (pad_len _ _ _) acc (by omega) _ h
    have h2 := spec_RunPack_in l w a hlen acc 8 0 0 (by omega) (by omega) _ (spec_RunPack_g l w a (grp l a) hlen acc _ fin l.length 1 (by omega) (by omega) (by omega) rfl)
    rw [show a + 8 * 0 = a by omega, show 8 * 0 + 0 = 0 from rfl, show pad l a 0 = [] from rfl] at h2
    refine Ev.step (f := fun k => spec_RunPack.j4 k l w acc (a : Int) [] true) (fun k => ?_) ?_
    ·simp only [spec_RunPack.l2]; rw [if_pos (by omega), if_pos (by simp)]
    refine Ev.step (f := fun k => spec_RunPack.l3 k l w acc (a : Int) [] 0) (fun k => by simp only [spec_RunPack.j4]; rw [if_pos trivial]) ?_
    exact h2
  ·rw [if_neg hal, List.append_nil]
   refine Ev.step (f := fun _ => some (acc, true)) (fun k => ?_) (Ev.now _)
   simp only [spec_RunPack.l1]
   rw [if_neg (by omega)]
theorem spec_RunPack_ev (l : List Int) (w : Int) (hl : ∀ x ∈ l, (Lit.int .i64 x).wf = true) : Ev (fun k => spec_RunPack.f k l w) (rpk l w) := by
 have bad : ∀ l' w', Ev (fun k => spec_RunPack.j0 k l' w' [] true) ([], false) := fun l' w' => Ev.step (f := fun _ => some ([], false)) (fun k => by simp only [spec_RunPack.j0]; rw [if_pos trivial]) (Ev.now _)
 unfold spec_RunPack.f spec_l8Width.f rpk
 simp only [spec_l1In_ev, Option.bind_some]
 by_cases hw : 0 ≤ w ∧ w ≤ 24
 ·simp only [decide_eq_true hw, if_true]
  obtain ⟨v, rfl⟩ := Int.eq_ofNat_of_zero_le hw.1
  by_cases h2 : l.length ≤ 2000
  ·rw [decide_eq_false (show ¬ (l.length : Int) > 2000 by omega)]
   refine Ev.step (f := fun k => spec_RunPack.l0 k l v [] 0) (fun k => by simp only [spec_RunPack.j0]; rw [if_neg (by simp)]) ?_
   have key : ∀ (d i : Nat), i + d = l.length → (∀ n ∈ l.take i, 0 ≤ n ∧ (blen n.toNat : Int) ≤ v) → Ev (fun k => spec_RunPack.l0 k l v [] i) (if ∀ n ∈ l, 0 ≤ n ∧ (blen n.toNat : Int) ≤ v then (rpkF l v (l.length + 1) 0, true) else ([], false)) := by
    intro d
    induction d with
    | zero =>
     intro i hi hf
     rw [show i = l.length by omega, List.take_length] at hf
     rw [if_pos hf]
     have h := spec_RunPack_l l v (by omega) h2 (l.length + 1) 0 [] (by omega) (by omega) (by simp)
     refine Ev.step (fun k => ?_) h
     simp only [spec_RunPack.l0]; rw [if_neg (by omega)]; rfl
    | succ d ih =>
     intro i hi hf
     have hm : rd l i = l[i] := rd_eq l i (by omega)
     have hmem : l[i] ∈ l := List.getElem_mem _
     have hwf := wf64 (hl _ hmem)
     by_cases hn : l[i] < 0
     ·rw [if_neg (fun h => by have := (h _ hmem).1; omega)]
      refine Ev.step (f := fun _ => some ([], false)) (fun k => ?_) (Ev.now _)
      simp only [spec_RunPack.l0]; rw [if_pos (by omega), if_pos (by omega), hm, if_pos hn]
     ·have hz := shr_zero_iff (l[i]) v (by omega) (show v ≤ 62 by omega)
      by_cases hb : (blen (l[i]).toNat : Int) ≤ v
      ·rw [decide_eq_true hb] at hz
       have hz' : shr .i64 l[i] v = 0 := by simpa using hz
       refine Ev.step (fun k => ?_) (ih (i + 1) (by omega) (by
        intro n hn2
        rw [List.take_succ_eq_append_getElem (by omega)] at hn2
        rcases List.mem_append.1 hn2 with h|h
        ·exact hf n h
        ·rw [List.mem_singleton] at h; subst h; exact ⟨by omega, hb⟩))
       simp only [spec_RunPack.l0]; rw [if_pos (by omega), if_pos (by omega), hm, if_neg hn, if_pos (by omega), if_pos hz', wrap_id (by omega) (by omega)]; push_cast; rfl
      ·rw [decide_eq_false hb] at hz
       have hz' : ¬ shr .i64 l[i] v = 0 := by simpa using hz
       rw [if_neg (fun h => hb (h _ hmem).2)]
       refine Ev.step (f := fun _ => some ([], false)) (fun k => ?_) (Ev.now _)
       simp only [spec_RunPack.l0]; rw [if_pos (by omega), if_pos (by omega), hm, if_neg hn, if_pos (by omega), if_neg hz']
   have h := key l.length 0 (by omega) (by simp)
   by_cases hf : ∀ n ∈ l, 0 ≤ n ∧ (blen n.toNat : Int) ≤ v
   ·rw [if_pos hf] at h
    rw [if_pos ⟨h2, hw.1, hw.2, hf⟩, show (v : Int).toNat = v by omega]; exact h
   ·rw [if_neg hf] at h
    rw [if_neg (fun h => hf h.2.2.2)]; exact h
  ·rw [decide_eq_true (show (l.length : Int) > 2000 by omega), if_neg (fun h => h2 h.1)]; exact bad _ _
 ·simp only [decide_eq_false hw, Bool.false_eq_true, if_false]
  rw [if_neg (fun h => hw ⟨h.2.1, h.2.2.1⟩)]; exact bad _ _

theorem spec_BitsWidth_l (d : Nat) : ∀ (n : Nat) (w : Nat), blen n = d → w + d ≤ 100 → n < 9223372036854775808 → Ev (fun k => spec_BitsWidth.l0 k n w) (if w + blen n > 62 then -1 else ((w + blen n : Nat) : Int)) := by
 induction d with
 | zero =>
  intro n w hd hw hn
  have hz : n = 0 := by have := (blen_le n 0).1 (by omega); simpa using this
  subst hz
  refine Ev.step (f := fun _ => some (if w + blen 0 > 62 then -1 else ((w + blen 0 : Nat) : Int))) (fun k => ?_) (Ev.now _)
  simp only [spec_BitsWidth.l0]
  rw [if_neg (show ¬ ((0 : Nat) : Int) > 0 by omega), hd, Nat.add_zero]
  by_cases h : w > 62
  ·rw [if_pos (show (w : Int) > 62 by omega), if_pos h]
  ·rw [if_neg (show ¬ (w : Int) > 62 by omega), if_neg h]
 | succ d ih =>
  intro n w hd hw hn
  have hpos : 0 < n := by
   rcases Nat.eq_zero_or_pos n with h|h
   ·subst h; simp [blen] at hd
   ·exact h
  have e := blen_half n hpos
  have h := ih (n / 2 ^ 1) (w + 1) (by omega) (by omega) (by omega)
  rw [show w + 1 + blen (n / 2 ^ 1) = w + blen n by omega] at h
  refine Ev.step (fun k => ?_) h
  simp only [spec_BitsWidth.l0]
  rw [if_pos (by omega), Int.tdiv_eq_ediv_of_nonneg (by omega), wrap_id (n := (n : Int) / 2) (by omega) (by omega), wrap_id (by omega) (by omega)]
  push_cast; rfl
theorem spec_BitsWidth_ev (m : Int) (h1 : m < 9223372036854775808) : Ev (fun k => spec_BitsWidth.f k m) (bw m) := by
 unfold spec_BitsWidth.f bw
 by_cases h : m < 0
 ·simp only [if_pos h]; exact Ev.now _
 ·simp only [if_neg h]
  have hb : blen m.toNat ≤ 63 := (blen_le _ _).2 (by omega)
  have := spec_BitsWidth_l (blen m.toNat) m.toNat 0 rfl (by omega) (by omega)
  rw [Int.toNat_of_nonneg (by omega)] at this
  simpa using this

theorem spec_LevelsPack_ev (l : List Int) (m : Int) (hl : ∀ x ∈ l, (Lit.int .i64 x).wf = true) (hlen : l.length ≤ 1000000000) : Ev (fun k => spec_LevelsPack.f k l m) (lpk l m) := by
 unfold spec_LevelsPack.f lpk
 simp only [spec_l1In_ev, Option.bind_some]
 by_cases hm : 0 ≤ m ∧ m ≤ 255
 ·simp only [decide_eq_true hm, if_true]
  have key : ∀ (d i : Nat), i + d = l.length → (∀ n ∈ l.take i, 0 ≤ n ∧ n ≤ m) → Ev (fun k => spec_LevelsPack.l0 k l m i) (if ∀ x ∈ l, 0 ≤ x ∧ x ≤ m then (if (rpk l (bw m)).2 = true then (if m = 0 then ([], true) else (wbytes ((rpk l (bw m)).1.length : Int) 4 ++ (rpk l (bw m)).1, true)) else ([], false)) else ([], false)) := by
   intro d
   induction d with
   | zero =>
    intro i hi hf
    rw [show i = l.length by omega, List.take_length] at hf
    rw [if_pos hf]
    refine Ev.step (fun k => by simp only [spec_LevelsPack.l0]; rw [if_neg (show ¬ (i : Int) < l.length by omega)]) ?_
    refine Ev.bind (spec_BitsWidth_ev m (by omega)) ?_
    refine Ev.bind (spec_RunPack_ev l _ hl) ?_
    have hrl := rpk_len l (bw m)
    generalize rpk l (bw m) = r at hrl ⊢
    obtain ⟨b, ok⟩ := r
    cases ok with
    | true =>
     simp only [if_true]
     by_cases h0 : m = 0
     ·simp only [if_pos h0]; exact Ev.now _
     ·simp only [if_neg h0]
      refine Ev.bind (spec_WordPut_ev _ 4 (by decide)) ?_
      rw [show (if (1 : Int) ≤ 4 ∧ (4 : Int) ≤ 8 then wbytes (b.length : Int) (4 : Int).toNat else []) = wbytes (b.length : Int) 4 by rw [if_pos (by omega)]; rfl]
      exact ev_app1 (show (wbytes (b.length : Int) 4).length + b.length < 140737488355328 by rw [wbytes_len]; simp only at hrl; omega) (Ev.now _)
    | false => simp only [Bool.false_eq_true, if_false]; exact Ev.now _
   | succ d ih =>
    intro i hi hf
    have he : rd l i = l[i] := rd_eq l i (by omega)
    have hmem : l[i] ∈ l := List.getElem_mem _
    by_cases hx : 0 ≤ l[i] ∧ l[i] ≤ m
    ·refine Ev.step (fun k => ?_) (ih (i + 1) (by omega) (by
      intro n hn2
      rw [List.take_succ_eq_append_getElem (by omega)] at hn2
      rcases List.mem_append.1 hn2 with h|h
      ·exact hf n h
      ·rw [List.mem_singleton] at h; subst h; exact hx))
     simp only [spec_LevelsPack.l0, spec_l1In_ev, Option.bind_some]
     rw [if_pos (by omega), if_pos (by omega), he, decide_eq_true hx, if_pos rfl, wrap_id (n := (i : Int) + 1) (by omega) (by omega)]; push_cast; rfl
    ·rw [if_neg (fun h => hx (h _ hmem))]
     refine Ev.step (f := fun _ => some ([], false)) (fun k => ?_) (Ev.now _)
     simp only [spec_LevelsPack.l0, spec_l1In_ev, Option.bind_some]
     rw [if_pos (by omega), if_pos (by omega), he, decide_eq_false hx, if_neg (by simp)]
  have h := key l.length 0 (by omega) (by simp)
  by_cases hf : ∀ x ∈ l, 0 ≤ x ∧ x ≤ m
  ·rw [if_pos hf] at h
   rw [if_pos ⟨hm, hf⟩]; exact h
  ·rw [if_neg hf] at h
   rw [if_neg (fun h => hf h.2)]; exact h
 ·simp only [decide_eq_false hm, Bool.false_eq_true, if_false]
  rw [if_neg (fun h => hm h.1)]; exact Ev.now _

theorem impl_groupsFrom_ev (l : List Int) (a : Nat) (hlen : l.length ≤ 1000000) (ha : a < 1000000) : Ev (fun k => impl_groupsFrom.f k l a) (grp l a) := by
 have unf : ∀ g : Nat, g ≤ 2000000 → ∀ k, impl_groupsFrom.l0 (k + 1) l a g = if ((a + 8 * g : Nat) : Int) < l.length then ((impl_alikeFrom.f k l ((a + 8 * g : Nat) : Int)).bind fun t => if t < 8 then impl_groupsFrom.l0 k l a ((g + 1 : Nat) : Int) else some (g : Int)) else some (g : Int) := by
  intro g hg k
  simp only [impl_groupsFrom.l0]
  rw [wrap_id (n := 8 * (g : Int)) (by omega) (by omega), wrap_id (n := (a : Int) + 8 * g) (by omega) (by omega), wrap_id (n := (g : Int) + 1) (by omega) (by omega)]
  push_cast; rfl
 have key : ∀ (d g : Nat), l.length ≤ a + 8 * g + 8 * d → g ≤ 1000000 → Ev (fun k => impl_groupsFrom.l0 k l a g) (grpF l a d g) := by
  intro d
  induction d with
  | zero =>
   intro g h hg
   refine Ev.step (f := fun _ => some (g : Int)) (fun k => ?_) (Ev.now _)
   rw [unf g (by omega), if_neg (by omega)]
  | succ d ih =>
   intro g h hg
   unfold grpF
   by_cases h1 : a + 8 * g < l.length
   ·refine Ev.step (f := fun k => (impl_alikeFrom.f k l ((a + 8 * g : Nat) : Int)).bind fun t => if t < 8 then impl_groupsFrom.l0 k l a ((g + 1 : Nat) : Int) else some (g : Int)) (fun k => by rw [unf g (by omega), if_pos (by omega)]) ?_
    refine Ev.bind (impl_alikeFrom_ev l _ (by omega) (by omega)) ?_
    by_cases h2 : alk l (a + 8 * g) < 8
    ·rw [if_pos ⟨h1, h2⟩]
     simp only [if_pos (show ((alk l (a + 8 * g) : Nat) : Int) < 8 by omega)]
     exact ih (g + 1) (by omega) (by omega)
    ·rw [if_neg (fun h => h2 h.2)]
     simp only [if_neg (show ¬ ((alk l (a + 8 * g) : Nat) : Int) < 8 by omega)]
     exact Ev.now _
   ·rw [if_neg (fun h => h1 h.1)]
    refine Ev.step (f := fun _ => some (g : Int)) (fun k => ?_) (Ev.now _)
    rw [unf g (by omega), if_neg (by omega)]
 exact key l.length 1 (by omega) (by omega)

theorem impl_within_ev (x a b : Int) : impl_within.f x a b = some (decide (a ≤ x ∧ x ≤ b)) := by
 unfold impl_within.f
 by_cases h : x ≥ a
 ·rw [if_pos h]; congr 1; simp [show a ≤ x from h]
 ·rw [if_neg h]; congr 1; simp [show ¬ a ≤ x from h]

theorem impl_packed_ev (l : List Int) (w : Nat) (hw : w ≤ 64) (hlen : l.length ≤ 1000000000) :
  Ev (fun k => impl_packed.f k l w) (packB l w) := by
 have hmul : l.length * w ≤ 64000000000 := by
  calc l.length * w ≤ 1000000000 * 64 := Nat.mul_le_mul hlen hw
   _ = 64000000000 := by decide
 have hmulc : ((l.length * w : Nat) : Int) = (l.length : Int) * w := by push_cast; rfl
 have inner : ∀ (d i j : Nat), i < l.length → j + d = w →
   ∀ R : List Int, Ev (fun k => impl_packed.l0 k w (bofB (upTo (pbit l w) ((i + 1) * w)) ((l.length * w + 7) / 8)) l l.length ((i + 1 : Nat) : Int)) R →
   Ev (fun k => impl_packed.l1 k w (bofB (upTo (pbit l w) (i * w + j)) ((l.length * w + 7) / 8)) i (rd l i) l l.length i w j) R := by
  intro d
  induction d with
  | zero =>
   intro i j hi hj R h
   refine Ev.step (fun k => ?_) h
   simp only [impl_packed.l1]
   rw [if_neg (by omega), wrap_id (n := (i : Int) + 1) (by omega) (by omega), show j = w by omega, Nat.succ_mul]
   push_cast; rfl
  | succ d ih =>
   intro i j hi hj R h
   have hP : i * w + j < l.length * w := by
    have : (i + 1) * w ≤ l.length * w := Nat.mul_le_mul_right w hi
    rw [Nat.succ_mul] at this; omega
   have hc : ((i * w : Nat) : Int) = (i : Int) * w := by push_cast; rfl
   refine Ev.step (fun k => ?_) (ih i (j + 1) hi (by omega) R h)
   simp only [impl_packed.l1]
   rw [if_pos (by omega), ← hc, wrap_id (n := ((i * w : Nat) : Int)) (by omega) (by omega), wrap_id (n := ((i * w : Nat) : Int) + j) (by omega) (by omega)]
   rw [Int.tdiv_eq_ediv_of_nonneg (by omega), Int.tmod_eq_emod_of_nonneg (by omega), wrap_id (n := (((i * w : Nat) : Int) + j) / 8) (by omega) (by omega)]
   rw [if_pos (by omega), if_pos (by rw [bofB_len]; omega), if_pos (by omega), if_pos (by omega), wrap_id (n := (j : Int) + 1) (by omega) (by omega)]
   have hb : Go.bits .and .i64 (shr .i64 (rd l i) j) 1 = pbit l w (i * w + j) := by
    rw [and_one, shr64 _ _ (by omega) (by omega), pbit_at l w i j (by omega)]; rfl
   have hbits := pbit_bits l w (i * w + j)
   rw [hb, show pbit l w (i * w + j) % 256 = pbit l w (i * w + j) by omega, shl8 _ _ (by omega) (by omega) hbits]
   rw [rd_bofB _ _ _ (by omega) (by omega)]
   have hst := byteOf_step (pbit_bits l w) ((i * w + j) / 8) ((i * w + j) % 8) (by omega)
   rw [show 8 * ((i * w + j) / 8) + (i * w + j) % 8 = i * w + j by omega] at hst
   rw [show ((((i * w : Nat) : Int) + j) % 8).toNat = (i * w + j) % 8 by omega, show ((((i * w : Nat) : Int) + j) / 8).toNat = (i * w + j) / 8 by omega]
   rw [or8 _ _ _ (by omega) hst.1 hst.2.1 hbits, ← hst.2.2, bofB_set _ _ _ _ rfl]
   push_cast; rfl
 have outer : ∀ (d i : Nat), i + d = l.length → Ev (fun k => impl_packed.l0 k w (bofB (upTo (pbit l w) (i * w)) ((l.length * w + 7) / 8)) l l.length i) (packB l w) := by
  intro d
  induction d with
  | zero =>
   intro i hi
   refine Ev.step (f := fun _ => some (packB l w)) (fun k => ?_) (Ev.now _)
   simp only [impl_packed.l0]; rw [if_neg (by omega), show i = l.length by omega]; rfl
  | succ d ih =>
   intro i hi
   refine Ev.step (fun k => ?_) (inner w i 0 (by omega) (by omega) _ (ih (i + 1) (by omega)))
   simp only [impl_packed.l0]; rw [if_pos (by omega), if_pos (by omega), if_pos (by omega)]; rfl
 have h := outer l.length 0 (by omega)
 unfold impl_packed.f
 rw [← hmulc, wrap_id (n := ((l.length * w : Nat) : Int)) (by omega) (by omega), wrap_id (n := ((l.length * w : Nat) : Int) + 7) (by omega) (by omega), Int.tdiv_eq_ediv_of_nonneg (by omega), wrap_id (by omega) (by omega)]
 simp only [if_pos (show (0 : Int) ≤ (((l.length * w : Nat) : Int) + 7) / 8 by omega), if_pos (show ((((l.length * w : Nat) : Int) + 7) / 8).toNat ≤ 281474976710656 by omega)]
 rw [show ((((l.length * w : Nat) : Int) + 7) / 8).toNat = (l.length * w + 7) / 8 by omega, bofB_zero (pbit l w)]
 simpa using h

def fits (w : Int) (n : Int) : Prop := 0 ≤ n ∧ (blen n.toNat : Int) ≤ w
instance (w n : Int) : Decidable (fits w n) := by unfold fits; exact inferInstance
def bpk (l : List Int) (w : Int) : List Int × Bool := if l.length ≤ 2000 ∧ 0 ≤ w ∧ w ≤ 62 ∧ ∀ n ∈ l, fits w n then (packB l w.toNat, true) else ([], false)
theorem impl_BitsPack_ev (l : List Int) (w : Int) (hl : ∀ x ∈ l, (Lit.int .i64 x).wf = true) : Ev (fun k => impl_BitsPack.f k l w) (bpk l w) := by
 have bad : ∀ l' w', Ev (fun k => impl_BitsPack.j0 k l' w' true) ([], false) := fun l' w' => Ev.step (f := fun _ => some ([], false)) (fun k => by simp only [impl_BitsPack.j0]; rw [if_pos trivial]) (Ev.now _)
 unfold impl_BitsPack.f bpk
 by_cases h2 : l.length ≤ 2000
 ·simp only [if_neg (show ¬ (l.length : Int) > 2000 by omega), impl_within_ev, Option.bind_some]
  by_cases hw : 0 ≤ w ∧ w ≤ 62
  ·simp only [decide_eq_true hw, Bool.not_true]
   have key : ∀ (d i : Nat), i + d = l.length → (∀ n ∈ l.take i, fits w n) → Ev (fun k => impl_BitsPack.l0 k l w l l.length i) (if ∀ n ∈ l, fits w n then (packB l w.toNat, true) else ([], false)) := by
    intro d
    induction d with
    | zero =>
     intro i hi hf
     rw [show i = l.length by omega, List.take_length] at hf
     rw [if_pos hf]
     refine Ev.step (f := fun k => (impl_packed.f k l w).bind fun t => some (t, true)) (fun k => ?_) ?_
     ·simp only [impl_BitsPack.l0]; rw [if_neg (by omega)]
     ·have := impl_packed_ev l w.toNat (by omega) (by omega)
      rw [Int.toNat_of_nonneg hw.1] at this
      refine Ev.bind this ?_
      exact Ev.now _
    | succ d ih =>
     intro i hi hf
     have hm : rd l i = l[i] := rd_eq l i (by omega)
     have hmem : l[i] ∈ l := List.getElem_mem _
     have hwf := wf64 (hl _ hmem)
     by_cases hn : l[i] < 0
     ·rw [if_neg (fun h => by have := (h _ hmem).1; omega)]
      refine Ev.step (f := fun _ => some ([], false)) (fun k => ?_) (Ev.now _)
      simp only [impl_BitsPack.l0]; rw [if_pos (by omega), if_pos (by omega), if_pos (by omega), hm, if_pos hn]
     ·by_cases hb : (blen (l[i]).toNat : Int) ≤ w
      ·have hnext := ih (i + 1) (by omega) (by
        intro n hn2
        rw [List.take_succ_eq_append_getElem (by omega)] at hn2
        rcases List.mem_append.1 hn2 with h|h
        ·exact hf n h
        ·rw [List.mem_singleton] at h; subst h; exact ⟨by omega, hb⟩)
       refine Ev.step (f := fun k => (impl_widthOf.f k l[i]).bind fun t => if t > w then some ([], false) else impl_BitsPack.l0 k l w l l.length ((i + 1 : Nat) : Int)) (fun k => ?_) ?_
       ·simp only [impl_BitsPack.l0]; rw [if_pos (by omega), if_pos (by omega), if_pos (by omega), hm, if_neg hn, wrap_id (by omega) (by omega)]; push_cast; rfl
       ·refine Ev.bind (impl_widthOf_ev _ (by omega) hwf.2) ?_
        simp only [if_neg (show ¬ (blen (l[i]).toNat : Int) > w by omega)]; exact hnext
      ·rw [if_neg (fun h => hb (h _ hmem).2)]
       refine Ev.step (f := fun k => (impl_widthOf.f k l[i]).bind fun t => if t > w then some ([], false) else impl_BitsPack.l0 k l w l l.length ((i + 1 : Nat) : Int)) (fun k => ?_) ?_
       ·simp only [impl_BitsPack.l0]; rw [if_pos (by omega), if_pos (by omega), if_pos (by omega), hm, if_neg hn, wrap_id (by omega) (by omega)]; push_cast; rfl
       ·refine Ev.bind (impl_widthOf_ev _ (by omega) hwf.2) ?_
        simp only [if_pos (show (blen (l[i]).toNat : Int) > w by omega)]; exact Ev.now _
   have h := key l.length 0 (by omega) (by simp)
   have e : (if l.length ≤ 2000 ∧ 0 ≤ w ∧ w ≤ 62 ∧ ∀ n ∈ l, fits w n then (packB l w.toNat, true) else ([], false)) = (if ∀ n ∈ l, fits w n then (packB l w.toNat, true) else ([], false)) := by
    by_cases hf : ∀ n ∈ l, fits w n
    ·rw [if_pos ⟨h2, hw.1, hw.2, hf⟩, if_pos hf]
    ·rw [if_neg (fun h => hf h.2.2.2), if_neg hf]
   rw [e]
   refine Ev.step (fun k => ?_) h
   simp only [impl_BitsPack.j0]; rw [if_neg (by simp)]; rfl
  ·simp only [decide_eq_false hw, Bool.not_false]
   rw [if_neg (fun h => hw ⟨h.2.1, h.2.2.1⟩)]; exact bad _ _
 ·simp only [if_pos (show (l.length : Int) > 2000 by omega)]
  rw [if_neg (fun h => h2 h.1)]; exact bad _ _

theorem impl_UvarPut_l (j : Nat) : ∀ (n : Nat) (acc : List Int), n < 18446744073709551616 → n < 128 ^ (j + 1) → acc.length + j ≤ 100000000000 →
  Ev (fun k => impl_UvarPut.l0 k n acc) (acc ++ uvb n) := by
 have last : ∀ (n : Nat) (acc : List Int), n < 128 → acc.length ≤ 100000000000 → Ev (fun k => impl_UvarPut.l0 k n acc) (acc ++ uvb n) := by
  intro n acc hs hl
  refine Ev.step (f := fun _ => some (acc ++ uvb n)) (fun k => ?_) (Ev.now _)
  simp only [impl_UvarPut.l0]
  rw [uvb, if_pos hs, if_neg (by omega), if_pos (by omega)]
  congr 3; omega
 induction j with
 | zero => intro n acc h hx hl; exact last n acc (by simpa using hx) (by omega)
 | succ j ih =>
  intro n acc h hx hl
  by_cases hs : n < 128
  ·exact last n acc hs (by omega)
  ·have hd : n / 128 < 128 ^ (j + 1) := by rw [Nat.div_lt_iff_lt_mul (by decide)]; rw [Nat.pow_succ] at hx; exact hx
   have h := ih (n / 128) (acc ++ [((n % 128 + 128 : Nat) : Int)]) (by omega) hd (by simp; omega)
   rw [List.append_assoc, List.singleton_append] at h
   rw [uvb, if_neg hs]
   refine Ev.step (fun k => ?_) h
   simp only [impl_UvarPut.l0]
   rw [if_pos (by omega), if_pos (by omega)]
   have e2 : (Go.bits .or .u64 (Go.bits .and .u64 (n : Int) 127) 128) % 256 = ((n % 128 + 128 : Nat) : Int) := by
    rw [and127u _ (by omega) (by omega), show (128 : Int) = 1 * 2 ^ 7 by rfl, or_addu _ 1 7 (by omega) (by omega) (by omega) (by omega)]; omega
   rw [e2]; congr 1
theorem impl_UvarPut_ev (x : Int) : Ev (fun k => impl_UvarPut.f k x) (uvb (ux x)) := by
 have h := impl_UvarPut_l 9 (ux x) [] (ux_lt x) (Nat.lt_of_lt_of_le (ux_lt x) (by decide)) (by simp)
 unfold impl_UvarPut.f
 rw [uwrap, show x % 18446744073709551616 = (ux x : Int) by unfold ux; omega]
 simpa using h

theorem impl_WordPut_ev (x : Int) (n : Int) (h : n < 9223372036854775808) : Ev (fun k => impl_WordPut.f k x n) (if 1 ≤ n ∧ n ≤ 8 then wbytes x n.toNat else []) := by
 unfold impl_WordPut.f
 simp only [impl_within_ev, Option.bind_some]
 by_cases hn : 1 ≤ n ∧ n ≤ 8
 ·have key : ∀ (d : Nat) (i : Nat), (i : Int) + d = n → Ev (fun k => impl_WordPut.l0 k x (wbytes x i) n i) (wbytes x n.toNat) := by
   intro d
   induction d with
   | zero =>
    intro i hd
    refine Ev.step (f := fun _ => some (wbytes x n.toNat)) (fun k => ?_) (Ev.now _)
    simp only [impl_WordPut.l0]; rw [if_neg (by omega), show n.toNat = i by omega]
   | succ d ih =>
    intro i hd
    refine Ev.step (f := fun k => impl_WordPut.l0 k x (wbytes x (i + 1)) n (i + 1 : Nat)) (fun k => ?_) (ih (i + 1) (by omega))
    simp only [impl_WordPut.l0]
    rw [if_pos (by omega), wrap_id (n := 8 * (i : Int)) (by omega) (by omega), if_pos (by omega), if_pos (by rw [wbytes_len]; omega), wrap_id (by omega) (by omega), shr64 _ _ (by omega) (by omega), wbytes_succ, show (8 * (i : Int)).toNat = 8 * i by omega]
    push_cast; rfl
  have h := key n.toNat 0 (by omega)
  rw [if_pos hn]
  simp only [decide_eq_true hn, if_true]
  simpa [wbytes] using h
 ·rw [if_neg hn]
  simp only [decide_eq_false hn, Bool.false_eq_true, if_false]; exact Ev.now _

theorem impl_BitsSize_ev (n w : Int) : impl_BitsSize.f n w = some (if 0 ≤ n ∧ n ≤ 2000 ∧ 0 ≤ w ∧ w ≤ 62 then (n * w + 7) / 8 else -1) := by
 unfold impl_BitsSize.f
 simp only [impl_within_ev, Option.bind_some]
 by_cases h1 : 0 ≤ n ∧ n ≤ 2000
 ·simp only [decide_eq_true h1, if_true]
  by_cases h2 : 0 ≤ w ∧ w ≤ 62
  ·simp only [decide_eq_true h2, if_true]
   have hm0 : 0 ≤ n * w := Int.mul_nonneg h1.1 h2.1
   have hm : n * w ≤ 2000 * 62 := Int.mul_le_mul h1.2 h2.2 h2.1 (by omega)
   rw [if_pos ⟨h1.1, h1.2, h2.1, h2.2⟩, wrap_id (n := n * w) (by omega) (by omega), wrap_id (n := n * w + 7) (by omega) (by omega), Int.tdiv_eq_ediv_of_nonneg (by omega), wrap_id (by omega) (by omega)]
  ·simp only [decide_eq_false h2, Bool.false_eq_true, if_false]
   rw [if_neg (fun h => h2 h.2.2)]
 ·simp only [decide_eq_false h1, Bool.false_eq_true, if_false]
  rw [if_neg (fun h => h1 ⟨h.1, h.2.1⟩)]

theorem impl_RunPack_a (l : List Int) (w : Nat) (hw : w ≤ 24) (a n : Nat) (hn : n ≤ 2000) (hal : a ≤ 2000) (acc : List Int) (hacc : acc.length ≤ 100000) (R : List Int × Bool)
  (h : Ev (fun k => impl_RunPack.l0 k l w (acc ++ uvb (2 * n) ++ wbytes (rd l (a : Int)) ((w + 7) / 8)) ((a : Int) + n)) R) :
  Ev (fun k => (impl_UvarPut.f k (wrap64 (2 * (n : Int)))).bind fun t234 => (if acc.length + t234.length < 140737488355328 then ((some (acc ++ t234 : List Int)).bind fun y237 => (if 0 ≤ (a : Int) then ((impl_BitsSize.f 1 w).bind fun t241 => ((impl_WordPut.f k (rd l a) t241).bind fun t242 => (if y237.length + t242.length < 140737488355328 then (impl_RunPack.l0 k l w (y237 ++ t242) (wrap64 ((a : Int) + n))) else (none)))) else (none))) else (none))) R := by
 rw [wrap_id (n := 2 * (n : Int)) (by omega) (by omega), wrap_id (n := (a : Int) + n) (by omega) (by omega)]
 have h10 := uvb_len10 (2 * n) (by omega)
 refine Ev.bind (impl_UvarPut_ev _) ?_
 rw [show ux (2 * (n : Int)) = 2 * n by unfold ux; omega]
 generalize uvb (2 * n) = u at h h10 ⊢
 simp only [if_pos (show acc.length + u.length < 140737488355328 by omega), Option.bind_some, if_pos (show (0 : Int) ≤ a by omega), impl_BitsSize_ev]
 rw [if_pos (show 0 ≤ (1 : Int) ∧ (1 : Int) ≤ 2000 ∧ 0 ≤ (w : Int) ∧ (w : Int) ≤ 62 by omega), show ((1 : Int) * w + 7) / 8 = (((w + 7) / 8 : Nat) : Int) by omega]
 refine Ev.bind (impl_WordPut_ev _ _ (by omega)) ?_
 have e : (if 1 ≤ (((w + 7) / 8 : Nat) : Int) ∧ (((w + 7) / 8 : Nat) : Int) ≤ 8 then wbytes (rd l (a : Int)) (((w + 7) / 8 : Nat) : Int).toNat else []) = wbytes (rd l (a : Int)) ((w + 7) / 8) := by
  by_cases h0 : 1 ≤ (w + 7) / 8
  ·rw [if_pos (by omega), Int.toNat_natCast]
  ·rw [if_neg (by omega), show (w + 7) / 8 = 0 by omega]; rfl
 rw [e]
 simp only [if_pos (show (acc ++ u).length + (wbytes (rd l (a : Int)) ((w + 7) / 8)).length < 140737488355328 by rw [List.length_append, wbytes_len]; omega)]
 exact h
theorem impl_RunPack_g (l : List Int) (w : Nat) (hw : w ≤ 24) (hlen : l.length ≤ 2000) (a g m : Nat) (hg : g ≤ 2000) (hmg : m = 2 * g + 1) (hal : a < l.length) (acc : List Int) (hacc : acc.length ≤ 100000) (R : List Int × Bool)
  (h : Ev (fun k => impl_RunPack.l0 k l w (acc ++ uvb m ++ packB (pad l a (8 * g)) w) (mn ((a + 8 * g : Nat) : Int) (l.length : Int))) R) :
  Ev (fun k => (if 0 ≤ (wrap64 (8 * (g : Int))) then (if (wrap64 (8 * (g : Int)) : Int).toNat ≤ 35184372088832 then ((some (List.replicate (wrap64 (8 * (g : Int)) : Int).toNat 0 : List Int)).bind fun y249 => (if 0 ≤ (a : Int) then (if (a : Int) ≤ (l.length : Int) then (if y249.length + (l.drop (a : Int).toNat).length < 17592186044416 then ((impl_UvarPut.f k (wrap64 ((wrap64 (2 * (g : Int))) + 1))).bind fun t256 => (if acc.length + t256.length < 140737488355328 then ((some (acc ++ t256 : List Int)).bind fun y259 => ((impl_packed.f k ((l.drop (a : Int).toNat).take (min (l.drop (a : Int).toNat).length y249.length) ++ y249.drop (min (l.drop (a : Int).toNat).length y249.length)) w).bind fun t262 => (if y259.length + t262.length < 140737488355328 then (impl_RunPack.l0 k l w (y259 ++ t262) (mn (wrap64 ((a : Int) + (wrap64 (8 * (g : Int))))) (l.length : Int))) else (none)))) else (none))) else (none)) else (none)) else (none))) else (none)) else (none))) R := by
 have hm : 8 * g * w ≤ 16000 * 24 := Nat.mul_le_mul (by omega) hw
 have hml : m ≤ 4001 := by omega
 have hmi : 2 * (g : Int) + 1 = (m : Int) := by omega
 have h10 := uvb_len10 m (Nat.lt_of_le_of_lt hml (by decide))
 have hux : ux (m : Int) = m := ux_nat m (Nat.lt_of_le_of_lt hml (by decide))
 have e := impl_UvarPut_ev (m : Int)
 rw [hux] at e
 have e2 := impl_packed_ev (pad l a (8 * g)) w (by omega) (by rw [pad_len]; omega)
 have hpl : (packB (pad l a (8 * g)) w).length ≤ 100000 := by rw [packB_len, pad_len]; omega
 rw [show ((a + 8 * g : Nat) : Int) = (a : Int) + 8 * (g : Int) by push_cast; rfl] at h
 rw [wrap_id (n := 8 * (g : Int)) (by omega) (by omega), wrap_id (n := 2 * (g : Int)) (by omega) (by omega), wrap_id (n := 2 * (g : Int) + 1) (by omega) (by omega), wrap_id (n := (a : Int) + 8 * (g : Int)) (by omega) (by omega), show (8 * (g : Int)).toNat = 8 * g by omega, show (a : Int).toNat = a by omega, hmi]
 clear hmg hm hmi hux hml
 refine ev_if (by omega) (ev_if (by omega) ?_)
 refine Ev.bind (Ev.now _) ?_
 refine ev_if (by omega) (ev_if (by omega) (ev_if (by rw [List.length_replicate, List.length_drop]; omega) ?_))
 rw [List.length_replicate, pad_copy l a (8 * g) (by omega)]
 generalize uvb m = u at h h10 e
 generalize packB (pad l a (8 * g)) w = q at h hpl e2
 exact ev_app (F := fun k y => impl_RunPack.l0 k l w y (mn ((a : Int) + 8 * (g : Int)) (l.length : Int))) e e2 (by omega) (by rw [List.length_append]; omega) h
theorem mn_lt (a b : Int) (h : a ≤ b) : mn a b = a := by unfold mn; split <;> omega
theorem mn_ge (a b : Int) (h : b ≤ a) : mn a b = b := by unfold mn; split <;> omega
theorem impl_RunPack_l (l : List Int) (w : Nat) (hw : w ≤ 24) (hlen : l.length ≤ 2000) : ∀ (f a : Nat) (acc : List Int), l.length < a + f → a < l.length + 8 → acc.length ≤ 40 * a →
  Ev (fun k => impl_RunPack.l0 k l w acc (mn (a : Int) (l.length : Int))) (acc ++ rpkF l w f a, true) := by
 intro f
 induction f with
 | zero =>
  intro a acc hf ha hacc
  rw [mn_ge _ _ (by omega)]
  refine Ev.step (f := fun _ => some (acc ++ rpkF l w 0 a, true)) (fun k => ?_) (Ev.now _)
  simp only [impl_RunPack.l0]
  rw [if_neg (by omega), show rpkF l w 0 a = [] from rfl, List.append_nil]
 | succ f ih =>
  intro a acc hf ha hacc
  rw [rpkF_succ]
  by_cases hal : a < l.length
  ·rw [if_pos hal, mn_lt _ _ (by omega)]
   refine Ev.step (fun k => by simp only [impl_RunPack.l0]; rw [if_pos (show (a : Int) < l.length by omega)]) ?_
   refine Ev.bind (impl_alikeFrom_ev l a (by omega) (by omega)) ?_
   have hak := alk_le l a (by omega)
   by_cases h8 : 8 ≤ alk l a
   ·rw [if_pos h8]
    have hu := uvb_len10 (2 * alk l a) (by omega)
    have h := ih (a + alk l a) (acc ++ uvb (2 * alk l a) ++ wbytes (rd l (a : Int)) ((w + 7) / 8)) (by omega) (by omega) (by rw [List.length_append, List.length_append, wbytes_len]; omega)
    rw [mn_lt _ _ (by omega), show (((a + alk l a : Nat)) : Int) = (a : Int) + (alk l a : Nat) by push_cast; rfl] at h
    rw [app4] at h
    simp only [if_pos (show ((alk l a : Nat) : Int) ≥ 8 by omega)]
    exact impl_RunPack_a l w hw a (alk l a) (by omega) (by omega) acc (by omega) _ h
   ·rw [if_neg h8]
    have hg1 := grp_ge l a
    have hg2 := grp_le l a hal
    have h10 := uvb_len10 (2 * grp l a + 1) (by omega)
    have hm : 8 * grp l a * w ≤ 8 * grp l a * 24 := Nat.mul_le_mul_left _ hw
    simp only [if_neg (show ¬ ((alk l a : Nat) : Int) ≥ 8 by omega)]
    refine Ev.bind (impl_groupsFrom_ev l a (by omega) (by omega)) ?_
    have h := ih (a + 8 * grp l a) (acc ++ uvb (2 * grp l a + 1) ++ packB (pad l a (8 * grp l a)) w) (by omega) (by omega) (by rw [List.length_append, List.length_append, packB_len, pad_len]; omega)
    rw [app4] at h
    exact impl_RunPack_g l w hw hlen a (grp l a) _ (by omega) rfl hal acc (by omega) _ h
  ·rw [if_neg hal, List.append_nil, mn_ge _ _ (by omega)]
   refine Ev.step (f := fun _ => some (acc, true)) (fun k => ?_) (Ev.now _)
   simp only [impl_RunPack.l0]
   rw [if_neg (by omega)]
theorem impl_RunPack_ev (l : List Int) (w : Int) (hl : ∀ x ∈ l, (Lit.int .i64 x).wf = true) : Ev (fun k => impl_RunPack.f k l w) (rpk l w) := by
 have bad : ∀ l' w', Ev (fun k => impl_RunPack.j0 k l' w' true) ([], false) := fun l' w' => Ev.step (f := fun _ => some ([], false)) (fun k => by simp only [impl_RunPack.j0]; rw [if_pos trivial]) (Ev.now _)
 unfold impl_RunPack.f
 refine Ev.bind (impl_BitsPack_ev l w hl) ?_
 unfold bpk rpk
 by_cases hc : l.length ≤ 2000 ∧ 0 ≤ w ∧ w ≤ 62 ∧ ∀ n ∈ l, fits w n
 ·rw [if_pos hc]
  by_cases hw : w ≤ 24
  ·rw [if_pos (show l.length ≤ 2000 ∧ 0 ≤ w ∧ w ≤ 24 ∧ ∀ n ∈ l, 0 ≤ n ∧ (blen n.toNat : Int) ≤ w from ⟨hc.1, hc.2.1, hw, hc.2.2.2⟩)]
   simp only [if_true, decide_eq_false (show ¬ w > 24 by omega)]
   obtain ⟨v, rfl⟩ := Int.eq_ofNat_of_zero_le hc.2.1
   have h := impl_RunPack_l l v (by omega) hc.1 (l.length + 1) 0 [] (by omega) (by omega) (by simp)
   rw [mn_lt _ _ (by omega)] at h
   refine Ev.step (f := fun k => impl_RunPack.l0 k l v [] 0) (fun k => by simp only [impl_RunPack.j0]; rw [if_neg (by simp)]) ?_
   exact h
  ·rw [if_neg (fun h => hw h.2.2.1)]
   simp only [if_true, decide_eq_true (show w > 24 by omega)]; exact bad _ _
 ·rw [if_neg hc, if_neg (fun h => hc ⟨h.1, h.2.1, by omega, h.2.2.2⟩)]
  simp only [Bool.false_eq_true, if_false]; exact bad _ _

theorem impl_LevelsPack_ev (l : List Int) (m : Int) (hl : ∀ x ∈ l, (Lit.int .i64 x).wf = true) (hlen : l.length ≤ 1000000000) : Ev (fun k => impl_LevelsPack.f k l m) (lpk l m) := by
 unfold impl_LevelsPack.f lpk
 simp only [impl_within_ev, Option.bind_some]
 by_cases hm : 0 ≤ m ∧ m ≤ 255
 ·simp only [decide_eq_true hm, if_true]
  have key : ∀ (d i : Nat), i + d = l.length → (∀ n ∈ l.take i, 0 ≤ n ∧ n ≤ m) → Ev (fun k => impl_LevelsPack.l0 k l m l l.length i) (if ∀ x ∈ l, 0 ≤ x ∧ x ≤ m then (if (rpk l (bw m)).2 = true then (if m = 0 then ([], true) else (wbytes ((rpk l (bw m)).1.length : Int) 4 ++ (rpk l (bw m)).1, true)) else ([], false)) else ([], false)) := by
   intro d
   induction d with
   | zero =>
    intro i hi hf
    rw [show i = l.length by omega, List.take_length] at hf
    rw [if_pos hf]
    refine Ev.step (fun k => by simp only [impl_LevelsPack.l0]; rw [if_neg (show ¬ (i : Int) < l.length by omega)]) ?_
    refine Ev.bind (impl_BitsWidth_ev m (by omega)) ?_
    refine Ev.bind (impl_RunPack_ev l _ hl) ?_
    have hrl := rpk_len l (bw m)
    generalize rpk l (bw m) = r at hrl ⊢
    by_cases hr : r.2 = true
    ·simp only [if_pos hr]
     by_cases h0 : m = 0
     ·simp only [if_pos h0]; exact Ev.now _
     ·simp only [if_neg h0]
      refine Ev.bind (impl_WordPut_ev _ 4 (by decide)) ?_
      rw [show (if (1 : Int) ≤ 4 ∧ (4 : Int) ≤ 8 then wbytes (r.1.length : Int) (4 : Int).toNat else []) = wbytes (r.1.length : Int) 4 by rw [if_pos (by omega)]; rfl]
      exact ev_app1 (show (wbytes (r.1.length : Int) 4).length + r.1.length < 140737488355328 by rw [wbytes_len]; omega) (Ev.now _)
    ·simp only [if_neg hr]; exact Ev.now _
   | succ d ih =>
    intro i hi hf
    have he : rd l i = l[i] := rd_eq l i (by omega)
    have hmem : l[i] ∈ l := List.getElem_mem _
    by_cases hx : 0 ≤ l[i] ∧ l[i] ≤ m
    ·refine Ev.step (fun k => ?_) (ih (i + 1) (by omega) (by
      intro n hn2
      rw [List.take_succ_eq_append_getElem (by omega)] at hn2
      rcases List.mem_append.1 hn2 with h|h
      ·exact hf n h
      ·rw [List.mem_singleton] at h; subst h; exact hx))
     simp only [impl_LevelsPack.l0, impl_within_ev, Option.bind_some]
     rw [if_pos (by omega), if_pos (by omega), if_pos (by omega), he, decide_eq_true hx, if_pos rfl, wrap_id (n := (i : Int) + 1) (by omega) (by omega)]; push_cast; rfl
    ·rw [if_neg (fun h => hx (h _ hmem))]
     refine Ev.step (f := fun _ => some ([], false)) (fun k => ?_) (Ev.now _)
     simp only [impl_LevelsPack.l0, impl_within_ev, Option.bind_some]
     rw [if_pos (by omega), if_pos (by omega), if_pos (by omega), he, decide_eq_false hx, if_neg (by simp)]
  have h := key l.length 0 (by omega) (by simp)
  by_cases hf : ∀ x ∈ l, 0 ≤ x ∧ x ≤ m
  ·rw [if_pos hf] at h
   rw [if_pos ⟨hm, hf⟩]; exact h
  ·rw [if_neg hf] at h
   rw [if_neg (fun h => hf h.2)]; exact h
 ·simp only [decide_eq_false hm, Bool.false_eq_true, if_false]
  rw [if_neg (fun h => hm h.1)]; exact Ev.now _

theorem impl_UvarGet_l (b : List Int) (a : Int) (hb : ∀ x ∈ b, (Lit.int .u8 x).wf = true) (hl : b.length ≤ 1000000000000) (ha0 : 0 ≤ a) (ha : a < 9223372036854775808) :
  ∀ (d i : Nat) (acc : Int), i + d = 10 → 0 ≤ acc → acc < 2 ^ (7 * i) →
  Ev (fun k => impl_UvarGet.l0 k b a acc i) (ugetOf acc (a + i) ((ugl d (b.drop (a + i).toNat)).map fun p => (p.1 * 2 ^ (7 * i), p.2))) := by
 have fail : ∀ acc i, Ev (fun k => impl_UvarGet.j1 k b a acc i false) (0, 0, false) := fun acc i => Ev.step (f := fun _ => some (0, 0, false)) (fun k => by simp only [impl_UvarGet.j1]; rw [if_neg (by simp)]) (Ev.now _)
 intro d
 induction d with
 | zero =>
  intro i acc hi h0 h1
  rw [ugl_zero]
  refine Ev.step (f := fun k => impl_UvarGet.j1 k b a acc i false) (fun k => ?_) (fail acc i)
  simp only [impl_UvarGet.l0]; rw [if_neg (by omega)]
 | succ d ih =>
  intro i acc hi h0 h1
  refine Ev.step (f := fun k => impl_UvarGet.j1 k b a acc i (decide ((i : Int) < b.length - a))) (fun k => ?_) ?_
  ·simp only [impl_UvarGet.l0]; rw [if_pos (by omega), wrap_id (by omega) (by omega)]
  by_cases hlt : (i : Int) < b.length - a
  ·have hr := rd_rng8 hb (a + i)
   rw [decide_eq_true hlt, drop_rd b (a + i) (by omega) (by omega), ugl_cons]
   have hp : (0 : Int) < 2 ^ (7 * i) := Int.pow_pos (by decide)
   refine Ev.step (f := fun k => impl_UvarGet.j2 k b a acc i (rd b (a + i)) (decide (i = 9 ∧ rd b (a + i) > 1))) (fun k => ?_) ?_
   ·simp only [impl_UvarGet.j1]
    rw [if_pos trivial, wrap_id (n := a + (i : Int)) (by omega) (by omega), if_pos (by omega), if_pos (by omega)]
    by_cases h9 : i = 9
    ·subst h9; simp
    ·rw [if_neg (by omega)]; simp [h9]
   by_cases hbad : i = 9 ∧ rd b (a + i) > 1
   ·rw [decide_eq_true hbad, if_pos ⟨by omega, hbad.2⟩]
    exact Ev.step (f := fun _ => some (0, 0, false)) (fun k => by simp only [impl_UvarGet.j2]; rw [if_pos trivial]) (Ev.now _)
   ·rw [decide_eq_false hbad, if_neg (by omega)]
    have hsum : acc + rd b (a + i) % 128 * 2 ^ (7 * i) < 18446744073709551616 ∧ (i ≤ 8 → acc + rd b (a + i) % 128 * 2 ^ (7 * i) < 2 ^ (7 * (i + 1))) := by
     have hm : 0 ≤ rd b (a + i) % 128 ∧ rd b (a + i) % 128 ≤ 127 := by omega
     generalize hc : rd b (a + i) % 128 = c at hm ⊢
     have hle : c * 2 ^ (7 * i) ≤ 127 * 2 ^ (7 * i) := Int.mul_le_mul_of_nonneg_right hm.2 (by omega)
     by_cases h9 : i = 9
     ·subst h9
      have hc1 : c ≤ 1 := by omega
      have : c * 2 ^ (7 * 9) ≤ 1 * 2 ^ (7 * 9) := Int.mul_le_mul_of_nonneg_right hc1 (by omega)
      refine ⟨?_, fun h => by omega⟩
      have e : (2 : Int) ^ (7 * 9) = 9223372036854775808 := by rfl
      omega
     ·have hpw : (2 : Int) ^ (7 * (i + 1)) ≤ 9223372036854775808 := by
       have : (2 : Nat) ^ (7 * (i + 1)) ≤ 2 ^ 63 := Nat.pow_le_pow_right (by decide) (by omega)
       have h2 : ((2 ^ (7 * (i + 1)) : Nat) : Int) ≤ ((2 ^ 63 : Nat) : Int) := by exact_mod_cast this
       simpa using h2
      have e : (2 : Int) ^ (7 * (i + 1)) = 128 * 2 ^ (7 * i) := by rw [show 7 * (i + 1) = 7 * i + 7 by omega, Int.pow_add]; omega
      constructor
      ·omega
      ·intro _; omega
    have ebits : Go.bits .or .u64 acc (shl .u64 (IntKind.u64.wrap (Go.bits .and .u8 (rd b (a + i)) 127)) (7 * (i : Int))) = acc + rd b (a + i) % 128 * 2 ^ (7 * i) := by
     rw [and127 _ hr.1 hr.2, uwrap_id (by omega) (by omega), shlu _ _ (by omega) (by omega), show (7 * (i : Int)).toNat = 7 * i by omega]
     have h2 : 0 ≤ rd b (a + i) % 128 * 2 ^ (7 * i) := Int.mul_nonneg (by omega) (by omega)
     rw [Int.emod_eq_of_lt h2 (by omega)]
     exact or_addu _ _ _ h0 h1 (by omega) hsum.1
    by_cases hc : rd b (a + i) < 128
    ·rw [if_pos hc]
     refine Ev.step (f := fun _ => some (wrap64 (acc + rd b (a + i) * 2 ^ (7 * i)), a + i + 1, true)) (fun k => ?_) (Ev.now _)
     simp only [impl_UvarGet.j2]
     rw [if_neg (by simp), wrap_id (n := 7 * (i : Int)) (by omega) (by omega), if_pos (by omega), if_pos hc, ebits, wrap_id (n := a + (i : Int)) (by omega) (by omega), wrap_id (n := a + (i : Int) + 1) (by omega) (by omega)]
     rw [show rd b (a + i) % 128 = rd b (a + i) by omega]
    ·rw [if_neg hc]
     have hi8 : i ≤ 8 := by omega
     have h := ih (i + 1) (acc + rd b (a + i) % 128 * 2 ^ (7 * i)) (by omega) (by have := Int.mul_nonneg (show 0 ≤ rd b (a + i) % 128 by omega) (show (0:Int) ≤ 2 ^ (7 * i) by omega); omega) (hsum.2 hi8)
     have egoal : ugetOf acc (a + i) (((ugl d (b.drop (a + i + 1).toNat)).map fun p => (rd b (a + i) - 128 + 128 * p.1, p.2 + 1)).map fun p => (p.1 * 2 ^ (7 * i), p.2))
       = ugetOf (acc + rd b (a + i) % 128 * 2 ^ (7 * i)) (a + ((i + 1 : Nat) : Int)) ((ugl d (b.drop (a + ((i + 1 : Nat) : Int)).toNat)).map fun p => (p.1 * 2 ^ (7 * (i + 1)), p.2)) := by
      rw [show a + ((i + 1 : Nat) : Int) = a + i + 1 by push_cast; omega]
      cases ugl d (b.drop (a + i + 1).toNat) with
      | none => rfl
      | some p =>
       simp only [Option.map_some, ugetOf]
       rw [show rd b (a + i) % 128 = rd b (a + i) - 128 by omega, show 7 * (i + 1) = 7 + 7 * i by omega, Int.pow_add]
       refine congr (congrArg Prod.mk (congrArg wrap64 ?_)) (congrArg (fun z => (z, true)) (by omega))
       generalize (2 : Int) ^ (7 * i) = q
       rw [show ((2 : Int) ^ 7) = 128 by rfl, Int.add_mul, ← Int.mul_assoc, Int.mul_comm 128 p.1]; omega
     rw [egoal]
     refine Ev.step (fun k => ?_) h
     simp only [impl_UvarGet.j2]
     rw [if_neg (by simp), wrap_id (n := 7 * (i : Int)) (by omega) (by omega), if_pos (by omega), if_neg hc, ebits, wrap_id (n := (i : Int) + 1) (by omega) (by omega)]
     push_cast; rfl
  ·rw [decide_eq_false hlt, List.drop_eq_nil_of_le (by omega), ugl_nil]
   exact fail acc i
theorem impl_UvarGet_ev (b : List Int) (a : Int) (hb : ∀ x ∈ b, (Lit.int .u8 x).wf = true) (hl : b.length ≤ 1000000000000) (ha : a < 9223372036854775808) :
  Ev (fun k => impl_UvarGet.f k b a) (uget b a) := by
 unfold impl_UvarGet.f uget
 by_cases h0 : a < 0
 ·simp only [if_pos h0]; exact Ev.now _
 ·simp only [if_neg h0]
  have h := impl_UvarGet_l b a hb hl (by omega) ha 10 0 0 (by omega) (by omega) (by simp)
  simpa using h

theorem impl_WordGet_ev (l : List Int) (a n : Int) (hl : ∀ x ∈ l, (Lit.int .u8 x).wf = true) (hlen : l.length ≤ 1000000000000) (ha : -9223372036854775808 ≤ a ∧ a < 9223372036854775808) (hn : -9223372036854775808 ≤ n ∧ n < 9223372036854775808) :
  Ev (fun k => impl_WordGet.f k l a n) (wget l a n) := by
 unfold impl_WordGet.f wget
 simp only [impl_within_ev, Option.bind_some]
 have bad : Ev (fun k => impl_WordGet.j0 k l a n true) (0, 0, false) := Ev.step (f := fun _ => some (0, 0, false)) (fun k => by simp only [impl_WordGet.j0]; rw [if_pos trivial]) (Ev.now _)
 by_cases hn8 : 1 ≤ n ∧ n ≤ 8
 ·obtain ⟨h1, h8⟩ := id hn8
  ·simp only [decide_eq_true hn8, if_true]
   by_cases h2 : a < 0
   ·simp only [if_pos h2]; rw [if_neg (show ¬ (1 ≤ n ∧ n ≤ 8 ∧ 0 ≤ a ∧ a + n ≤ (l.length : Int)) by omega)]; exact bad
   ·simp only [if_neg h2]
    rw [wrap_id (n := (l.length : Int) - n) (by omega) (by omega)]
    by_cases h3 : a + n ≤ l.length
    ·rw [if_pos (show (1 ≤ n ∧ n ≤ 8 ∧ 0 ≤ a ∧ a + n ≤ (l.length : Int)) by omega)]
     have key : ∀ (d : Nat) (i : Nat), (i : Int) + d = n → Ev (fun k => impl_WordGet.l0 k l a n (wrap64 (wnum l a i)) n i) (wrap64 (wnum l a n.toNat), a + n, true) := by
      intro d
      induction d with
      | zero =>
       intro i hd
       refine Ev.step (f := fun _ => some (wrap64 (wnum l a n.toNat), a + n, true)) (fun k => ?_) (Ev.now _)
       simp only [impl_WordGet.l0]; rw [if_neg (by omega), show n.toNat = i by omega, wrap_id (n := a + n) (by omega) (by omega)]
      | succ d ih =>
       intro i hd
       refine Ev.step (f := fun k => impl_WordGet.l0 k l a n (wrap64 (wnum l a (i + 1))) n (i + 1 : Nat)) (fun k => ?_) (ih (i + 1) (by omega))
       simp only [impl_WordGet.l0]
       have hr := rd_rng8 hl (a + i)
       rw [if_pos (by omega), wrap_id (n := a + (i : Int)) (by omega) (by omega), wrap_id (n := 8 * (i : Int)) (by omega) (by omega), if_pos (by omega), if_pos (by omega), if_pos (by omega), wrap_id (n := rd l (a + i)) (by omega) (by omega), wrap_id (n := (i : Int) + 1) (by omega) (by omega), shl64 _ _ (by omega) (by omega), show (8 * (i : Int)).toNat = 8 * i by omega]
       rw [or_add _ _ (8 * i) (wnum_rng hl a i).1 (wnum_rng hl a i).2 hr.1]
       push_cast; rfl
     refine Ev.step (f := fun k => impl_WordGet.l0 k l a n 0 n 0) (fun k => ?_) ?_
     ·simp only [impl_WordGet.j0]; rw [if_neg (by simp; omega)]
     ·have h := key n.toNat 0 (by omega)
      simpa [wnum, show wrap64 0 = 0 by unfold wrap64; omega] using h
    ·rw [if_neg (show ¬ (1 ≤ n ∧ n ≤ 8 ∧ 0 ≤ a ∧ a + n ≤ (l.length : Int)) by omega)]
     simpa [show a > (l.length : Int) - n by omega] using bad
 ·simp only [decide_eq_false hn8, Bool.false_eq_true, if_false]
  rw [if_neg (show ¬ (1 ≤ n ∧ n ≤ 8 ∧ 0 ≤ a ∧ a + n ≤ (l.length : Int)) by omega)]; exact bad

theorem impl_BitAt_ev (l : List Int) (k : Int) (hl : ∀ x ∈ l, (Lit.int .u8 x).wf = true) (h0 : -9223372036854775808 ≤ k) (h1 : k < 9223372036854775808) :
  impl_BitAt.f l k = some (if 0 ≤ k ∧ k / 8 < l.length then bitAt l k else -1) := by
 unfold impl_BitAt.f
 by_cases hk : k < 0
 ·rw [if_pos hk, if_neg (by omega)]
 ·have e : wrap64 (Int.tdiv k 8) = k / 8 := by rw [Int.tdiv_eq_ediv_of_nonneg (by omega), wrap_id (by omega) (by omega)]
  have e2 : Int.tmod k 8 = k % 8 := Int.tmod_eq_emod_of_nonneg (by omega)
  rw [if_neg hk, e, e2]
  by_cases hb : k / 8 ≥ (l.length : Int)
  ·rw [if_pos hb, if_neg (by omega)]
  ·rw [if_neg hb, if_pos (by omega), if_pos (by omega), if_pos (by omega), if_pos (by omega)]
   have hr := rd_rng8 hl (k / 8)
   unfold bitAt shr
   rw [show min (k % 8).toNat IntKind.u8.bits = (k % 8).toNat by simp [IntKind.bits]; omega]
   have hp : (0 : Int) < 2 ^ (k % 8).toNat := Int.pow_pos (by decide)
   have hd0 : 0 ≤ rd l (k / 8) / 2 ^ (k % 8).toNat := Int.ediv_nonneg hr.1 (by omega)
   have hd1 : rd l (k / 8) / 2 ^ (k % 8).toNat ≤ rd l (k / 8) := Int.ediv_le_self _ hr.1
   have hm := bits_mask .u8 8 (by decide) wraps_u8 1 (by decide) (rd l (k / 8) / 2 ^ (k % 8).toNat) hd0 (by omega)
   rw [show (2 : Int) ^ 1 - 1 = 1 by rfl] at hm
   rw [hm, wrap_id (by omega) (by omega)]; rfl

theorem impl_unpacked_ev (b : List Int) (a : Int) (many w : Nat) (hb : ∀ x ∈ b, (Lit.int .u8 x).wf = true) (hlen : b.length ≤ 1000000000000) (ha : 0 ≤ a) (hm : many ≤ 1000000) (hw : w ≤ 63) (hfit : 8 * a + many * w ≤ 8 * b.length) :
  Ev (fun k => impl_unpacked.f k b a many w) (unpackB b a many w) := by
 have inner : ∀ (d i j : Nat) (acc : List Int), i < many → j + d = w → acc.length ≤ 1000000 →
   ∀ R : List Int, Ev (fun k => impl_unpacked.l0 k b a w (acc ++ [wrap64 (unum b (8 * a + i * w) w)]) many ((i + 1 : Nat) : Int)) R →
   Ev (fun k => impl_unpacked.l1 k b a w acc i (wrap64 (unum b (8 * a + i * w) j)) many i w j) R := by
  intro d
  induction d with
  | zero =>
   intro i j acc hi hj hacc R h
   refine Ev.step (fun k => ?_) h
   simp only [impl_unpacked.l1]
   rw [if_neg (by omega), if_pos (by omega), wrap_id (n := (i : Int) + 1) (by omega) (by omega), show j = w by omega]
   push_cast; rfl
  | succ d ih =>
   intro i j acc hi hj hacc R h
   have hc : ((i * w : Nat) : Int) = (i : Int) * w := by push_cast; rfl
   have hle : (i + 1) * w ≤ many * w := Nat.mul_le_mul_right w hi
   rw [Nat.succ_mul] at hle
   have hmc : ((many * w : Nat) : Int) = (many : Int) * w := by push_cast; rfl
   rw [← hmc] at hfit
   refine Ev.step (fun k => ?_) (ih i (j + 1) acc hi (by omega) hacc R h)
   simp only [impl_unpacked.l1]
   rw [if_pos (by omega), wrap_id (n := 8 * a) (by omega) (by omega), ← hc, wrap_id (n := ((i * w : Nat) : Int)) (by omega) (by omega), wrap_id (n := 8 * a + ((i * w : Nat) : Int)) (by omega) (by omega), wrap_id (n := 8 * a + ((i * w : Nat) : Int) + j) (by omega) (by omega)]
   rw [impl_BitAt_ev b _ hb (by omega) (by omega), if_pos (by omega)]
   simp only [Option.bind_some]
   have hbit : 0 ≤ bitAt b (8 * a + ((i * w : Nat) : Int) + j) := by unfold bitAt; omega
   rw [if_pos (by omega), wrap_id (n := (j : Int) + 1) (by omega) (by omega), shl64 _ _ (by omega) (by omega), show (j : Int).toNat = j by omega]
   rw [or_add _ _ j (unum_rng _ _ _).1 (unum_rng _ _ _).2 hbit]
   push_cast; rfl
 have outer : ∀ (d i : Nat), i + d = many → Ev (fun k => impl_unpacked.l0 k b a w (unpackB b a i w) many i) (unpackB b a many w) := by
  intro d
  induction d with
  | zero =>
   intro i hi
   refine Ev.step (f := fun _ => some (unpackB b a many w)) (fun k => ?_) (Ev.now _)
   simp only [impl_unpacked.l0]; rw [if_neg (by omega), show i = many by omega]
  | succ d ih =>
   intro i hi
   have h := ih (i + 1) (by omega)
   have e : unpackB b a (i + 1) w = unpackB b a i w ++ [wrap64 (unum b (8 * a + i * w) w)] := by unfold unpackB; rw [List.range_succ]; simp
   rw [e] at h
   refine Ev.step (fun k => ?_) (inner w i 0 _ (by omega) (by omega) (by simp [unpackB]; omega) _ h)
   simp only [impl_unpacked.l0]; rw [if_pos (by omega)]
   simp [unum, show wrap64 0 = 0 by unfold wrap64; omega]
 have h := outer many 0 (by omega)
 unfold impl_unpacked.f
 simpa [unpackB] using h

theorem impl_runNumber_ev (b : List Int) (a : Int) (w : Nat) (hb : ∀ x ∈ b, (Lit.int .u8 x).wf = true) (hlen : b.length ≤ 1000000000) (hw : w ≤ 24) (ha : 0 ≤ a) (hal : a ≤ b.length) :
  Ev (fun k => impl_runNumber.f k b a w) (runNum b a w) := by
 unfold impl_runNumber.f runNum
 by_cases h0 : w = 0
 ·simp only [if_pos (show (w : Int) = 0 by omega), if_pos h0]; exact Ev.now _
 ·simp only [if_neg (show ¬ (w : Int) = 0 by omega), if_neg h0, impl_BitsSize_ev, Option.bind_some]
  rw [if_pos (by omega), show ((1 : Int) * w + 7) / 8 = (((w + 7) / 8 : Nat) : Int) by omega]
  refine Ev.bind (impl_WordGet_ev b a _ hb (by omega) (by omega) (by omega)) ?_
  by_cases hok : (wget b a ((w + 7) / 8 : Nat)).2.2 = true
  ·have hx := wget_ok b a _ hb (by omega) hok
   simp only [if_pos hok]
   refine Ev.bind (impl_widthOf_ev _ hx.1 hx.2.1) ?_
   by_cases hl : blen (wget b a ((w + 7) / 8 : Nat)).1.toNat ≤ w
   ·rw [if_pos (show (wget b a ((w + 7) / 8 : Nat)).2.2 = true ∧ blen (wget b a ((w + 7) / 8 : Nat)).1.toNat ≤ w from ⟨hok, hl⟩)]
    simp only [if_neg (show ¬ ((blen (wget b a ((w + 7) / 8 : Nat)).1.toNat : Nat) : Int) > w by omega)]; exact Ev.now _
   ·rw [if_neg (show ¬ ((wget b a ((w + 7) / 8 : Nat)).2.2 = true ∧ blen (wget b a ((w + 7) / 8 : Nat)).1.toNat ≤ w) from fun h => hl h.2)]
    simp only [if_pos (show ((blen (wget b a ((w + 7) / 8 : Nat)).1.toNat : Nat) : Int) > w by omega)]; exact Ev.now _
  ·simp only [if_neg hok]; rw [if_neg (show ¬ ((wget b a ((w + 7) / 8 : Nat)).2.2 = true ∧ blen (wget b a ((w + 7) / 8 : Nat)).1.toNat ≤ w) from fun h => hok h.1)]; exact Ev.now _
theorem mn_nat (a b : Nat) : mn (a : Int) (b : Int) = ((min a b : Nat) : Int) := by
 unfold mn; split <;> omega
theorem impl_RunRead_l (b : List Int) (many w : Nat) (hb : ∀ x ∈ b, (Lit.int .u8 x).wf = true) (hlen : b.length ≤ 1000000000) (hm : many ≤ 2000) (hw : w ≤ 24) :
  ∀ (f : Nat) (a : Int) (acc : List Int), 0 ≤ a → a ≤ b.length → (b.length : Int) - a < f → acc.length ≤ many → Ev (fun k => impl_RunRead.l0 k b a many w acc) (runs b many w f a acc) := by
 have inner : ∀ (d j m : Nat) (x nx : Int) (acc : List Int) (R : List Int × Int × Bool), j + d = m → m ≤ 2000 → acc.length + d ≤ 2000 →
   Ev (fun k => impl_RunRead.l0 k b nx many w (acc ++ List.replicate d x)) R → Ev (fun k => impl_RunRead.l1 k b many w acc x nx m j) R := by
  intro d
  induction d with
  | zero =>
   intro j m x nx acc R hj hm2 hacc h
   simp only [List.replicate_zero, List.append_nil] at h
   refine Ev.step (fun k => ?_) h
   simp only [impl_RunRead.l1]; rw [if_neg (by omega)]
  | succ d ih =>
   intro j m x nx acc R hj hm2 hacc h
   have h2 := ih (j + 1) m x nx (acc ++ [x]) R (by omega) hm2 (by simp; omega) (by rw [List.append_assoc]; simpa [List.replicate_succ] using h)
   refine Ev.step (fun k => ?_) h2
   simp only [impl_RunRead.l1]; rw [if_pos (by omega), if_pos (by omega), wrap_id (n := (j : Int) + 1) (by omega) (by omega)]; push_cast; rfl
 intro f
 induction f with
 | zero => intro a acc h0 h1 hf; omega
 | succ f ih =>
  intro a acc h0 h1 hf hacc
  rw [runs_succ]
  by_cases hlt : acc.length < many
  ·rw [if_pos hlt]
   have hur := uget_rng b a
   refine Ev.step (fun k => by simp only [impl_RunRead.l0]; rw [if_pos (show (acc.length : Int) < many by omega)]) ?_
   refine Ev.bind (impl_UvarGet_ev b a hb (by omega) (by omega)) ?_
   by_cases hok : (uget b a).2.2 = true
   ·have hu := uget_ok b a hok
    simp only [if_pos hok, and_one]
    have hcnt : wrap64 (IntKind.u64.wrap (uget b a).1 / 2) = ((ux (uget b a).1 / 2 : Nat) : Int) := by
     rw [uwrap, wrap_id (by omega) (by omega)]; unfold ux; omega
    have hcb : ux (uget b a).1 / 2 < 9223372036854775808 := by have := ux_lt (uget b a).1; omega
    rw [hcnt, wrap_id (n := (many : Int) - (acc.length : Int)) (by omega) (by omega), show (many : Int) - (acc.length : Int) = ((many - acc.length : Nat) : Int) by omega, mn_nat]
    by_cases he : (uget b a).1 % 2 = 0
    ·simp only [if_pos he]
     refine Ev.bind (impl_runNumber_ev b _ w hb hlen hw (by omega) hu.2.2) ?_
     by_cases hn : (runNum b (uget b a).2.1 w).2.2 = true
     ·have hno := runNum_ok b _ w hb hw (by omega) hu.2.2 hn
      simp only [if_pos hn]
      exact inner _ 0 _ _ _ acc _ (by omega) (by omega) (by omega) (ih _ _ (by omega) (by omega) (by omega) (by simp; omega))
     ·simp only [if_neg hn]; exact Ev.now _
    ·simp only [if_neg he]
     by_cases hbig : 2000 < ux (uget b a).1 / 2
     ·simp only [if_pos (show ((ux (uget b a).1 / 2 : Nat) : Int) > 2000 by omega)]
      rw [if_pos (Or.inl hbig)]; exact Ev.now _
     ·simp only [if_neg (show ¬ ((ux (uget b a).1 / 2 : Nat) : Int) > 2000 by omega)]
      have hmul : ux (uget b a).1 / 2 * w ≤ 2000 * 24 := Nat.mul_le_mul (by omega) hw
      rw [show ((ux (uget b a).1 / 2 : Nat) : Int) * (w : Int) = ((ux (uget b a).1 / 2 * w : Nat) : Int) by push_cast; rfl, wrap_id (n := ((ux (uget b a).1 / 2 * w : Nat) : Int)) (by omega) (by omega), wrap_id (n := (b.length : Int) - (uget b a).2.1) (by omega) (by omega)]
      by_cases hfit : (b.length : Int) - (uget b a).2.1 < (ux (uget b a).1 / 2 * w : Nat)
      ·simp only [if_pos (show ((ux (uget b a).1 / 2 * w : Nat) : Int) > (b.length : Int) - (uget b a).2.1 by omega)]
       rw [if_pos (Or.inr hfit)]; exact Ev.now _
      ·simp only [if_neg (show ¬ ((ux (uget b a).1 / 2 * w : Nat) : Int) > (b.length : Int) - (uget b a).2.1 by omega)]
       rw [if_neg (fun h => h.elim hbig hfit)]
       rw [wrap_id (n := 8 * ((ux (uget b a).1 / 2 : Nat) : Int)) (by omega) (by omega), show 8 * ((ux (uget b a).1 / 2 : Nat) : Int) = ((8 * (ux (uget b a).1 / 2) : Nat) : Int) by omega, mn_nat, wrap_id (n := (uget b a).2.1 + ((ux (uget b a).1 / 2 * w : Nat) : Int)) (by omega) (by omega)]
       have hle : min (8 * (ux (uget b a).1 / 2)) (many - acc.length) * w ≤ 8 * (ux (uget b a).1 / 2) * w := Nat.mul_le_mul_right w (Nat.min_le_left _ _)
       have hfits : 8 * (uget b a).2.1 + ((min (8 * (ux (uget b a).1 / 2)) (many - acc.length) : Nat) : Int) * (w : Int) ≤ 8 * (b.length : Int) := by
        have e : ((min (8 * (ux (uget b a).1 / 2)) (many - acc.length) : Nat) : Int) * (w : Int) = ((min (8 * (ux (uget b a).1 / 2)) (many - acc.length) * w : Nat) : Int) := (Int.natCast_mul _ _).symm
        rw [e]; rw [Nat.mul_assoc] at hle; omega
       refine Ev.bind (impl_unpacked_ev b _ _ w hb (by omega) (by omega) (by omega) (by omega) hfits) ?_
       simp only [if_pos (show acc.length + (unpackB b (uget b a).2.1 (min (8 * (ux (uget b a).1 / 2)) (many - acc.length)) w).length < 17592186044416 by simp [unpackB]; omega)]
       exact ih _ _ (by omega) (by omega) (by omega) (by simp [unpackB]; omega)
   ·simp only [if_neg hok]; exact Ev.now _
  ·rw [if_neg hlt]
   refine Ev.step (f := fun _ => some (acc, a, true)) (fun k => ?_) (Ev.now _)
   simp only [impl_RunRead.l0]; rw [if_neg (by omega)]
def rrd (b : List Int) (a many w : Int) : List Int × Int × Bool := if (0 ≤ w ∧ w ≤ 24) ∧ (0 ≤ many ∧ many ≤ 2000) ∧ (0 ≤ a ∧ a ≤ b.length) then runs b many.toNat w.toNat (b.length + 1) a [] else ([], 0, false)
theorem impl_RunRead_ev (b : List Int) (a many w : Int) (hb : ∀ x ∈ b, (Lit.int .u8 x).wf = true) (hlen : b.length ≤ 1000000000) : Ev (fun k => impl_RunRead.f k b a many w) (rrd b a many w) := by
 have bad : Ev (fun k => impl_RunRead.j0 k b a many w true) ([], 0, false) := Ev.step (f := fun _ => some ([], 0, false)) (fun k => by simp only [impl_RunRead.j0]; rw [if_pos trivial]) (Ev.now _)
 unfold impl_RunRead.f rrd
 simp only [impl_within_ev, Option.bind_some]
 by_cases h1 : 0 ≤ w ∧ w ≤ 24
 ·simp only [decide_eq_true h1, if_true]
  by_cases h2 : 0 ≤ many ∧ many ≤ 2000
  ·simp only [decide_eq_true h2, if_true]
   by_cases h3 : 0 ≤ a ∧ a ≤ (b.length : Int)
   ·simp only [decide_eq_true h3, Bool.not_true]
    rw [if_pos ⟨h1, h2, h3⟩]
    obtain ⟨m, rfl⟩ := Int.eq_ofNat_of_zero_le h2.1
    obtain ⟨v, rfl⟩ := Int.eq_ofNat_of_zero_le h1.1
    refine Ev.step (fun k => by simp only [impl_RunRead.j0]; rw [if_neg (by simp)]) ?_
    exact impl_RunRead_l b m v hb hlen (by omega) (by omega) (b.length + 1) a [] h3.1 h3.2 (by omega) (by simp)
   ·simp only [decide_eq_false h3, Bool.not_false]; rw [if_neg (fun h => h3 h.2.2)]; exact bad
  ·simp only [decide_eq_false h2, Bool.false_eq_true, if_false]; rw [if_neg (fun h => h2 h.2.1)]; exact bad
 ·simp only [decide_eq_false h1, Bool.false_eq_true, if_false]; rw [if_neg (fun h => h1 h.1)]; exact bad

theorem uget_put (p r : List Int) (n : Nat) (h : n < 9223372036854775808) : uget (p ++ (uvb n ++ r)) p.length = ((n : Int), (p.length : Int) + ((uvb n).length : Int), true) := by
 unfold uget
 rw [if_neg (by omega), Int.toNat_natCast, List.drop_left, ugl_uvb 9 n r (Nat.lt_of_lt_of_le h (by decide))]
 simp only [ugetOf]
 rw [wrap_id (by omega) (by omega), Int.zero_add]
theorem unpackB_take (b : List Int) (a : Int) (m k w : Nat) (h : m ≤ k) : unpackB b a m w = (unpackB b a k w).take m := by
 apply List.ext_getElem
 ·simp [unpackB]; omega
 ·intro i h1 h2; simp [unpackB]
theorem take_add_rep (l : List Int) (a n : Nat) (h : a + n ≤ l.length) (x : Int) (hs : ∀ j, j < n → rd l ((a + j : Nat) : Int) = x) : l.take a ++ List.replicate n x = l.take (a + n) := by
 apply List.ext_getElem
 ·simp; omega
 ·intro i h1 h2
  rw [List.getElem_append]
  split
  ·simp
  ·rename_i hi
   have hi2 : a ≤ i := by simp at hi; omega
   have hi3 : i < a + n := by simp at h2; omega
   have := hs (i - a) (by omega)
   rw [show a + (i - a) = i by omega, rd_eq l i (by omega)] at this
   simp [this]
theorem take_add_pad (l : List Int) (a m : Nat) (h : a ≤ l.length) : l.take a ++ (pad l a m).take (min m (l.length - a)) = l.take (a + m) := by
 apply List.ext_getElem
 ·simp [pad]; omega
 ·intro i h1 h2
  have hi3 : i < a + m ∧ i < l.length := by simp at h2; omega
  rw [List.getElem_append]
  split
  ·simp
  ·rename_i hi
   have hi2 : a ≤ i := by simp at hi; omega
   simp only [List.getElem_take, pad, List.getElem_map, List.getElem_range, List.length_take]
   rw [show min a l.length = a by omega, show a + (i - a) = i by omega, rd_eq l i (by omega)]
theorem runNum_put (p r : List Int) (x : Int) (w : Nat) (hw : w ≤ 24) (h0 : 0 ≤ x) (hx : blen x.toNat ≤ w) :
  runNum (p ++ (wbytes x ((w + 7) / 8) ++ r)) p.length w = (x, (p.length : Int) + ((w + 7) / 8 : Nat), true) := by
 unfold runNum
 have hb := (blen_le _ _).1 hx
 by_cases hw0 : w = 0
 ·subst hw0
  rw [if_pos rfl]
  have : x = 0 := by simp at hb; omega
  rw [this]
  simp
 ·rw [if_neg hw0]
  have hk : 1 ≤ (w + 7) / 8 ∧ (w + 7) / 8 ≤ 3 := by omega
  have hp24 : (2 : Nat) ^ w ≤ 2 ^ 24 := Nat.pow_le_pow_right (by decide) hw
  have hp8 : (2 : Nat) ^ w ≤ 2 ^ (8 * ((w + 7) / 8)) := Nat.pow_le_pow_right (by decide) (by omega)
  have e : wnum (p ++ (wbytes x ((w + 7) / 8) ++ r)) p.length ((w + 7) / 8) = x := by
   rw [wnum_wbytes x]
   ·have hc : ((2 ^ (8 * ((w + 7) / 8)) : Nat) : Int) = 2 ^ (8 * ((w + 7) / 8)) := by push_cast; rfl
    rw [Int.emod_eq_of_lt h0 (by rw [← hc]; omega)]
   ·intro i hi
    rw [← List.append_assoc, rd_mid p (wbytes x ((w + 7) / 8)) r _ (by omega) (by rw [wbytes_len]; omega), show (p.length : Int) + i - p.length = i by omega, rd_wbytes x _ _ (by omega) (by omega), Int.toNat_natCast]
  have hw' : wget (p ++ (wbytes x ((w + 7) / 8) ++ r)) p.length (((w + 7) / 8 : Nat) : Int) = (x, (p.length : Int) + ((w + 7) / 8 : Nat), true) := by
   unfold wget
   rw [if_pos (by simp only [List.length_append, wbytes_len]; omega), Int.toNat_natCast, e, wrap_id (by omega) (by omega)]
  rw [hw', if_pos ⟨rfl, hx⟩]
theorem runs_put (l : List Int) (w : Nat) (hw : w ≤ 24) (hlen : l.length ≤ 2000) (hf : ∀ n ∈ l, 0 ≤ n ∧ blen n.toNat ≤ w) (s : List Int) : ∀ (f a F : Nat) (p : List Int), l.length < a + f → (rpkF l w f a).length < F →
  runs (p ++ (rpkF l w f a ++ s)) l.length w F p.length (l.take a) = (l, (p.length : Int) + (rpkF l w f a).length, true) := by
 intro f
 induction f with
 | zero =>
  intro a F p h1 h2
  obtain ⟨F, rfl⟩ : ∃ G, F = G + 1 := ⟨F - 1, by omega⟩
  rw [runs_succ, if_neg (by simp; omega), List.take_of_length_le (by omega)]
  simp [rpkF]
 | succ f ih =>
  intro a F p h1 h2
  obtain ⟨F, rfl⟩ : ∃ G, F = G + 1 := ⟨F - 1, by omega⟩
  by_cases hal : a < l.length
  ·rw [rpkF_succ, if_pos hal] at h2 ⊢
   have htl : (l.take a).length = a := by simp; omega
   rw [runs_succ, if_pos (by omega)]
   by_cases h8 : 8 ≤ alk l a
   ·rw [if_pos h8] at h2 ⊢
    have hak := alk_le l a (by omega)
    have hsm := alk_same l a
    have hx := hf _ (List.getElem_mem hal)
    rw [← rd_eq l a hal] at hx
    generalize hn : alk l a = n at *
    have hu := uget_put p (wbytes (rd l (a : Int)) ((w + 7) / 8) ++ rpkF l w f (a + n) ++ s) (2 * n) (by omega)
    rw [show uvb (2 * n) ++ wbytes (rd l (a : Int)) ((w + 7) / 8) ++ rpkF l w f (a + n) ++ s = uvb (2 * n) ++ (wbytes (rd l (a : Int)) ((w + 7) / 8) ++ rpkF l w f (a + n) ++ s) by simp only [List.append_assoc]]
    have hr := runNum_put (p ++ uvb (2 * n)) (rpkF l w f (a + n) ++ s) (rd l (a : Int)) w hw hx.1 hx.2
    rw [show p ++ uvb (2 * n) ++ (wbytes (rd l (a : Int)) ((w + 7) / 8) ++ (rpkF l w f (a + n) ++ s)) = p ++ (uvb (2 * n) ++ (wbytes (rd l (a : Int)) ((w + 7) / 8) ++ rpkF l w f (a + n) ++ s)) by simp only [List.append_assoc], show ((p ++ uvb (2 * n)).length : Int) = (p.length : Int) + ((uvb (2 * n)).length : Int) by simp] at hr
    rw [hu]
    simp only [if_true]
    rw [if_pos (by omega), hr]
    simp only [if_true]
    have hux : ux ((2 * n : Nat) : Int) / 2 = n := by rw [ux_nat _ (by omega)]; omega
    rw [hux, htl, show min n (l.length - a) = n by omega, take_add_rep l a n hak _ hsm]
    have hpos := uvb_len_pos (2 * n)
    have h3 := ih (a + n) F (p ++ uvb (2 * n) ++ wbytes (rd l (a : Int)) ((w + 7) / 8)) (by omega) (by simp only [List.length_append] at h2; omega)
    rw [show p ++ uvb (2 * n) ++ wbytes (rd l (a : Int)) ((w + 7) / 8) ++ (rpkF l w f (a + n) ++ s) = p ++ (uvb (2 * n) ++ (wbytes (rd l (a : Int)) ((w + 7) / 8) ++ rpkF l w f (a + n) ++ s)) by simp only [List.append_assoc], show ((p ++ uvb (2 * n) ++ wbytes (rd l (a : Int)) ((w + 7) / 8)).length : Int) = (p.length : Int) + ((uvb (2 * n)).length : Int) + ((w + 7) / 8 : Nat) by simp only [List.length_append, wbytes_len]; push_cast; rfl] at h3
    rw [h3]
    simp only [List.length_append, wbytes_len]
    refine Prod.ext rfl (Prod.ext ?_ rfl)
    show _ = _
    push_cast; omega
   ·rw [if_neg h8] at h2 ⊢
    have hg1 := grp_ge l a
    have hg2 := grp_le l a hal
    generalize hn : grp l a = g at *
    have hu := uget_put p (packB (pad l a (8 * g)) w ++ rpkF l w f (a + 8 * g) ++ s) (2 * g + 1) (by omega)
    rw [show uvb (2 * g + 1) ++ packB (pad l a (8 * g)) w ++ rpkF l w f (a + 8 * g) ++ s = uvb (2 * g + 1) ++ (packB (pad l a (8 * g)) w ++ rpkF l w f (a + 8 * g) ++ s) by simp only [List.append_assoc]]
    have hfp : ∀ n ∈ pad l a (8 * g), 0 ≤ n ∧ blen n.toNat ≤ w := by
     intro n hn
     simp only [pad, List.mem_map, List.mem_range] at hn
     obtain ⟨i, hi, rfl⟩ := hn
     by_cases hin : a + i < l.length
     ·rw [rd_eq l (a + i) hin]; exact hf _ (List.getElem_mem _)
     ·rw [rd_out l (a + i) (by omega)]; exact ⟨by decide, by simp [blen]⟩
    have hr := unpack_pack (p ++ uvb (2 * g + 1)) (pad l a (8 * g)) (rpkF l w f (a + 8 * g) ++ s) w (by omega) hfp
    rw [show p ++ uvb (2 * g + 1) ++ packB (pad l a (8 * g)) w ++ (rpkF l w f (a + 8 * g) ++ s) = p ++ (uvb (2 * g + 1) ++ (packB (pad l a (8 * g)) w ++ rpkF l w f (a + 8 * g) ++ s)) by simp only [List.append_assoc], show ((p ++ uvb (2 * g + 1)).length : Int) = (p.length : Int) + ((uvb (2 * g + 1)).length : Int) by simp, pad_len] at hr
    rw [hu]
    simp only [if_true]
    have hux : ux ((2 * g + 1 : Nat) : Int) / 2 = g := by rw [ux_nat _ (by omega)]; omega
    have hpk : (8 * g * w + 7) / 8 = g * w := by
     have : 8 * g * w = 8 * (g * w) := Nat.mul_assoc _ _ _
     omega
    rw [if_neg (by omega), hux, if_neg (by
     simp only [List.length_append, packB_len, pad_len, hpk]; omega), htl]
    rw [unpackB_take _ _ (min (8 * g) (l.length - a)) (8 * g) w (by omega), hr, take_add_pad l a (8 * g) (by omega)]
    have hpos := uvb_len_pos (2 * g + 1)
    have h3 := ih (a + 8 * g) F (p ++ uvb (2 * g + 1) ++ packB (pad l a (8 * g)) w) (by omega) (by simp only [List.length_append] at h2; omega)
    rw [show p ++ uvb (2 * g + 1) ++ packB (pad l a (8 * g)) w ++ (rpkF l w f (a + 8 * g) ++ s) = p ++ (uvb (2 * g + 1) ++ (packB (pad l a (8 * g)) w ++ rpkF l w f (a + 8 * g) ++ s)) by simp only [List.append_assoc], show ((p ++ uvb (2 * g + 1) ++ packB (pad l a (8 * g)) w).length : Int) = (p.length : Int) + ((uvb (2 * g + 1)).length : Int) + (g * w : Nat) by simp only [List.length_append, packB_len, pad_len, hpk]; push_cast; rfl] at h3
    rw [h3]
    simp only [List.length_append, packB_len, pad_len, hpk]
    refine Prod.ext rfl (Prod.ext ?_ rfl)
    show _ = _
    push_cast; omega
  ·rw [rpkF_succ, if_neg hal]
   rw [runs_succ, if_neg (by simp; omega), List.take_of_length_le (by omega)]
   simp
theorem rrd_put (l : List Int) (w : Int) (hc : l.length ≤ 2000 ∧ 0 ≤ w ∧ w ≤ 24 ∧ ∀ n ∈ l, 0 ≤ n ∧ (blen n.toNat : Int) ≤ w) (p s : List Int) :
  rrd (p ++ ((rpk l w).1 ++ s)) p.length l.length w = (l, (p.length : Int) + (rpk l w).1.length, true) := by
 unfold rpk
 rw [if_pos hc]
 unfold rrd
 rw [if_pos (by simp only [List.length_append]; omega)]
 have h := runs_put l w.toNat (by omega) hc.1 (fun n hn => ⟨(hc.2.2.2 n hn).1, by have := (hc.2.2.2 n hn).2; omega⟩) s (l.length + 1) 0 ((p ++ (rpkF l w.toNat (l.length + 1) 0 ++ s)).length + 1) p (by omega) (by simp only [List.length_append]; omega)
 rw [Int.toNat_natCast]
 simpa using h

theorem runs_len (b : List Int) (many w : Nat) : ∀ (f : Nat) (a : Int) (acc : List Int), acc.length ≤ many → (runs b many w f a acc).1.length ≤ many := by
 intro f
 induction f with
 | zero => intro a acc h; simp [runs]
 | succ f ih =>
  intro a acc h
  rw [runs_succ]
  split
  ·split
   ·split
    ·split
     ·exact ih _ _ (by simp; omega)
     ·simp
    ·split
     ·simp
     ·exact ih _ _ (by simp [unpackB]; omega)
   ·simp
  ·exact h
theorem rrd_len (b : List Int) (a many w : Int) : (rrd b a many w).1.length ≤ 2000 := by
 unfold rrd
 split
 ·rename_i h
  have := runs_len b many.toNat w.toNat (b.length + 1) a [] (by simp)
  omega
 ·simp

def lrd (b : List Int) (a many m : Int) : List Int × Int × Bool :=
 if (0 ≤ m ∧ m ≤ 255) ∧ (0 ≤ many ∧ many ≤ 2000) ∧ (0 ≤ a ∧ a ≤ b.length) then
  if m = 0 then (List.replicate many.toNat 0, a, true)
  else if (wget b a 4).2.2 = true ∧ (wget b a 4).1 ≤ (b.length : Int) - (wget b a 4).2.1 then
   if (rrd ((b.take ((wget b a 4).2.1 + (wget b a 4).1).toNat).drop (wget b a 4).2.1.toNat) 0 many (bw m)).2.2 = true ∧ ∀ x ∈ (rrd ((b.take ((wget b a 4).2.1 + (wget b a 4).1).toNat).drop (wget b a 4).2.1.toNat) 0 many (bw m)).1, x ≤ m then
    ((rrd ((b.take ((wget b a 4).2.1 + (wget b a 4).1).toNat).drop (wget b a 4).2.1.toNat) 0 many (bw m)).1, (wget b a 4).2.1 + (wget b a 4).1, true)
   else ([], 0, false)
  else ([], 0, false)
 else ([], 0, false)
theorem impl_LevelsRead_l (m sz nx : Int) (r : List Int) (hr : r.length ≤ 2000) (h0 : 0 ≤ nx + sz) (h1 : nx + sz < 9223372036854775808) :
  Ev (fun k => impl_LevelsRead.l0 k m sz nx r r r.length 0) (if ∀ x ∈ r, x ≤ m then (r, nx + sz, true) else ([], 0, false)) := by
 have key : ∀ (d i : Nat), i + d = r.length → (∀ x ∈ r.take i, x ≤ m) → Ev (fun k => impl_LevelsRead.l0 k m sz nx r r r.length i) (if ∀ x ∈ r, x ≤ m then (r, nx + sz, true) else ([], 0, false)) := by
  intro d
  induction d with
  | zero =>
   intro i hi hf
   rw [show i = r.length by omega, List.take_length] at hf
   rw [if_pos hf]
   refine Ev.step (f := fun _ => some (r, nx + sz, true)) (fun k => ?_) (Ev.now _)
   simp only [impl_LevelsRead.l0]; rw [if_neg (by omega), wrap_id (by omega) (by omega)]
  | succ d ih =>
   intro i hi hf
   have hm : rd r i = r[i] := rd_eq r i (by omega)
   by_cases hx : r[i] > m
   ·rw [if_neg (fun h => by have := h _ (List.getElem_mem (show i < r.length by omega)); omega)]
    refine Ev.step (f := fun _ => some ([], 0, false)) (fun k => ?_) (Ev.now _)
    simp only [impl_LevelsRead.l0]; rw [if_pos (by omega), if_pos (by omega), if_pos (by omega), hm, if_pos hx]
   ·have h := ih (i + 1) (by omega) (by
     intro x hx2
     rw [List.take_succ_eq_append_getElem (by omega)] at hx2
     rcases List.mem_append.1 hx2 with h|h
     ·exact hf x h
     ·rw [List.mem_singleton] at h; subst h; omega)
    refine Ev.step (fun k => ?_) h
    simp only [impl_LevelsRead.l0]; rw [if_pos (by omega), if_pos (by omega), if_pos (by omega), hm, if_neg hx, wrap_id (n := (i : Int) + 1) (by omega) (by omega)]; push_cast; rfl
 exact key r.length 0 (by omega) (by simp)
theorem impl_LevelsRead_ev (b : List Int) (a many m : Int) (hb : ∀ x ∈ b, (Lit.int .u8 x).wf = true) (hlen : b.length ≤ 1000000000) : Ev (fun k => impl_LevelsRead.f k b a many m) (lrd b a many m) := by
 have bad : Ev (fun k => impl_LevelsRead.j0 k b a many m true) ([], 0, false) := Ev.step (f := fun _ => some ([], 0, false)) (fun k => by simp only [impl_LevelsRead.j0]; rw [if_pos trivial]) (Ev.now _)
 unfold impl_LevelsRead.f lrd
 simp only [impl_within_ev, Option.bind_some]
 by_cases h1 : 0 ≤ m ∧ m ≤ 255
 ·simp only [decide_eq_true h1, if_true]
  by_cases h2 : 0 ≤ many ∧ many ≤ 2000
  ·simp only [decide_eq_true h2, if_true]
   by_cases h3 : 0 ≤ a ∧ a ≤ (b.length : Int)
   ·simp only [decide_eq_true h3, Bool.not_true]
    rw [if_pos ⟨h1, h2, h3⟩]
    by_cases hm0 : m = 0
    ·rw [if_pos hm0]
     refine Ev.step (f := fun _ => some (List.replicate many.toNat 0, a, true)) (fun k => ?_) (Ev.now _)
     simp only [impl_LevelsRead.j0]; rw [if_neg (by simp), if_pos hm0, if_pos h2.1, if_pos (by omega)]
    ·rw [if_neg hm0]
     refine Ev.step (fun k => by simp only [impl_LevelsRead.j0]; rw [if_neg (by simp), if_neg hm0]) ?_
     refine Ev.bind (impl_WordGet_ev b a 4 hb (by omega) (by omega) (by decide)) ?_
     have badj : ∀ s n, Ev (fun k => impl_LevelsRead.j1 k b many m s n true) ([], 0, false) := fun s n => Ev.step (f := fun _ => some ([], 0, false)) (fun k => by simp only [impl_LevelsRead.j1]; rw [if_pos trivial]) (Ev.now _)
     by_cases hg : (wget b a 4).2.2 = true
     ·have hx := wget_ok b a 4 hb (by decide) hg
      simp only [if_pos hg]
      rw [wrap_id (n := (b.length : Int) - (wget b a 4).2.1) (by omega) (by omega)]
      generalize hsz : (wget b a 4).1 = sz at hx ⊢
      generalize hnx : (wget b a 4).2.1 = nx at hx ⊢
      by_cases hl : sz ≤ (b.length : Int) - nx
      ·rw [decide_eq_false (show ¬ sz > (b.length : Int) - nx by omega), if_pos ⟨hg, hl⟩]
       refine Ev.step (fun k => by simp only [impl_LevelsRead.j1]; rw [if_neg (by simp), wrap_id (n := nx + sz) (by omega) (by omega), if_pos (show 0 ≤ nx by omega), if_pos (show nx ≤ nx + sz by omega), if_pos (show nx + sz ≤ (b.length : Int) by omega)]) ?_
       refine Ev.bind (impl_BitsWidth_ev m (by omega)) ?_
       have wsub : ∀ x ∈ (b.take (nx + sz).toNat).drop nx.toNat, (Lit.int .u8 x).wf = true := fun x hx => hb x (List.mem_of_mem_take (List.mem_of_mem_drop hx))
       refine Ev.bind (impl_RunRead_ev _ 0 many (bw m) wsub (by rw [List.length_drop, List.length_take]; omega)) ?_
       have hrl := rrd_len ((b.take (nx + sz).toNat).drop nx.toNat) 0 many (bw m)
       generalize rrd ((b.take (nx + sz).toNat).drop nx.toNat) 0 many (bw m) = R at hrl
       obtain ⟨r, p, ok⟩ := R
       cases ok with
       | true =>
        simp only [if_true]
        have h := impl_LevelsRead_l m sz nx r hrl (by omega) (by omega)
        by_cases hall : ∀ x ∈ r, x ≤ m
        ·rw [if_pos hall] at h; rw [if_pos ⟨trivial, hall⟩]; exact h
        ·rw [if_neg hall] at h; rw [if_neg (fun h => hall h.2)]; exact h
       | false =>
        simp only [Bool.false_eq_true, if_false]
        rw [if_neg (fun h => h.1)]; exact Ev.now _
      ·rw [decide_eq_true (show sz > (b.length : Int) - nx by omega), if_neg (fun h => hl h.2)]; exact badj _ _
     ·simp only [if_neg hg]; rw [if_neg (fun h => hg h.1)]; exact badj _ _
   ·simp only [decide_eq_false h3, Bool.not_false]; rw [if_neg (fun h => h3 h.2.2)]; exact bad
  ·simp only [decide_eq_false h2, Bool.false_eq_true, if_false]; rw [if_neg (fun h => h2 h.2.1)]; exact bad
 ·simp only [decide_eq_false h1, Bool.false_eq_true, if_false]; rw [if_neg (fun h => h1 h.1)]; exact bad

theorem rpk_ok (l : List Int) (w : Int) (h : (rpk l w).2 = true) : l.length ≤ 2000 ∧ 0 ≤ w ∧ w ≤ 24 ∧ ∀ n ∈ l, 0 ≤ n ∧ (blen n.toNat : Int) ≤ w := by
 unfold rpk at h
 split at h
 ·assumption
 ·cases h
theorem wget_put (p r : List Int) (x : Int) (h0 : 0 ≤ x) (h1 : x ≤ 1000000000) : wget (p ++ (wbytes x 4 ++ r)) p.length 4 = (x, (p.length : Int) + 4, true) := by
 have e : wnum (p ++ (wbytes x 4 ++ r)) p.length 4 = x := by
  rw [wnum_wbytes x]
  ·omega
  ·intro i hi
   rw [← List.append_assoc, rd_mid p (wbytes x 4) r _ (by omega) (by rw [wbytes_len]; omega), show (p.length : Int) + i - p.length = i by omega, rd_wbytes x _ _ (by omega) (by omega), Int.toNat_natCast]
 unfold wget
 rw [if_pos (by simp only [List.length_append, wbytes_len]; omega), show (4 : Int).toNat = 4 from rfl, e, wrap_id (by omega) (by omega)]
theorem lrd_put (l : List Int) (m : Int) (h : (lpk l m).2 = true) (p s : List Int) : lrd (p ++ ((lpk l m).1 ++ s)) p.length l.length m = (l, (p.length : Int) + (lpk l m).1.length, true) := by
 have hlen := rpk_len l (bw m)
 unfold lpk at h ⊢
 by_cases hc : (0 ≤ m ∧ m ≤ 255) ∧ ∀ x ∈ l, 0 ≤ x ∧ x ≤ m
 ·rw [if_pos hc] at h ⊢
  by_cases hr : (rpk l (bw m)).2 = true
  ·rw [if_pos hr] at h ⊢
   have hk := rpk_ok l _ hr
   have hrt := rrd_put l (bw m) hk [] []
   generalize hbody : (rpk l (bw m)).1 = body at hlen hrt ⊢
   unfold lrd
   rw [if_pos (by simp only [List.length_append]; omega)]
   by_cases h0 : m = 0
   ·rw [if_pos h0, if_pos h0]
    have hrep : List.replicate (l.length : Int).toNat 0 = l := by
     rw [Int.toNat_natCast]
     symm
     rw [List.eq_replicate_iff]
     refine ⟨rfl, fun b hb => ?_⟩
     have := hc.2 b hb; omega
    rw [hrep]
    simp
   ·rw [if_neg h0, if_neg h0]
    have hw := wget_put p (body ++ s) (body.length : Int) (by omega) (by omega)
    rw [← List.append_assoc (wbytes _ _)] at hw
    simp only [hw]
    have hsl : ((p ++ (wbytes (body.length : Int) 4 ++ body ++ s)).take ((p.length : Int) + 4 + body.length).toNat).drop ((p.length : Int) + 4).toNat = body := by
     rw [show ((p.length : Int) + 4 + body.length).toNat = (p ++ wbytes (body.length : Int) 4 ++ body).length by simp only [List.length_append, wbytes_len]; omega]
     rw [show p ++ (wbytes (body.length : Int) 4 ++ body ++ s) = (p ++ wbytes (body.length : Int) 4 ++ body) ++ s by simp only [List.append_assoc]]
     rw [List.take_left, show ((p.length : Int) + 4).toNat = (p ++ wbytes (body.length : Int) 4).length by simp only [List.length_append, wbytes_len]; omega, List.drop_left]
    simp only [List.nil_append, List.append_nil, List.length_nil] at hrt
    have hrt' : rrd body 0 l.length (bw m) = (l, ((0 : Nat) : Int) + body.length, true) := hrt
    rw [if_pos ⟨trivial, by simp only [List.length_append, wbytes_len]; omega⟩, hsl, hrt', if_pos ⟨rfl, fun x hx => (hc.2 x hx).2⟩]
    simp only [List.length_append, wbytes_len]
    refine Prod.ext rfl (Prod.ext ?_ rfl)
    show _ = _
    push_cast; omega
  ·rw [if_neg hr] at h; cases h
 ·rw [if_neg hc] at h; cases h
theorem lpk_wf (l : List Int) (m : Int) : ∀ x ∈ (lpk l m).1, (Lit.int .u8 x).wf = true := by
 intro x hx
 unfold lpk at hx
 split at hx
 ·split at hx
  ·split at hx
   ·cases hx
   ·rcases List.mem_append.1 hx with hx|hx
    ·exact wbytes_wf _ _ _ hx
    ·unfold rpk at hx
     split at hx
     ·exact rpkF_wf _ _ _ _ _ hx
     ·cases hx
  ·cases hx
 ·cases hx
theorem lpk_zero (l : List Int) (m : Int) (h : ¬ m > 0 ∨ ¬ (lpk l m).2 = true) : (lpk l m).1 = [] := by
 unfold lpk at h ⊢
 split
 ·rename_i hc
  rw [if_pos hc] at h
  split
  ·rename_i hr
   rw [if_pos hr] at h
   split
   ·rfl
   ·rename_i h0
    rw [if_neg h0] at h
    rcases h with h|h
    ·omega
    ·exact absurd rfl h
  ·rfl
 ·rfl

theorem sameInts_self (a : List Int) (hn : a.length ≤ 1000000000000000000) : Ev (fun k => laws_sameInts.f k a a) true := by
 have key : ∀ (d : Nat) (i : Int), 0 ≤ i → i ≤ a.length → (a.length : Int) - i = d → Ev (fun k => laws_sameInts.l0 k a a i) true := by
  intro d
  induction d with
  | zero =>
   intro i h0 h1 hd
   refine Ev.step (f := fun _ => some true) (fun k => ?_) (Ev.now _)
   simp only [laws_sameInts.l0]; rw [if_neg (by omega)]
  | succ d ih =>
   intro i h0 h1 hd
   refine Ev.step (f := fun k => laws_sameInts.l0 k a a (i + 1)) (fun k => ?_) (ih (i + 1) (by omega) (by omega) (by omega))
   simp only [laws_sameInts.l0]; rw [if_pos (by omega), if_pos h0, if_pos (by omega), if_pos trivial, wrap_id (by omega) (by omega)]
 have h := key a.length 0 (by omega) (by omega) (by omega)
 unfold laws_sameInts.f
 simpa using h

theorem FnLevels : laws_FnLevels.Pure := by
 intro l hlen hsz hl
 refine Ev.rounds (g := fun k => laws_FnLevels.f k l) ?_
 unfold laws_FnLevels.f
 simp only [laws_big_ev, Option.bind_some]
 by_cases hbig : (l.length : Int) > 1048576
 ·simp only [decide_eq_true hbig, if_true]; exact Ev.now _
 simp only [decide_eq_false hbig, Bool.false_eq_true, if_false]
 obtain ⟨r, m, e, hr, lr, m0, m1⟩ := spec_DrawLevelsPack_ev l hl (by omega)
 refine Ev.bind e ?_
 refine Ev.bind (impl_LevelsPack_ev r m hr (by omega)) ?_
 refine Ev.bind (spec_LevelsPack_ev r m hr (by omega)) ?_
 simp only [bne_self_eq_false, Bool.false_eq_true, if_false]
 have hz := lpk_zero r m
 have hput := lrd_put r m
 have hbl := lpk_len r m
 have hwf := lpk_wf r m
 generalize lpk r m = b at hz hput hbl hwf ⊢
 obtain ⟨b, ok⟩ := b
 cases ok with
 | true =>
  simp only [if_true]
  have hp := hput rfl [3] [9, 9]
  simp only at hp hbl hwf hz
  have wb : ∀ y ∈ [3] ++ b ++ [9, 9], (Lit.int .u8 y).wf = true := by
   intro y hy
   rcases List.mem_append.1 hy with hy|hy
   ·rcases List.mem_append.1 hy with hy|hy
    ·rw [List.mem_singleton] at hy; subst hy; decide
    ·exact hwf y hy
   ·simp only [List.mem_cons, List.not_mem_nil, or_false, or_self] at hy; subst hy; decide
  rw [← List.append_assoc] at hp
  refine ev_if (by simp only [List.length_cons, List.length_nil]; omega) ?_
  refine ev_if (by simp only [List.length_append, List.length_cons, List.length_nil]; omega) ?_
  refine Ev.bind (impl_LevelsRead_ev _ 1 r.length m wb (by simp only [List.length_append, List.length_cons, List.length_nil]; omega)) ?_
  rw [show lrd ([3] ++ b ++ [9, 9]) 1 r.length m = (r, 1 + (b.length : Int), true) from hp]
  simp only [if_true]
  rw [wrap_id (n := 1 + (b.length : Int)) (by omega) (by omega)]
  simp only [if_true]
  refine Ev.bind (sameInts_self r (by omega)) ?_
  simp only [if_true]
  by_cases hm : m > 0
  ·simp only [if_pos hm]; exact Ev.now _
  ·simp only [if_neg hm, hz (Or.inl hm)]; exact Ev.now _
 | false =>
  simp only [Bool.false_eq_true, if_false]
  have hz := hz (Or.inr (by simp))
  simp only at hz
  rw [hz]; exact Ev.now _

end Go.Proofs.Ytelgjjpojndlpaa.Pure
