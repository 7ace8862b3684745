/- WordGet answers as the reference does, for all bytes and all ints. -/
import Derived.Test.YtgojhlbhfmgkjaaPFnExactWordGetx2
import Derived.Test.YtgojhlbhfmgkjaaCom
namespace Go.Proofs.Ytgojhlbhfmgkjaa.Pure
open Go Go.RowKit Go.Proofs.Ytgojhlbhfmgkjaa.PFnExactWordGet Go.Proofs.YtgojhlbhfmgkjaaW.PrintWords Go.Proofs.YtgojhlbhfmgkjaaW.PrintLast Go.Proofs.YtgojhlbhfmgkjaaW.PrintMore Go.Proofs.Ytgojhlbhfmgkjaa.Com
set_option linter.unusedVariables false
set_option linter.unusedSimpArgs false

theorem toByteS_ev (a : List Int) (hn : a.length ≤ 1000000000000) : Ev (fun k => laws_toByteS.f k a) a := by
  have key : ∀ (d : Nat) (i : Nat) (r : List Int), r.length = d → i + d = a.length → Ev (fun k => laws_toByteS.l0 k a (a.take i ++ r) i) a := by
    intro d
    induction d with
    | zero =>
      intro i r hr hd
      obtain rfl : r = [] := List.length_eq_zero_iff.1 hr
      refine Ev.step (f := fun _ => some a) (fun k => ?_) (Ev.now _)
      simp only [laws_toByteS.l0]; rw [if_neg (by omega)]
      rw [show i = a.length by omega]; simp
    | succ d ih =>
      intro i r hr hd
      refine Ev.step (f := fun k => laws_toByteS.l0 k a (a.take (i + 1) ++ r.tail) (i + 1 : Nat)) (fun k => ?_) (ih (i + 1) r.tail (by simp [hr]) (by omega))
      simp only [laws_toByteS.l0]; rw [if_pos (by omega), if_pos (by omega), if_pos (by simp; omega), wrap_id (by omega) (by omega)]
      rw [set_mid _ _ _ _ (by simp; omega) (by omega), rd_eq' _ _ (by omega) (by simp; omega)]
      rw [List.take_succ_eq_append_getElem (by omega)]; simp
  have h := key a.length 0 (List.replicate a.length 0) (by simp) (by omega)
  unfold laws_toByteS.f
  simp only [if_pos (show (0:Int) ≤ a.length by omega), if_pos (show ((a.length : Int)).toNat ≤ 281474976710656 by omega)]
  simpa using h

theorem eqByteS_self (a : List Int) (hn : a.length ≤ 1000000000000000000) : Ev (fun k => laws_eqByteS.f k a a) true := by
  have key : ∀ (d : Nat) (i : Int), 0 ≤ i → i ≤ a.length → (a.length : Int) - i = d → Ev (fun k => laws_eqByteS.l0 k a a i) true := by
    intro d
    induction d with
    | zero =>
      intro i h0 h1 hd
      refine Ev.step (f := fun _ => some true) (fun k => ?_) (Ev.now _)
      simp only [laws_eqByteS.l0]; rw [if_neg (by omega)]
    | succ d ih =>
      intro i h0 h1 hd
      refine Ev.step (f := fun k => laws_eqByteS.l0 k a a (i + 1)) (fun k => ?_) (ih (i + 1) (by omega) (by omega) (by omega))
      simp only [laws_eqByteS.l0]; rw [if_pos (by omega), if_pos h0, if_pos (by omega), if_pos trivial, wrap_id (by omega) (by omega)]
  have h := key a.length 0 (by omega) (by omega) (by omega)
  unfold laws_eqByteS.f
  simpa using h

theorem impl_within_ev (x a b : Int) : impl_within.f x a b = some (decide (a ≤ x ∧ x ≤ b)) := by
  unfold impl_within.f
  by_cases h : x ≥ a
  · rw [if_pos h]; congr 1; simp [show a ≤ x from h]
  · rw [if_neg h]; congr 1; simp [show ¬ a ≤ x from h]

/-- What WordGet answers. -/
def wget (l : List Int) (a n : Int) : Int × Int × Bool := if 1 ≤ n ∧ n ≤ 8 ∧ 0 ≤ a ∧ a + n ≤ l.length then (wrap64 (wnum l a n.toNat), a + n, true) else (0, 0, false)
theorem impl_WordGet_ev (l : List Int) (a n : Int) (hl : ∀ x ∈ l, (Lit.int .u8 x).wf = true) (hlen : l.length ≤ 1000000000000) (ha : -9223372036854775808 ≤ a ∧ a < 9223372036854775808) (hn : -9223372036854775808 ≤ n ∧ n < 9223372036854775808) :
    Ev (fun k => impl_WordGet.f k l a n) (wget l a n) := by
  unfold impl_WordGet.f wget
  simp only [impl_within_ev, Option.bind_some]
  have bad : Ev (fun k => impl_WordGet.j0 k l a n true) (0, 0, false) := Ev.step (f := fun _ => some (0, 0, false)) (fun k => by simp only [impl_WordGet.j0]; rw [if_pos trivial]) (Ev.now _)
  by_cases hn8 : 1 ≤ n ∧ n ≤ 8
  · obtain ⟨h1, h8⟩ := id hn8
    · simp only [decide_eq_true hn8, if_true]
      by_cases h2 : a < 0
      · simp only [if_pos h2]; rw [if_neg (show ¬ (1 ≤ n ∧ n ≤ 8 ∧ 0 ≤ a ∧ a + n ≤ (l.length : Int)) by omega)]; exact bad
      · simp only [if_neg h2]
        rw [wrap_id (n := (l.length : Int) - n) (by omega) (by omega)]
        by_cases h3 : a + n ≤ l.length
        · rw [if_pos (show (1 ≤ n ∧ n ≤ 8 ∧ 0 ≤ a ∧ a + n ≤ (l.length : Int)) by omega)]
          have key : ∀ (d : Nat) (i : Nat), (i : Int) + d = n → Ev (fun k => impl_WordGet.l0 k l a n (wrap64 (wnum l a i)) n i) (wrap64 (wnum l a n.toNat), a + n, true) := by
            intro d
            induction d with
            | zero =>
              intro i hd
              refine Ev.step (f := fun _ => some (wrap64 (wnum l a n.toNat), a + n, true)) (fun k => ?_) (Ev.now _)
              simp only [impl_WordGet.l0]; rw [if_neg (by omega), show n.toNat = i by omega, wrap_id (n := a + n) (by omega) (by omega)]
            | succ d ih =>
              intro i hd
              refine Ev.step (f := fun k => impl_WordGet.l0 k l a n (wrap64 (wnum l a (i + 1))) n (i + 1 : Nat)) (fun k => ?_) (ih (i + 1) (by omega))
              simp only [impl_WordGet.l0]
              have hr := rd_rng8 hl (a + i)
              rw [if_pos (by omega), wrap_id (n := a + (i : Int)) (by omega) (by omega), wrap_id (n := 8 * (i : Int)) (by omega) (by omega), if_pos (by omega), if_pos (by omega), if_pos (by omega), wrap_id (n := rd l (a + i)) (by omega) (by omega), wrap_id (n := (i : Int) + 1) (by omega) (by omega), shl64 _ _ (by omega) (by omega), show (8 * (i : Int)).toNat = 8 * i by omega]
              rw [or_add _ _ (8 * i) (wnum_rng hl a i).1 (wnum_rng hl a i).2 hr.1]
              push_cast; rfl
          refine Ev.step (f := fun k => impl_WordGet.l0 k l a n 0 n 0) (fun k => ?_) ?_
          · simp only [impl_WordGet.j0]; rw [if_neg (by simp; omega)]
          · have h := key n.toNat 0 (by omega)
            simpa [wnum, show wrap64 0 = 0 by unfold wrap64; omega] using h
        · rw [if_neg (show ¬ (1 ≤ n ∧ n ≤ 8 ∧ 0 ≤ a ∧ a + n ≤ (l.length : Int)) by omega)]
          simpa [show a > (l.length : Int) - n by omega] using bad
  · simp only [decide_eq_false hn8, Bool.false_eq_true, if_false]
    rw [if_neg (show ¬ (1 ≤ n ∧ n ≤ 8 ∧ 0 ≤ a ∧ a + n ≤ (l.length : Int)) by omega)]; exact bad

theorem spec_l1In_ev (x a b : Int) : spec_l1In.f x a b = some (decide (a ≤ x ∧ x ≤ b)) := by
  unfold spec_l1In.f
  by_cases h : x ≥ a
  · rw [if_pos h]; congr 1; simp [show a ≤ x from h]
  · rw [if_neg h]; congr 1; simp [show ¬ a ≤ x from h]

theorem spec_WordGet_ev (l : List Int) (a n : Int) (hl : ∀ x ∈ l, (Lit.int .u8 x).wf = true) (hlen : l.length ≤ 1000000000000) (ha : -9223372036854775808 ≤ a ∧ a < 9223372036854775808) (hn : -9223372036854775808 ≤ n ∧ n < 9223372036854775808) :
    Ev (fun k => spec_WordGet.f k l a n) (wget l a n) := by
  unfold spec_WordGet.f wget
  simp only [spec_l1In_ev, Option.bind_some]
  have bad : Ev (fun k => spec_WordGet.j0 k l a n true) (0, 0, false) := Ev.step (f := fun _ => some (0, 0, false)) (fun k => by simp only [spec_WordGet.j0]; rw [if_pos trivial]) (Ev.now _)
  by_cases hn8 : 1 ≤ n ∧ n ≤ 8
  · obtain ⟨h1, h8⟩ := id hn8
    · simp only [decide_eq_true hn8, if_true]
      by_cases h2 : a < 0
      · simp only [if_pos h2]; rw [if_neg (show ¬ (1 ≤ n ∧ n ≤ 8 ∧ 0 ≤ a ∧ a + n ≤ (l.length : Int)) by omega)]; exact bad
      · simp only [if_neg h2]
        by_cases h4 : a > (l.length : Int)
        · simp only [if_pos h4]; rw [if_neg (show ¬ (1 ≤ n ∧ n ≤ 8 ∧ 0 ≤ a ∧ a + n ≤ (l.length : Int)) by omega)]; exact bad
        simp only [if_neg h4]
        rw [wrap_id (n := (l.length : Int) - a) (by omega) (by omega)]
        by_cases h3 : a + n ≤ l.length
        · rw [if_pos (show (1 ≤ n ∧ n ≤ 8 ∧ 0 ≤ a ∧ a + n ≤ (l.length : Int)) by omega)]
          have key : ∀ (d : Nat) (i : Nat), (i : Int) + d = n → Ev (fun k => spec_WordGet.l0 k l a n (wrap64 (wnum l a i)) i) (wrap64 (wnum l a n.toNat), a + n, true) := by
            intro d
            induction d with
            | zero =>
              intro i hd
              refine Ev.step (f := fun _ => some (wrap64 (wnum l a n.toNat), a + n, true)) (fun k => ?_) (Ev.now _)
              simp only [spec_WordGet.l0]; rw [if_neg (by omega), show n.toNat = i by omega, wrap_id (n := a + n) (by omega) (by omega)]
            | succ d ih =>
              intro i hd
              refine Ev.step (f := fun k => spec_WordGet.l0 k l a n (wrap64 (wnum l a (i + 1))) (i + 1 : Nat)) (fun k => ?_) (ih (i + 1) (by omega))
              simp only [spec_WordGet.l0]
              have hr := rd_rng8 hl (a + i)
              rw [if_pos (by omega), wrap_id (n := a + (i : Int)) (by omega) (by omega), wrap_id (n := 8 * (i : Int)) (by omega) (by omega), if_pos (by omega), if_pos (by omega), if_pos (by omega), wrap_id (n := rd l (a + i)) (by omega) (by omega), wrap_id (n := (i : Int) + 1) (by omega) (by omega), shl64 _ _ (by omega) (by omega), show (8 * (i : Int)).toNat = 8 * i by omega]
              rw [or_add _ _ (8 * i) (wnum_rng hl a i).1 (wnum_rng hl a i).2 hr.1]
              push_cast; rfl
          refine Ev.step (f := fun k => spec_WordGet.l0 k l a n 0 0) (fun k => ?_) ?_
          · simp only [spec_WordGet.j0]; rw [if_neg (by simp; omega)]
          · have h := key n.toNat 0 (by omega)
            simpa [wnum, show wrap64 0 = 0 by unfold wrap64; omega] using h
        · rw [if_neg (show ¬ (1 ≤ n ∧ n ≤ 8 ∧ 0 ≤ a ∧ a + n ≤ (l.length : Int)) by omega)]
          simpa [show (l.length : Int) - a < n by omega] using bad
  · simp only [decide_eq_false hn8, Bool.false_eq_true, if_false]
    rw [if_neg (show ¬ (1 ≤ n ∧ n ≤ 8 ∧ 0 ≤ a ∧ a + n ≤ (l.length : Int)) by omega)]; exact bad

theorem FnExactWordGet : laws_FnExactWordGet.Pure := by
  intro l a n hlen hsz hl ha hn
  have hw := wf64 hn
  have hv := wf64 ha
  refine Ev.rounds (g := fun k => laws_FnExactWordGet.f k l a n) ?_
  unfold laws_FnExactWordGet.f
  by_cases hbig : (l.length : Int) > 1048576
  · simp only [if_pos hbig]; exact Ev.now _
  simp only [if_neg hbig]
  refine Ev.bind (toByteS_ev l (by omega)) ?_
  refine Ev.bind (spec_WordGet_ev l a n hl (by omega) hv hw) ?_
  refine Ev.bind (toByteS_ev l (by omega)) ?_
  refine Ev.bind (impl_WordGet_ev l a n hl (by omega) hv hw) ?_
  simp only [if_true, bne_self_eq_false]
  refine Ev.step (f := fun k => (laws_toByteS.f k l).bind fun t => (laws_eqByteS.f k l t).bind fun t' => if t' = true then some true else some false) (fun k => ?_) ?_
  · simp only [laws_FnExactWordGet.j0, Bool.false_eq_true, if_false]
  refine Ev.bind (toByteS_ev l (by omega)) ?_
  refine Ev.bind (eqByteS_self l (by omega)) ?_
  simp only [if_true]; exact Ev.now _

end Go.Proofs.Ytgojhlbhfmgkjaa.Pure
