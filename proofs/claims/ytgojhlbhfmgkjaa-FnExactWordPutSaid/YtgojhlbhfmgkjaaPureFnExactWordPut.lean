/- WordPut answers as the reference does, for all ints. -/
import Derived.Test.YtgojhlbhfmgkjaaPFnExactWordPutx1
import Derived.Test.YtgojhlbhfmgkjaaCom
namespace Go.Proofs.Ytgojhlbhfmgkjaa.Pure
open Go Go.RowKit Go.Proofs.Ytgojhlbhfmgkjaa.PFnExactWordPut Go.Proofs.YtgojhlbhfmgkjaaW.PrintWords Go.Proofs.YtgojhlbhfmgkjaaW.PrintLast Go.Proofs.YtgojhlbhfmgkjaaW.PrintMore Go.Proofs.Ytgojhlbhfmgkjaa.Com
set_option linter.unusedVariables false
set_option linter.unusedSimpArgs false

theorem eqByteS_self (a : List Int) (hn : a.length ≤ 1000000000000000000) : Ev (fun k => laws_eqByteS.f k a a) true := by
  have key : ∀ (d : Nat) (i : Int), 0 ≤ i → i ≤ a.length → (a.length : Int) - i = d → Ev (fun k => laws_eqByteS.l0 k a a i) true := by
    intro d
    induction d with
    | zero =>
      intro i h0 h1 hd
      refine Ev.step (f := fun _ => some true) (fun k => ?_) (Ev.now _)
      simp only [laws_eqByteS.l0]; rw [if_neg (by omega)]
    | succ d ih =>
      intro i h0 h1 hd
      refine Ev.step (f := fun k => laws_eqByteS.l0 k a a (i + 1)) (fun k => ?_) (ih (i + 1) (by omega) (by omega) (by omega))
      simp only [laws_eqByteS.l0]; rw [if_pos (by omega), if_pos h0, if_pos (by omega), if_pos trivial, wrap_id (by omega) (by omega)]
  have h := key a.length 0 (by omega) (by omega) (by omega)
  unfold laws_eqByteS.f
  simpa using h

theorem markByteS_ev (a : List Int) (m : Int) (h0 : 0 ≤ m) (hm : m ≤ 1000000000000000000) (hn : a.length ≤ 1000000000000000000) :
    Ev (fun k => laws_markByteS.f k a m) (m + a.length, mk8 a.length m) := by
  have key : ∀ (d : Nat) (i : Nat) (r : List Int), r.length = d → i + d = a.length → Ev (fun k => laws_markByteS.l0 k (mk8 i m ++ r) (m + i) i) (m + a.length, mk8 a.length m) := by
    intro d
    induction d with
    | zero =>
      intro i r hr hd
      obtain rfl : r = [] := List.length_eq_zero_iff.1 hr
      refine Ev.step (f := fun _ => some (m + a.length, mk8 a.length m)) (fun k => ?_) (Ev.now _)
      simp only [laws_markByteS.l0]; rw [if_neg (by simp [mk8_len])]
      rw [show i = a.length by omega]; simp
    | succ d ih =>
      intro i r hr hd
      refine Ev.step (f := fun k => laws_markByteS.l0 k (mk8 (i + 1) m ++ r.tail) (m + (i + 1 : Nat)) (i + 1 : Nat)) (fun k => ?_) (ih (i + 1) r.tail (by simp [hr]) (by omega))
      simp only [laws_markByteS.l0]; rw [if_pos (by simp [mk8_len]; omega), if_pos (by omega), wrap_id (by omega) (by omega), wrap_id (by omega) (by omega)]
      rw [set_mid _ _ _ _ (by simp [mk8_len]) (by omega), mk8_succ]; push_cast; rw [Int.add_assoc]
  have h := key a.length 0 a rfl (by omega)
  unfold laws_markByteS.f
  simpa [mk8] using h
theorem heldByteS_ev (n : Nat) (m : Int) (h0 : 0 ≤ m) (hm : m ≤ 1000000000000000000) (hn : n ≤ 1000000000000000000) :
    Ev (fun k => laws_heldByteS.f k (mk8 n m) m) (m + n) := by
  have key : ∀ (d : Nat) (i : Nat), i + d = n → Ev (fun k => laws_heldByteS.l0 k (mk8 n m) (m + i) i) (m + n) := by
    intro d
    induction d with
    | zero =>
      intro i hd
      refine Ev.step (f := fun _ => some (m + n)) (fun k => ?_) (Ev.now _)
      simp only [laws_heldByteS.l0]; rw [if_neg (by simp [mk8_len]; omega)]
      rw [show i = n by omega]
    | succ d ih =>
      intro i hd
      refine Ev.step (f := fun k => laws_heldByteS.l0 k (mk8 n m) (m + (i + 1 : Nat)) (i + 1 : Nat)) (fun k => ?_) (ih (i + 1) (by omega))
      simp only [laws_heldByteS.l0]; rw [if_pos (by simp [mk8_len]; omega), if_pos (by omega), if_pos (by rw [rd_mk8 _ _ _ (by omega) (by omega)]), wrap_id (by omega) (by omega), wrap_id (by omega) (by omega)]
      push_cast; rw [Int.add_assoc]
  have h := key n 0 (by omega)
  unfold laws_heldByteS.f
  simpa using h

theorem impl_within_ev (x a b : Int) : impl_within.f x a b = some (decide (a ≤ x ∧ x ≤ b)) := by
  unfold impl_within.f
  by_cases h : x ≥ a
  · rw [if_pos h]; congr 1; simp [show a ≤ x from h]
  · rw [if_neg h]; congr 1; simp [show ¬ a ≤ x from h]

theorem impl_WordPut_ev (x : Int) (n : Int) (h : n < 9223372036854775808) : Ev (fun k => impl_WordPut.f k x n) (if 1 ≤ n ∧ n ≤ 8 then wbytes x n.toNat else []) := by
  unfold impl_WordPut.f
  simp only [impl_within_ev, Option.bind_some]
  by_cases hn : 1 ≤ n ∧ n ≤ 8
  · have key : ∀ (d : Nat) (i : Nat), (i : Int) + d = n → Ev (fun k => impl_WordPut.l0 k x (wbytes x i) n i) (wbytes x n.toNat) := by
      intro d
      induction d with
      | zero =>
        intro i hd
        refine Ev.step (f := fun _ => some (wbytes x n.toNat)) (fun k => ?_) (Ev.now _)
        simp only [impl_WordPut.l0]; rw [if_neg (by omega), show n.toNat = i by omega]
      | succ d ih =>
        intro i hd
        refine Ev.step (f := fun k => impl_WordPut.l0 k x (wbytes x (i + 1)) n (i + 1 : Nat)) (fun k => ?_) (ih (i + 1) (by omega))
        simp only [impl_WordPut.l0]
        rw [if_pos (by omega), wrap_id (n := 8 * (i : Int)) (by omega) (by omega), if_pos (by omega), if_pos (by rw [wbytes_len]; omega), wrap_id (by omega) (by omega), shr64 _ _ (by omega) (by omega), wbytes_succ, show (8 * (i : Int)).toNat = 8 * i by omega]
        push_cast; rfl
    have h := key n.toNat 0 (by omega)
    rw [if_pos hn]
    simp only [decide_eq_true hn, if_true]
    simpa [wbytes] using h
  · rw [if_neg hn]
    simp only [decide_eq_false hn, Bool.false_eq_true, if_false]; exact Ev.now _

theorem spec_WordPut_ev (x : Int) (n : Int) (h : n < 9223372036854775808) : Ev (fun k => spec_WordPut.f k x n) (if 1 ≤ n ∧ n ≤ 8 then wbytes x n.toNat else []) := by
  unfold spec_WordPut.f
  by_cases hn : 1 ≤ n ∧ n ≤ 8
  · have key : ∀ (d : Nat) (i : Nat), (i : Int) + d = n → Ev (fun k => spec_WordPut.l0 k x n (wbytes x i) i) (wbytes x n.toNat) := by
      intro d
      induction d with
      | zero =>
        intro i hd
        refine Ev.step (f := fun _ => some (wbytes x n.toNat)) (fun k => ?_) (Ev.now _)
        simp only [spec_WordPut.l0]; rw [if_neg (by omega), show n.toNat = i by omega]
      | succ d ih =>
        intro i hd
        refine Ev.step (f := fun k => spec_WordPut.l0 k x n (wbytes x (i + 1)) (i + 1 : Nat)) (fun k => ?_) (ih (i + 1) (by omega))
        simp only [spec_WordPut.l0, spec_l1In.f]
        rw [if_pos (by omega), if_pos (by omega), Option.bind_some, if_pos (by simp; omega), wrap_id (n := 8 * (i : Int)) (by omega) (by omega), if_pos (by omega), if_pos (by rw [wbytes_len]; omega), wrap_id (by omega) (by omega), shr64 _ _ (by omega) (by omega), wbytes_succ, show (8 * (i : Int)).toNat = 8 * i by omega]
        push_cast; rfl
    have h := key n.toNat 0 (by omega)
    rw [if_pos hn]
    simpa [wbytes] using h
  · rw [if_neg hn]
    refine Ev.step (f := fun _ => some []) (fun k => ?_) (Ev.now _)
    simp only [spec_WordPut.l0, spec_l1In.f]
    by_cases h0 : 0 < n
    · rw [if_pos h0, if_pos (by omega), Option.bind_some, if_neg (by simp; omega)]
    · rw [if_neg h0]

theorem FnExactWordPut : laws_FnExactWordPut.Pure := by
  intro x n hx hn
  have hw := wf64 hn
  have e1 := spec_WordPut_ev x n hw.2
  have e2 := impl_WordPut_ev x n hw.2
  have hlen : (if 1 ≤ n ∧ n ≤ 8 then wbytes x n.toNat else []).length ≤ 1000000000000000000 := by
    split
    · rw [wbytes_len]; omega
    · simp
  generalize (if 1 ≤ n ∧ n ≤ 8 then wbytes x n.toNat else []) = r at e1 e2 hlen
  refine Ev.rounds (g := fun k => laws_FnExactWordPut.f k x n) ?_
  unfold laws_FnExactWordPut.f
  refine Ev.bind e1 ?_
  refine Ev.bind e2 ?_
  refine Ev.bind (eqByteS_self _ hlen) ?_
  simp only [if_true]
  refine Ev.bind (markByteS_ev _ 1 (by omega) (by omega) hlen) ?_
  refine Ev.bind (heldByteS_ev _ 1 (by omega) (by omega) hlen) ?_
  simp only [if_neg (show ¬ (1 + (r.length : Int) < 0) by omega), if_true]
  refine Ev.bind (e2) ?_
  refine Ev.bind (eqByteS_self _ hlen) ?_
  simp only [if_true]
  refine Ev.bind (heldByteS_ev _ 1 (by omega) (by omega) hlen) ?_
  simp only [if_neg (show ¬ (1 + (r.length : Int) < 0) by omega), if_true]
  exact Ev.now _

end Go.Proofs.Ytgojhlbhfmgkjaa.Pure
