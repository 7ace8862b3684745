/- ValOk answers as the reference does, for every type and value. -/
import Derived.Test.YtgojhlbhfmgkjaaPFnExactValOkx1
import Derived.Test.YtgojhlbhfmgkjaaCom
namespace Go.Proofs.Ytgojhlbhfmgkjaa.Pure
open Go Go.RowKit Go.Proofs.Ytgojhlbhfmgkjaa.PFnExactValOk Go.Proofs.YtgojhlbhfmgkjaaW.PrintWords Go.Proofs.YtgojhlbhfmgkjaaW.PrintLast Go.Proofs.YtgojhlbhfmgkjaaW.PrintMore Go.Proofs.Ytgojhlbhfmgkjaa.Com
set_option linter.unusedVariables false
set_option linter.unusedSimpArgs false

theorem szVal_ev (n : Int) (s : ByteArray) (a : Int) (h0 : 0 ≤ a) (h1 : a ≤ 1000000000) (hs : s.size ≤ maxLen) : laws_szVal.f n s a = some (if a - s.size < 0 then -1 else a - s.size) := by
  unfold maxLen at hs
  unfold laws_szVal.f
  rw [wrap_id (n := a - (s.size : Int)) (by omega) (by omega)]
  by_cases h : a - (s.size : Int) < 0
  · rw [if_pos h, if_pos h]
  · rw [if_neg h, if_neg h]

/-- ValOk. -/
def vok (t n : Int) (s : ByteArray) : Prop := (t = 0 ∧ 0 ≤ n ∧ n ≤ 1 ∧ s.toList = []) ∨ (t = 1 ∧ -2147483648 ≤ n ∧ n ≤ 2147483647 ∧ s.toList = []) ∨ ((t = 2 ∨ t = 5) ∧ s.toList = []) ∨ (t = 6 ∧ n = 0 ∧ s.size ≤ 40)
instance (t n : Int) (s : ByteArray) : Decidable (vok t n s) := by unfold vok; exact inferInstance
theorem nil_beq (l : List UInt8) : (l == ([] : List UInt8)) = decide (l = []) := by cases l <;> rfl
theorem vok_0 (n : Int) (s : ByteArray) : vok 0 n s ↔ (0 ≤ n ∧ n ≤ 1) ∧ s.toList = [] := by unfold vok; simp [and_assoc]
theorem vok_1 (n : Int) (s : ByteArray) : vok 1 n s ↔ (-2147483648 ≤ n ∧ n ≤ 2147483647) ∧ s.toList = [] := by unfold vok; simp [and_assoc]
theorem vok_2 (n : Int) (s : ByteArray) : vok 2 n s ↔ s.toList = [] := by unfold vok; simp
theorem vok_5 (n : Int) (s : ByteArray) : vok 5 n s ↔ s.toList = [] := by unfold vok; simp
theorem vok_6 (n : Int) (s : ByteArray) : vok 6 n s ↔ n = 0 ∧ s.size ≤ 40 := by unfold vok; simp
theorem vok_no (t n : Int) (s : ByteArray) (h : ¬ t = 0 ∧ ¬ t = 1 ∧ ¬ t = 2 ∧ ¬ t = 5 ∧ ¬ t = 6) : ¬ vok t n s := by unfold vok; omega
theorem some_dec {p q : Prop} [Decidable p] [Decidable q] (h : p ↔ q) : some (decide p) = some (decide q) := by congr 1; exact decide_eq_decide.2 h

theorem impl_within_ev (x a b : Int) : impl_within.f x a b = some (decide (a ≤ x ∧ x ≤ b)) := by
  unfold impl_within.f
  by_cases h : x ≥ a
  · rw [if_pos h]; congr 1; simp [show a ≤ x from h]
  · rw [if_neg h]; congr 1; simp [show ¬ a ≤ x from h]

theorem impl_ValOk_ev (t n : Int) (s : ByteArray) : impl_ValOk.f t n s = some (decide (vok t n s)) := by
  unfold impl_ValOk.f impl_isInt32.f
  simp only [impl_within_ev, Option.bind_some, nil_beq]
  by_cases h0 : t = 0
  · subst h0; rw [if_pos rfl]
    by_cases h : 0 ≤ n ∧ n ≤ 1
    · simp only [decide_eq_true h, if_true]; exact some_dec (by rw [vok_0]; exact ⟨fun x => ⟨h, x⟩, fun x => x.2⟩)
    · simp only [decide_eq_false h, Bool.false_eq_true, if_false]; rw [decide_eq_false (by rw [vok_0]; exact fun x => h x.1)]
  rw [if_neg h0]
  by_cases h1 : t = 1
  · subst h1; rw [if_pos rfl]
    by_cases h : -2147483648 ≤ n ∧ n ≤ 2147483647
    · simp only [decide_eq_true h, if_true]; exact some_dec (by rw [vok_1]; exact ⟨fun x => ⟨h, x⟩, fun x => x.2⟩)
    · simp only [decide_eq_false h, Bool.false_eq_true, if_false]; rw [decide_eq_false (by rw [vok_1]; exact fun x => h x.1)]
  rw [if_neg h1]
  by_cases h2 : t = 2
  · subst h2; rw [if_pos rfl]; exact some_dec (vok_2 n s).symm
  rw [if_neg h2]
  by_cases h5 : t = 5
  · subst h5; rw [if_pos rfl]; exact some_dec (vok_5 n s).symm
  rw [if_neg h5]
  by_cases h6 : t = 6
  · subst h6; rw [if_pos rfl]
    by_cases h : n = 0
    · rw [if_pos h]; exact some_dec (by rw [vok_6]; exact ⟨fun x => ⟨h, by omega⟩, fun x => by omega⟩)
    · rw [if_neg h, decide_eq_false (by rw [vok_6]; exact fun x => h x.1)]
  · rw [if_neg h6, decide_eq_false (vok_no t n s ⟨h0, h1, h2, h5, h6⟩)]

theorem spec_l1In_ev (x a b : Int) : spec_l1In.f x a b = some (decide (a ≤ x ∧ x ≤ b)) := by
  unfold spec_l1In.f
  by_cases h : x ≥ a
  · rw [if_pos h]; congr 1; simp [show a ≤ x from h]
  · rw [if_neg h]; congr 1; simp [show ¬ a ≤ x from h]

theorem spec_ValOk_ev (t n : Int) (s : ByteArray) : Ev (fun k => spec_ValOk.f k t n s) (decide (vok t n s)) := by
  unfold spec_ValOk.f spec_l4Int.f
  simp only [spec_l1In_ev, Option.bind_some, nil_beq]
  by_cases h0 : t = 0
  · subst h0; simp only [if_true]
    by_cases h : 0 ≤ n ∧ n ≤ 1
    · simp only [decide_eq_true h, if_true]; rw [some_dec (q := vok 0 n s) (by rw [vok_0]; exact ⟨fun x => ⟨h, x⟩, fun x => x.2⟩)]; exact Ev.now _
    · simp only [decide_eq_false h, Bool.false_eq_true, if_false]; rw [decide_eq_false (by rw [vok_0]; exact fun x => h x.1)]; exact Ev.now _
  simp only [if_neg h0]
  by_cases h1 : t = 1
  · subst h1; simp only [if_true]
    by_cases h : -2147483648 ≤ n ∧ n ≤ 2147483647
    · simp only [decide_eq_true h, if_true]; rw [some_dec (q := vok 1 n s) (by rw [vok_1]; exact ⟨fun x => ⟨h, x⟩, fun x => x.2⟩)]; exact Ev.now _
    · simp only [decide_eq_false h, Bool.false_eq_true, if_false]; rw [decide_eq_false (by rw [vok_1]; exact fun x => h x.1)]; exact Ev.now _
  simp only [if_neg h1]
  by_cases h2 : t = 2
  · subst h2; simp only [if_true, beq_self_eq_true]
    refine Ev.step (f := fun _ => some (decide (vok 2 n s))) (fun k => ?_) (Ev.now _)
    simp only [spec_ValOk.j0, nil_beq]; rw [if_pos trivial]; exact some_dec (vok_2 n s).symm
  simp only [if_neg h2]
  refine Ev.step (f := fun _ => some (decide (vok t n s))) (fun k => ?_) (Ev.now _)
  simp only [spec_ValOk.j0, nil_beq]
  by_cases h5 : t = 5
  · subst h5; rw [if_pos (by decide)]; exact some_dec (vok_5 n s).symm
  rw [if_neg (by simpa using h5)]
  by_cases h6 : t = 6
  · subst h6; rw [if_pos rfl]
    by_cases h : n = 0
    · rw [if_pos h]; exact some_dec (by rw [vok_6]; exact ⟨fun x => ⟨h, by omega⟩, fun x => by omega⟩)
    · rw [if_neg h, decide_eq_false (by rw [vok_6]; exact fun x => h x.1)]
  · rw [if_neg h6, decide_eq_false (vok_no t n s ⟨h0, h1, h2, h5, h6⟩)]

theorem FnExactValOk (t n : Int) (s : ByteArray) (_ : (Lit.int .i64 t).wf = true) (_ : (Lit.int .i64 n).wf = true) (hs : s.size ≤ maxLen) : ∃ k, laws_FnExactValOk.f k t n s = some true := by
  refine Ev.rounds (g := fun k => laws_FnExactValOk.f k t n s) ?_
  unfold laws_FnExactValOk.f
  rw [szVal_ev n s 1048576 (by decide) (by decide) hs]
  simp only [Option.bind_some]
  by_cases h : (if (1048576 : Int) - s.size < 0 then -1 else (1048576 : Int) - s.size) < 0
  · simp only [if_pos h]; exact Ev.now _
  simp only [if_neg h, laws_toVal.f, Option.bind_some]
  refine Ev.bind (spec_ValOk_ev t n s) ?_
  simp only [impl_ValOk_ev, Option.bind_some]
  simp only [bne_self_eq_false, Bool.false_eq_true, if_false]; exact Ev.now _

end Go.Proofs.Ytgojhlbhfmgkjaa.Pure
