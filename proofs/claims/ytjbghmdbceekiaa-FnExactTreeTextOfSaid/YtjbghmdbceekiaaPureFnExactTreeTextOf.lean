/- TreeTextOf answers as the reference does, for all nodes, places and Ids. -/
import Derived.Test.YtjbghmdbceekiaaPFnExactTreeTextOfx6
import Derived.Test.YtjbghmdbceekiaaCom
namespace Go.Proofs.Ytjbghmdbceekiaa.Pure
open Go Go.RowKit Go.Proofs.Ytjbghmdbceekiaa.PFnExactTreeTextOf Go.Proofs.YtjbghmdbceekiaaW.PrintWords Go.Proofs.YtjbghmdbceekiaaW.PrintLast Go.Proofs.YtjbghmdbceekiaaW.PrintMore Go.Proofs.Ytjbghmdbceekiaa.Com
set_option linter.unusedVariables false
set_option linter.unusedSimpArgs false

abbrev TN := S74
def item (t : Int) : Prop := t = 5 ∨ t = 6 ∨ t = 8 ∨ t = 9 ∨ t = 12
instance (t : Int) : Decidable (item t) := by unfold item; infer_instance
/-- Is a node as told, but its parts? -/
def nodeIs (t num : Int) (x : ByteArray) (many : Int) : Prop :=
  ((t = 1 ∨ t = 2) ∧ num = 0 ∧ x.toList = [] ∧ many = 0) ∨ (t = 5 ∧ (-2147483648 ≤ num ∧ num ≤ 2147483647) ∧ x.toList = [] ∧ many = 0) ∨ (t = 6 ∧ x.toList = [] ∧ many = 0) ∨
  (t = 8 ∧ num = 0 ∧ (x.size : Int) ≤ 300 ∧ many = 0) ∨ (t = 9 ∧ x.toList = [] ∧ 0 ≤ many ∧ (many = 0 ∧ num = 0 ∨ 0 < many ∧ item num)) ∨ (t = 12 ∧ num = 0 ∧ x.toList = [] ∧ 0 ≤ many)
instance (t num : Int) (x : ByteArray) (many : Int) : Decidable (nodeIs t num x many) := by unfold nodeIs; infer_instance
def nok (s : List TN) (a : Nat) : Prop := nodeIs (rd_T74 s a).f0 (rd_T74 s a).f2 (rd_T74 s a).f3 (rd_T74 s a).f4
instance (s : List TN) (a : Nat) : Decidable (nok s a) := by unfold nok; infer_instance
/-- A part that is as told, behind a part with this Id. -/
def partOk (s : List TN) (a n : Nat) (la : Int) : Prop := ((rd_T74 s a).f0 = 9 → (rd_T74 s n).f0 = (rd_T74 s a).f2 ∧ (rd_T74 s n).f1 = 0) ∧ ((rd_T74 s a).f0 = 12 → la < (rd_T74 s n).f1 ∧ (rd_T74 s n).f1 ≤ 1000)
instance (s : List TN) (a n : Nat) (la : Int) : Decidable (partOk s a n la) := by unfold partOk; infer_instance
/-- The place behind parts, so many from a place on, behind an Id. -/
def tparts (s : List TN) (g : Nat → Option Nat) (a : Nat) : Nat → Nat → Int → Option Nat
  | 0, n, _ => some n
  | m + 1, n, la => if n < s.length ∧ partOk s a n la then (g n).bind fun n' => tparts s g a m n' (rd_T74 s n).f1 else none
/-- The place behind a node and its parts; the first number: how deep it may go. -/
def taft (s : List TN) : Nat → Nat → Option Nat
  | 0, _ => none
  | d + 1, a => if a < s.length ∧ nok s a then tparts s (taft s d) a (rd_T74 s a).f4.toNat (a + 1) 0 else none
def ofT : Option Nat → Int
  | none => -1
  | some n => n
theorem tparts_succ (s : List TN) (g : Nat → Option Nat) (a m n : Nat) (la : Int) : tparts s g a (m + 1) n la = if n < s.length ∧ partOk s a n la then (g n).bind fun n' => tparts s g a m n' (rd_T74 s n).f1 else none := rfl
theorem taft_succ (s : List TN) (d a : Nat) : taft s (d + 1) a = if a < s.length ∧ nok s a then tparts s (taft s d) a (rd_T74 s a).f4.toNat (a + 1) 0 else none := rfl
theorem tparts_ge (s : List TN) (g : Nat → Option Nat) (a : Nat) (hg : ∀ n n', g n = some n' → n < n' ∧ n' ≤ s.length) : ∀ (m n : Nat) (la : Int) (e : Nat), n ≤ s.length → tparts s g a m n la = some e → n ≤ e ∧ e ≤ s.length := by
  intro m
  induction m with
  | zero => intro n la e hn h; cases h; exact ⟨Nat.le_refl _, hn⟩
  | succ m ih =>
    intro n la e hn h
    rw [tparts_succ] at h
    split at h
    · cases hq : g n with
      | none => rw [hq] at h; cases h
      | some n' =>
        rw [hq] at h
        have h1 := hg n n' hq
        have h2 := ih n' _ e h1.2 h
        omega
    · cases h
theorem taft_lt (s : List TN) : ∀ d a e, taft s d a = some e → a < e ∧ e ≤ s.length := by
  intro d
  induction d with
  | zero => intro a e h; cases h
  | succ d ih =>
    intro a e h
    rw [taft_succ] at h
    split at h
    · rename_i hc
      have := tparts_ge s (taft s d) a ih _ _ _ _ (by omega) h
      omega
    · cases h
theorem tparts_mono (s : List TN) (g g' : Nat → Option Nat) (a : Nat) (hg : ∀ n n', g n = some n' → g' n = some n') : ∀ (m n : Nat) (la : Int) (e : Nat), tparts s g a m n la = some e → tparts s g' a m n la = some e := by
  intro m
  induction m with
  | zero => intro n la e h; exact h
  | succ m ih =>
    intro n la e h
    rw [tparts_succ] at h ⊢
    split at h
    · rename_i hc
      rw [if_pos hc]
      cases hq : g n with
      | none => rw [hq] at h; cases h
      | some n' => rw [hq] at h; rw [hg n n' hq]; exact ih _ _ _ h
    · cases h
theorem taft_mono1 (s : List TN) : ∀ d a e, taft s d a = some e → taft s (d + 1) a = some e := by
  intro d
  induction d with
  | zero => intro a e h; cases h
  | succ d ih =>
    intro a e h
    rw [taft_succ] at h
    rw [taft_succ]
    split at h
    · rename_i hc
      rw [if_pos hc]
      exact tparts_mono s _ _ a ih _ _ _ _ h
    · cases h
theorem taft_mono (s : List TN) (d d' : Nat) (hd : d ≤ d') (a e : Nat) (h : taft s d a = some e) : taft s d' a = some e := by
  induction d' with
  | zero => rw [show d = 0 by omega] at h; cases h
  | succ d' ih =>
    by_cases h1 : d = d' + 1
    · rw [← h1]; exact h
    · exact taft_mono1 s d' a e (ih (by omega))
theorem tparts_visit (s : List TN) (g : Nat → Option Nat) (a : Nat) (hg : ∀ n n', g n = some n' → ∀ i, n ≤ i → i < n' → ∃ e', g i = some e' ∧ e' ≤ n') (hl : ∀ n n', g n = some n' → n < n' ∧ n' ≤ s.length) : ∀ (m n : Nat) (la : Int) (e : Nat), n ≤ s.length → tparts s g a m n la = some e → ∀ i, n ≤ i → i < e → ∃ e', g i = some e' ∧ e' ≤ e := by
  intro m
  induction m with
  | zero => intro n la e _ h i h1 h2; cases h; omega
  | succ m ih =>
    intro n la e hn h i h1 h2
    rw [tparts_succ] at h
    split at h
    · cases hq : g n with
      | none => rw [hq] at h; cases h
      | some n' =>
        rw [hq] at h
        have hl' := hl n n' hq
        have he := tparts_ge s g a hl m n' _ e hl'.2 h
        by_cases hi : i < n'
        · obtain ⟨e', a1, a2⟩ := hg n n' hq i h1 hi
          exact ⟨e', a1, by omega⟩
        · exact ih n' _ e hl'.2 h i (by omega) h2
    · cases h
/-- Each place inside is one that was gone through, and what is behind it lies inside. -/
theorem taft_visit (s : List TN) : ∀ d a e, taft s d a = some e → ∀ i, a ≤ i → i < e → ∃ e', taft s d i = some e' ∧ e' ≤ e := by
  intro d
  induction d with
  | zero => intro a e h; cases h
  | succ d ih =>
    intro a e h i h1 h2
    by_cases hi : i = a
    · subst hi; exact ⟨e, h, Nat.le_refl _⟩
    · have h0 := h
      rw [taft_succ] at h
      split at h
      · rename_i hc
        obtain ⟨e', a1, a2⟩ := tparts_visit s (taft s d) a ih (taft_lt s d) _ _ _ _ (by omega) h i (by omega) h2
        exact ⟨e', taft_mono1 s d i e' a1, a2⟩
      · cases h
/-- A right tree. -/
def trootOk (s : List TN) : Prop := (rd_T74 s 0).f0 = 12 ∧ (rd_T74 s 0).f1 = 0
instance (s : List TN) : Decidable (trootOk s) := by unfold trootOk; infer_instance
def tok (s : List TN) : Prop := (1 ≤ s.length ∧ s.length ≤ 1500) ∧ trootOk s ∧ taft s 12 0 = some s.length
instance (s : List TN) : Decidable (tok s) := by unfold tok; infer_instance
/-- The place behind a node of a right tree. -/
def taf (s : List TN) (i : Nat) : Nat := (taft s 12 i).getD 0
theorem taf_some (s : List TN) (h : tok s) (i : Nat) (hi : i < s.length) : taft s 12 i = some (taf s i) ∧ i < taf s i ∧ taf s i ≤ s.length := by
  obtain ⟨e', a1, a2⟩ := taft_visit s 12 0 _ h.2.2 i (by omega) hi
  unfold taf; rw [a1]
  exact ⟨rfl, (taft_lt s 12 i e' a1).1, a2⟩
/-- The nodes' texts are no longer than memory, their numbers Go's. -/
def nodesOk (s : List TN) : Prop := ∀ i : Nat, i < s.length → (rd_T74 s i).f3.size ≤ 9223372036854775807 ∧ ((-9223372036854775808 ≤ (rd_T74 s i).f1 ∧ (rd_T74 s i).f1 < 9223372036854775808) ∧ (-9223372036854775808 ≤ (rd_T74 s i).f2 ∧ (rd_T74 s i).f2 < 9223372036854775808) ∧ (rd_T74 s i).f4 < 9223372036854775808)

theorem spec_l1In_ev (x a b : Int) : spec_l1In.f x a b = some (decide (a ≤ x ∧ x ≤ b)) := by
  unfold spec_l1In.f
  by_cases h : x ≥ a
  · rw [if_pos h]; congr 1; simp [show a ≤ x from h]
  · rw [if_neg h]; congr 1; simp [show ¬ a ≤ x from h]

theorem spec_l4Kind_ev (t : Int) : spec_l4Kind.f t = some (decide (t = 1 ∨ t = 2 ∨ item t)) := by
  unfold spec_l4Kind.f item
  repeat' split
  all_goals (congr 1; symm)
  all_goals first | (rw [decide_eq_true_iff]; omega) | (rw [decide_eq_false_iff_not]; omega)
theorem spec_l4Item_ev (t : Int) : spec_l4Item.f t = some (decide (item t)) := by
  unfold spec_l4Item.f
  rw [spec_l4Kind_ev]
  simp only [Option.bind_some]
  by_cases h : item t
  · have h1 : ¬ t = 1 := by unfold item at h; omega
    have h2 : t ≠ 2 := by unfold item at h; omega
    rw [decide_eq_true (.inr (.inr h)), if_pos rfl, if_neg h1, decide_eq_true h]; simp [h2]
  · by_cases h1 : t = 1
    · rw [decide_eq_true (.inl h1), if_pos rfl, if_pos h1, decide_eq_false h]
    · by_cases h2 : t = 2
      · rw [decide_eq_true (.inr (.inl h2)), if_pos rfl, if_neg h1, decide_eq_false h, h2]; rfl
      · rw [decide_eq_false (fun hh => by rcases hh with hh | hh | hh <;> contradiction), if_neg (by simp), decide_eq_false h]
theorem spec_l4Int_ev (x : Int) : spec_l4Int.f x = some (decide (-2147483648 ≤ x ∧ x ≤ 2147483647)) := by
  unfold spec_l4Int.f; rw [spec_l1In_ev]; rfl
theorem beq0 (x : Int) : (x == 0) = decide (x = 0) := by
  by_cases h : x = 0
  · subst h; rfl
  · rw [decide_eq_false h, beq_eq_false_iff_ne]; exact h
theorem ifd (p q : Prop) [Decidable p] [Decidable q] : (if p then some (decide q) else some false) = some (decide (p ∧ q)) := by
  by_cases h : p
  · rw [if_pos h]; congr 1; rw [decide_eq_decide]; exact ⟨fun x => ⟨h, x⟩, fun x => x.2⟩
  · rw [if_neg h]; congr 1; symm; rw [decide_eq_false_iff_not]; exact fun x => h x.1
theorem somed {p q : Prop} [Decidable p] [Decidable q] (h : p ↔ q) : some (decide p) = some (decide q) := by congr 1; rw [decide_eq_decide]; exact h
/-- What both sides ask of a node that is no bool. -/
theorem plain_cases (t num : Int) (x : ByteArray) (many : Int) (h1 : t ≠ 1) (h2 : t ≠ 2) (last : Option Bool) (hl : t ≠ 5 → t ≠ 6 → t ≠ 8 → t ≠ 9 → t ≠ 12 → last = some false) (it : Int → Option Bool) (hi : ∀ t, it t = some (decide (item t))) (fit : Int → Option Bool) (hf : ∀ n, fit n = some (decide (-2147483648 ≤ n ∧ n ≤ 2147483647))) :
    (if t = 5 then ((fit num).bind fun b => (if b = true then (if x.toList = ([] : List UInt8) then (some (many == 0)) else (some false)) else (some false))) else (if t = 6 then (if x.toList = ([] : List UInt8) then (some (many == 0)) else (some false)) else (if t = 8 then (if num = 0 then (if (x.size : Int) ≤ 300 then (some (many == 0)) else (some false)) else (some false)) else (if t = 9 then (if x.toList = ([] : List UInt8) then (if many ≥ 0 then (if many = 0 then (if num = 0 then (some true) else (if many > 0 then ((it num).bind fun b => (some b)) else (some false))) else (if many > 0 then ((it num).bind fun b => (some b)) else (some false))) else (some false)) else (some false)) else (if t = 12 then (if num = 0 then (if x.toList = ([] : List UInt8) then (some (decide (many ≥ 0))) else (some false)) else (some false)) else last))))) = some (decide (nodeIs t num x many)) := by
  simp only [hi, hf, Option.bind_some, beq0, decide_eq_true_eq]
  by_cases t5 : t = 5
  · rw [if_pos t5, ifd, ifd]; refine somed ?_; subst t5; simp [nodeIs]
  rw [if_neg t5]
  by_cases t6 : t = 6
  · rw [if_pos t6, ifd]; refine somed ?_; subst t6; simp [nodeIs]
  rw [if_neg t6]
  by_cases t8 : t = 8
  · rw [if_pos t8, ifd, ifd]; refine somed ?_; subst t8; simp [nodeIs]
  rw [if_neg t8]
  by_cases t9 : t = 9
  · rw [if_pos t9]
    have e : (if many = 0 then (if num = 0 then (some true) else (if many > 0 then (some (decide (item num))) else (some false))) else (if many > 0 then (some (decide (item num))) else (some false))) = some (decide (many = 0 ∧ num = 0 ∨ 0 < many ∧ item num)) := by
      by_cases c3 : many = 0
      · rw [if_pos c3]
        by_cases c4 : num = 0
        · rw [if_pos c4]; congr 1; symm; rw [decide_eq_true_iff]; exact .inl ⟨c3, c4⟩
        · rw [if_neg c4, if_neg (by omega)]; congr 1; symm; rw [decide_eq_false_iff_not]; intro hh; omega
      · rw [if_neg c3]
        by_cases c5 : many > 0
        · rw [if_pos c5]; refine somed ⟨fun h => .inr ⟨c5, h⟩, fun h => ?_⟩
          rcases h with h | h
          · exact absurd h.1 c3
          · exact h.2
        · rw [if_neg c5]; congr 1; symm; rw [decide_eq_false_iff_not]; intro hh; omega
    rw [e, ifd, ifd]; refine somed ?_; subst t9; simp [nodeIs]
  rw [if_neg t9]
  by_cases t12 : t = 12
  · rw [if_pos t12, ifd, ifd]; refine somed ?_; subst t12; simp [nodeIs]
  rw [if_neg t12, hl t5 t6 t8 t9 t12]; congr 1; symm; rw [decide_eq_false_iff_not]; unfold nodeIs; intro hh; omega
theorem bool_node (t num : Int) (x : ByteArray) (many : Int) (h : t = 1 ∨ t = 2) : (if num = 0 then (if x.toList = ([] : List UInt8) then (some (many == 0)) else (some false)) else (some false)) = some (decide (nodeIs t num x many)) := by
  rw [beq0, ifd, ifd]; refine somed ?_
  rcases h with h | h <;> subst h <;> simp [nodeIs]
theorem spec_l4Plain_ev (t id num : Int) (x : ByteArray) (many : Int) : Ev (fun k => spec_l4Plain.f k t id num x many) (decide (nodeIs t num x many)) := by
  have yes : (t = 1 ∨ t = 2) → Ev (fun k => spec_l4Plain.j0 k t true t id num x many) (decide (nodeIs t num x many)) := by
    intro h
    refine Ev.step (f := fun _ => some (decide (nodeIs t num x many))) (fun k => ?_) (Ev.now _)
    simp only [spec_l4Plain.j0]
    rw [if_pos trivial]; exact bool_node t num x many h
  have no : t ≠ 1 → t ≠ 2 → Ev (fun k => spec_l4Plain.j0 k t false t id num x many) (decide (nodeIs t num x many)) := by
    intro h1 h2
    refine Ev.step (f := fun _ => some (decide (nodeIs t num x many))) (fun k => ?_) (Ev.now _)
    simp only [spec_l4Plain.j0]
    rw [if_neg (by simp)]
    exact plain_cases t num x many h1 h2 (some false) (fun _ _ _ _ _ => rfl) spec_l4Item.f spec_l4Item_ev spec_l4Int.f spec_l4Int_ev
  unfold spec_l4Plain.f
  by_cases h1 : t = 1
  · simp only [if_pos h1]; rw [show (t == 1) = true from beq_iff_eq.2 h1]; exact yes (.inl h1)
  · simp only [if_neg h1]
    by_cases h2 : t = 2
    · rw [show (t == 2) = true from beq_iff_eq.2 h2]; exact yes (.inr h2)
    · rw [show (t == 2) = false from beq_eq_false_iff_ne.2 h2]; exact no h1 h2

theorem impl_within_ev (x a b : Int) : impl_within.f x a b = some (decide (a ≤ x ∧ x ≤ b)) := by
  unfold impl_within.f
  by_cases h : x ≥ a
  · rw [if_pos h]; congr 1; simp [show a ≤ x from h]
  · rw [if_neg h]; congr 1; simp [show ¬ a ≤ x from h]

theorem impl_isInt32_ev (x : Int) : impl_isInt32.f x = some (decide (-2147483648 ≤ x ∧ x ≤ 2147483647)) := by
  unfold impl_isInt32.f; rw [impl_within_ev]; rfl
theorem impl_isType_at (k : Nat) (t : Int) (b : Bool) : impl_isType.f (k + 1) t b = some (if t = 1 ∨ t = 2 then !b else decide (item t)) := by
  unfold impl_isType.f
  by_cases h1 : t = 1
  · rw [if_pos h1, if_pos (.inl h1), h1]; simp only [impl_isType.j0]; rw [if_pos (by decide)]
  · rw [if_neg h1]
    by_cases h2 : t = 2
    · rw [if_pos (.inr h2), h2]; simp only [impl_isType.j0]; rw [if_pos (by decide)]
    · rw [if_neg (by omega), show (t == 2) = false from beq_eq_false_iff_ne.2 h2]
      simp only [impl_isType.j0]
      rw [if_neg (by simp)]
      by_cases hi : item t
      · rw [decide_eq_true hi]; unfold item at hi
        repeat' split
        all_goals first | rfl | (exfalso; omega)
      · rw [decide_eq_false hi]; unfold item at hi
        repeat' split
        all_goals first | rfl | (exfalso; omega)
theorem impl_isType_item (k : Nat) (t : Int) : impl_isType.f (k + 1) t true = some (decide (item t)) := by
  rw [impl_isType_at]
  by_cases h : t = 1 ∨ t = 2
  · rw [if_pos h, decide_eq_false (by unfold item; omega)]; rfl
  · rw [if_neg h]
theorem impl_nodeOk_at (k : Nat) (t id num : Int) (x : ByteArray) (many : Int) : impl_nodeOk.f (k + 1) t id num x many = some (decide (nodeIs t num x many)) := by
  unfold impl_nodeOk.f
  by_cases h : t = 1 ∨ t = 2
  · rw [if_neg (by omega), if_neg (by omega), if_neg (by omega), if_neg (by omega), if_neg (by omega), impl_isType_at, if_pos h]
    simp only [Bool.not_false, Option.bind_some, if_true]
    exact bool_node t num x many h
  · refine plain_cases t num x many (by omega) (by omega) _ ?_ (fun n => impl_isType.f (k + 1) n true) (impl_isType_item k) impl_isInt32.f impl_isInt32_ev
    intro a b c d e
    rw [impl_isType_at, if_neg h, decide_eq_false (by unfold item; omega)]; rfl

theorem ev_succ' {α : Type} {g : Nat → Option α} {r : α} (h : Ev (fun k => g (k + 1)) r) : Ev g r := Ev.step (fun _ => rfl) h

theorem ev_shift {α : Type} {g : Nat → Option α} {r : α} (h : Ev g r) : Ev (fun k => g (k + 1)) r := by
  obtain ⟨K, h⟩ := h
  exact ⟨K, fun k hk => h (k + 1) (by omega)⟩
/-- The places behind the nodes from a to e have been written. -/
def Wrote (s : List TN) (af : List Int) (a e : Nat) (af' : List Int) : Prop := af'.length = s.length ∧ ∀ i, i < s.length → af'[i]? = if a ≤ i ∧ i < e then some (taf s i : Int) else af[i]?
theorem Wrote.refl (s : List TN) (af : List Int) (a : Nat) (h : af.length = s.length) : Wrote s af a a af := ⟨h, fun i _ => by rw [if_neg (by omega)]⟩
theorem Wrote.join {s : List TN} {af af1 af2 : List Int} {a b e : Nat} (h : Wrote s af a b af1) (k : Wrote s af1 b e af2) (hab : a ≤ b) (hbe : b ≤ e) : Wrote s af a e af2 := by
  refine ⟨k.1, fun i hi => ?_⟩
  rw [k.2 i hi]
  by_cases h1 : b ≤ i ∧ i < e
  · rw [if_pos h1, if_pos (by omega)]
  · rw [if_neg h1, h.2 i hi]
    by_cases h2 : a ≤ i ∧ i < b
    · rw [if_pos h2, if_pos (by omega)]
    · rw [if_neg h2, if_neg (by omega)]
theorem Wrote.put {s : List TN} {af af1 : List Int} {a e : Nat} (h : Wrote s af (a + 1) e af1) (hae : a < e) (ha : a < s.length) (ht : taf s a = e) : Wrote s af a e (af1.set a (e : Int)) := by
  refine ⟨by rw [List.length_set]; exact h.1, fun i hi => ?_⟩
  rw [List.getElem?_set]
  by_cases h1 : a = i
  · subst h1
    rw [if_pos rfl, if_pos (by rw [h.1]; exact ha), if_pos (by omega), ht]
  · rw [if_neg h1, h.2 i hi]
    by_cases h2 : a + 1 ≤ i ∧ i < e
    · rw [if_pos h2, if_pos (by omega)]
    · rw [if_neg h2, if_neg (by omega)]
theorem badPart_iff (s : List TN) (hN : nodesOk s) (a n : Nat) (la : Int) (hn : n < s.length) (hla : (rd_T74 s a).f0 = 12 → 0 ≤ la ∧ la ≤ 1000) : badPart s a n la ↔ ¬ partOk s a n la := by
  have h := hN n hn
  unfold badPart partOk
  by_cases h12 : (rd_T74 s a).f0 = 12
  · have h0 := hla h12
    rw [wrap_id (n := la + 1) (by omega) (by omega)]
    omega
  · omega
theorem measure_parts (s : List TN) (hs : s.length ≤ 1000000000) (hN : nodesOk s) (d D a : Nat) (hd : d ≤ 100) (ha : a < s.length)
    (ih : ∀ (n : Nat) (af : List Int), af.length = s.length → ∃ af', Ev (fun k => impl_tree_measure.f k s n ((d + 1 : Nat) : Int) af) (ofT (taft s D n), af') ∧ af'.length = s.length ∧ ∀ e, taft s D n = some e → Wrote s af n e af') :
    ∀ (m n : Nat) (la i : Int) (af : List Int), n ≤ s.length → 0 ≤ i → ((rd_T74 s a).f4 - i).toNat = m → af.length = s.length → ((rd_T74 s a).f0 = 12 → 0 ≤ la ∧ la ≤ 1000) →
      ∃ af', Ev (fun k => impl_tree_measure.l0 k s a d af n la i) (ofT (tparts s (taft s D) a m n la), af') ∧ af'.length = s.length ∧ ∀ e, tparts s (taft s D) a m n la = some e → ∃ af1, Wrote s af n e af1 ∧ af' = af1.set a (e : Int) := by
  have hA := (hN a ha).2
  intro m
  induction m with
  | zero =>
    intro n la i af hn h0 hm hf hla
    refine ⟨af.set a (n : Int), Ev.step (f := fun _ => some ((n : Int), af.set a (n : Int))) (fun k => ?_) (Ev.now _), by rw [List.length_set]; exact hf, fun e he => ?_⟩
    · simp only [impl_tree_measure.l0]
      rw [if_neg (by omega), if_pos (by omega), Int.toNat_natCast]
    · cases he; exact ⟨af, Wrote.refl s af n hf, rfl⟩
  | succ m ihm =>
    intro n la i af hn h0 hm hf hla
    rw [tparts_succ]
    by_cases hlt : n < s.length
    · by_cases hp : partOk s a n la
      · rw [if_pos ⟨hlt, hp⟩]
        obtain ⟨af1, hev, hl1, hw⟩ := ih n af hf
        have st : ∀ r, Ev (fun k => (impl_tree_measure.f k s n ((d + 1 : Nat) : Int) af).bind fun t => if t.1 < 0 then some (-1, t.2) else impl_tree_measure.l0 k s a d t.2 t.1 (rd_T74 s n).f1 (wrap64 (i + 1))) r → Ev (fun k => impl_tree_measure.l0 k s a d af n la i) r := by
          intro r h
          refine Ev.step (fun k => ?_) h
          simp only [impl_tree_measure.l0]
          rw [if_pos (by omega), if_neg (by omega), if_pos (by omega), if_neg (fun hb => (badPart_iff s hN a n la hlt hla).1 hb hp), wrap_id (n := (d : Int) + 1) (by omega) (by omega)]; rfl
        cases hq : taft s D n with
        | none =>
          rw [hq] at hev
          refine ⟨af1, st _ (Ev.bind hev ?_), hl1, fun e he => by cases he⟩
          simp only [ofT, Option.bind_none, if_pos (show (-1 : Int) < 0 by decide)]; exact Ev.now _
        | some n' =>
          have hl := taft_lt s D n n' hq
          rw [hq] at hev
          obtain ⟨af2, hev2, hl2, hw2⟩ := ihm n' (rd_T74 s n).f1 (i + 1) af1 hl.2 (by omega) (by omega) hl1 (fun h12 => by have h1 := hla h12; have h2 := hp.2 h12; omega)
          refine ⟨af2, st _ (Ev.bind hev ?_), hl2, fun e he => ?_⟩
          · simp only [ofT, Option.bind_some, if_neg (show ¬ (n' : Int) < 0 by omega)]
            rw [wrap_id (n := i + 1) (by omega) (by omega)]
            exact hev2
          · obtain ⟨af3, hw3, he3⟩ := hw2 e he
            have hge := tparts_ge s (taft s D) a (taft_lt s D) _ _ _ _ hl.2 he
            exact ⟨af3, (hw n' hq).join hw3 (by omega) hge.1, he3⟩
      · rw [if_neg (fun h => hp h.2)]
        refine ⟨af, Ev.step (f := fun _ => some (-1, af)) (fun k => ?_) (Ev.now _), hf, fun e he => by cases he⟩
        simp only [impl_tree_measure.l0]
        rw [if_pos (by omega), if_neg (by omega), if_pos (by omega), if_pos ((badPart_iff s hN a n la hlt hla).2 hp)]
    · rw [if_neg (fun h => hlt h.1)]
      refine ⟨af, Ev.step (f := fun _ => some (-1, af)) (fun k => ?_) (Ev.now _), hf, fun e he => by cases he⟩
      simp only [impl_tree_measure.l0]
      rw [if_pos (by omega), if_pos (by omega)]
theorem measure_ev (s : List TN) (hs : s.length ≤ 1000000000) (hN : nodesOk s) : ∀ (D d a : Nat) (af : List Int), d + D = 13 → 1 ≤ d → af.length = s.length →
    ∃ af', Ev (fun k => impl_tree_measure.f k s a d af) (ofT (taft s D a), af') ∧ af'.length = s.length ∧ ∀ e, taft s D a = some e → Wrote s af a e af' := by
  intro D
  induction D with
  | zero =>
    intro d a af hd h1 hf
    refine ⟨af, Ev.step (f := fun _ => some (-1, af)) (fun k => ?_) (Ev.now _), hf, fun e he => by cases he⟩
    simp only [impl_tree_measure.f]
    by_cases h : (a : Int) ≥ s.length
    · rw [if_pos h]
    · rw [if_neg h, if_pos (by omega)]
  | succ D ih =>
    intro d a af hd h1 hf
    by_cases hlt : a < s.length
    · by_cases hk : nok s a
      · obtain ⟨af', hev, hl, hw⟩ := measure_parts s hs hN d D a (by omega) hlt (fun n af hf => ih (d + 1) n af (by omega) (by omega) hf) (rd_T74 s a).f4.toNat (a + 1) 0 0 af (by omega) (by omega) (by simp) hf (fun _ => by omega)
        have e := taft_succ s D a
        rw [if_pos ⟨hlt, hk⟩] at e
        refine ⟨af', ?_, hl, fun e' he' => ?_⟩
        · rw [e]
          refine ev_succ' (Ev.step (fun k => ?_) (ev_shift hev))
          simp only [impl_tree_measure.f]
          rw [if_neg (by omega), if_neg (by omega), if_pos (by omega), impl_nodeOk_at, decide_eq_true (show nodeIs _ _ _ _ from hk)]
          simp only [Option.bind_some, if_true]
          rw [wrap_id (n := (a : Int) + 1) (by omega) (by omega)]; push_cast; rfl
        · have hlt' := taft_lt s (D + 1) a e' he'
          have hm := taft_mono s (D + 1) 12 (by omega) a e' he'
          rw [e] at he'
          obtain ⟨af1, hw1, rfl⟩ := hw e' he'
          exact hw1.put hlt'.1 hlt (by unfold taf; rw [hm]; rfl)
      · refine ⟨af, ?_, hf, fun e he => by rw [taft_succ, if_neg (fun h => hk h.2)] at he; cases he⟩
        rw [taft_succ, if_neg (fun h => hk h.2)]
        refine ev_succ' (Ev.step (f := fun _ => some (-1, af)) (fun k => ?_) (Ev.now _))
        simp only [impl_tree_measure.f]
        rw [if_neg (by omega), if_neg (by omega), if_pos (by omega), impl_nodeOk_at, decide_eq_false (show ¬ nodeIs _ _ _ _ from hk)]
        rfl
    · refine ⟨af, ?_, hf, fun e he => by rw [taft_succ, if_neg (fun h => hlt h.1)] at he; cases he⟩
      rw [taft_succ, if_neg (fun h => hlt h.1)]
      refine Ev.step (f := fun _ => some (-1, af)) (fun k => ?_) (Ev.now _)
      simp only [impl_tree_measure.f]
      rw [if_pos (by omega)]
/-- What treeOf tells of a tree: is it right; if so, the places behind its nodes. -/
theorem treeOf_ev (s : List TN) (hs : s.length ≤ 1000000000) (hN : nodesOk s) : ∃ af, Ev (fun k => impl_treeOf.f k s) (decide (tok s), af) ∧ (tok s → Wrote s [] 0 s.length af) := by
  by_cases h1 : 1 ≤ s.length ∧ s.length ≤ 1500
  · by_cases h7 : (rd_T74 s 0).f0 = 12
    · by_cases h0 : (rd_T74 s 0).f1 = 0
      · obtain ⟨af, hev, hl, hw⟩ := measure_ev s hs hN 12 1 0 (List.replicate s.length 0) (by omega) (by omega) (by simp)
        by_cases ha : taft s 12 0 = some s.length
        · refine ⟨af, ?_, fun _ => ?_⟩
          · unfold impl_treeOf.f
            simp only [if_pos h1, if_pos h7, if_pos h0]
            refine Ev.bind hev ?_
            simp only [ha, ofT, if_true]
            rw [decide_eq_true (show tok s from ⟨h1, ⟨h7, h0⟩, ha⟩)]; exact Ev.now _
          · have h := hw _ ha
            exact ⟨h.1, fun i hi => by rw [h.2 i hi, if_pos (by omega), if_pos (by omega)]⟩
        · refine ⟨[], ?_, fun h => absurd h.2.2 ha⟩
          unfold impl_treeOf.f
          simp only [if_pos h1, if_pos h7, if_pos h0]
          refine Ev.bind hev ?_
          have hne : ¬ ofT (taft s 12 0) = (s.length : Int) := by
            intro he
            cases hq : taft s 12 0 with
            | none => rw [hq] at he; simp only [ofT] at he; omega
            | some n => rw [hq] at he ha; simp only [ofT] at he; exact ha (congrArg some (by omega))
          simp only [if_neg hne]
          rw [decide_eq_false (fun h => ha h.2.2)]; exact Ev.now _
      · refine ⟨[], ?_, fun h => absurd h.2.1.2 h0⟩
        unfold impl_treeOf.f
        simp only [if_pos h1, if_pos h7, if_neg h0]
        rw [decide_eq_false (fun h => h0 h.2.1.2)]; exact Ev.now _
    · refine ⟨[], ?_, fun h => absurd h.2.1.1 h7⟩
      unfold impl_treeOf.f
      simp only [if_pos h1, if_neg h7]
      rw [decide_eq_false (fun h => h7 h.2.1.1)]; exact Ev.now _
  · refine ⟨[], ?_, fun h => absurd h.1 h1⟩
    unfold impl_treeOf.f
    simp only [if_neg h1]
    rw [decide_eq_false (fun h => h1 h.1)]; exact Ev.now _

theorem l4Check_bad (s : List TN) (a n d : Nat) (la i : Int) (hn : n < s.length) (k : Nat) :
    (if (rd_T74 s a).f0 = 9 then (if (rd_T74 s n).f0 = (rd_T74 s a).f2 then (if (rd_T74 s n).f1 = 0 then (if (rd_T74 s a).f0 = 12 then (if (rd_T74 s n).f1 ≤ la then true else decide ((rd_T74 s n).f1 > 1000)) else false) else true) else true) else (if (rd_T74 s a).f0 = 12 then (if (rd_T74 s n).f1 ≤ la then true else decide ((rd_T74 s n).f1 > 1000)) else false)) = !decide (partOk s a n la) := by
  by_cases hp : partOk s a n la
  · rw [decide_eq_true hp]
    unfold partOk at hp
    repeat' split
    all_goals first | rfl | (exfalso; omega) | (show _ = false; rw [decide_eq_false_iff_not]; omega)
  · rw [decide_eq_false hp]
    unfold partOk at hp
    repeat' split
    all_goals first | rfl | (exfalso; omega) | (show _ = true; rw [decide_eq_true_iff]; omega)
theorem l4Check_parts (s : List TN) (hs : s.length ≤ 1000000000) (hN : nodesOk s) (d D a : Nat) (hd : d ≤ 100) (ha : a < s.length) (ih : ∀ n : Nat, Ev (fun k => spec_l4Check.f k s n ((d + 1 : Nat) : Int)) (ofT (taft s D n))) :
    ∀ (m n : Nat) (la i : Int), n ≤ s.length → 0 ≤ i → ((rd_T74 s a).f4 - i).toNat = m → Ev (fun k => spec_l4Check.l0 k s d n la i (rd_T74 s a).f0 (rd_T74 s a).f1 (rd_T74 s a).f2 (rd_T74 s a).f3 (rd_T74 s a).f4) (ofT (tparts s (taft s D) a m n la)) := by
  have hA := (hN a ha).2
  intro m
  induction m with
  | zero =>
    intro n la i hn h0 hm
    refine Ev.step (f := fun _ => some (n : Int)) (fun k => ?_) (Ev.now _)
    simp only [spec_l4Check.l0]
    rw [if_neg (by omega)]
  | succ m ihm =>
    intro n la i hn h0 hm
    rw [tparts_succ]
    by_cases hlt : n < s.length
    · refine Ev.step (f := fun k => spec_l4Check.j2 k s d n i (!decide (partOk s a n la)) (rd_T74 s a).f0 (rd_T74 s a).f1 (rd_T74 s a).f2 (rd_T74 s a).f3 (rd_T74 s a).f4 (rd_T74 s n).f0 (rd_T74 s n).f1 (rd_T74 s n).f2 (rd_T74 s n).f3 (rd_T74 s n).f4) (fun k => ?_) ?_
      · simp only [spec_l4Check.l0]
        rw [if_pos (by omega), if_neg (by omega), if_pos (by omega), if_pos (by omega), ← l4Check_bad s a n d la i hlt k]
        repeat' split
        all_goals rfl
      by_cases hp : partOk s a n la
      · rw [if_pos ⟨hlt, hp⟩, decide_eq_true hp]
        refine Ev.step (f := fun k => (spec_l4Check.f k s n ((d + 1 : Nat) : Int)).bind fun t => (if t < 0 then (some (-1)) else (spec_l4Check.l0 k s d t (rd_T74 s n).f1 (wrap64 (i + 1)) (rd_T74 s a).f0 (rd_T74 s a).f1 (rd_T74 s a).f2 (rd_T74 s a).f3 (rd_T74 s a).f4))) (fun k => ?_) ?_
        · simp only [spec_l4Check.j2]
          rw [if_neg (by simp), wrap_id (n := (d : Int) + 1) (by omega) (by omega)]; rfl
        refine Ev.bind (ih n) ?_
        cases hq : taft s D n with
        | none =>
          simp only [ofT, Option.bind_none, if_pos (show (-1 : Int) < 0 by decide)]; exact Ev.now _
        | some n' =>
          have hl := taft_lt s D n n' hq
          simp only [ofT, Option.bind_some, if_neg (show ¬ (n' : Int) < 0 by omega)]
          rw [wrap_id (n := i + 1) (by omega) (by omega)]
          exact ihm n' _ (i + 1) hl.2 (by omega) (by omega)
      · rw [if_neg (fun h => hp h.2), decide_eq_false hp]
        refine Ev.step (f := fun _ => some (-1)) (fun k => ?_) (Ev.now _)
        simp only [spec_l4Check.j2]
        rw [if_pos (by simp)]
    · rw [if_neg (fun h => hlt h.1)]
      refine Ev.step (f := fun _ => some (-1)) (fun k => ?_) (Ev.now _)
      simp only [spec_l4Check.l0]
      rw [if_pos (by omega), if_pos (by omega)]
theorem spec_l4Check_ev (s : List TN) (hs : s.length ≤ 1000000000) (hN : nodesOk s) : ∀ (D d a : Nat), d + D = 13 → Ev (fun k => spec_l4Check.f k s a d) (ofT (taft s D a)) := by
  have bad : ∀ (a d : Nat), Ev (fun k => spec_l4Check.j0 k s a d true) (-1) := fun a d => Ev.step (f := fun _ => some (-1)) (fun k => by simp only [spec_l4Check.j0]; rw [if_pos trivial]) (Ev.now _)
  intro D
  induction D with
  | zero =>
    intro d a hd
    refine Ev.step (fun k => ?_) (bad a d)
    simp only [spec_l4Check.f]
    by_cases h : (a : Int) ≥ s.length
    · rw [if_pos h]
    · rw [if_neg h, if_pos (by omega)]
  | succ D ih =>
    intro d a hd
    rw [taft_succ]
    by_cases hlt : a < s.length
    · refine Ev.step (f := fun k => (spec_l4Plain.f k (rd_T74 s a).f0 (rd_T74 s a).f1 (rd_T74 s a).f2 (rd_T74 s a).f3 (rd_T74 s a).f4).bind fun t => spec_l4Check.j0 k s a d (!t)) (fun k => ?_) ?_
      · simp only [spec_l4Check.f]
        rw [if_neg (by omega), if_neg (by omega), if_pos (by omega), if_pos (by omega)]
      refine Ev.bind (spec_l4Plain_ev _ _ _ _ _) ?_
      by_cases hk : nok s a
      · rw [if_pos ⟨hlt, hk⟩, decide_eq_true (show nodeIs _ _ _ _ from hk)]
        refine Ev.step (fun k => ?_) (l4Check_parts s hs hN d D a (by omega) hlt (fun n => ih (d + 1) n (by omega)) (rd_T74 s a).f4.toNat (a + 1) 0 0 (by omega) (by omega) (by simp))
        simp only [spec_l4Check.j0]
        rw [if_neg (by simp), if_pos (by omega), if_pos (by omega), wrap_id (n := (a : Int) + 1) (by omega) (by omega)]; push_cast; rfl
      · rw [if_neg (fun h => hk h.2), decide_eq_false (show ¬ nodeIs _ _ _ _ from hk)]
        exact bad a d
    · rw [if_neg (fun h => hlt h.1)]
      refine Ev.step (fun k => ?_) (bad a d)
      simp only [spec_l4Check.f]
      rw [if_pos (by omega)]
theorem spec_TreeOk_ev (s : List TN) (hs : s.length ≤ 1000000000) (hN : nodesOk s) : Ev (fun k => spec_TreeOk.f k s) (decide (tok s)) := by
  unfold spec_TreeOk.f
  simp only [spec_l1In_ev, Option.bind_some]
  by_cases h1 : 1 ≤ s.length ∧ s.length ≤ 1500
  · simp only [decide_eq_true (show (1 : Int) ≤ s.length ∧ (s.length : Int) ≤ 1500 by omega), if_true, if_pos (show (0 : Int) < s.length by omega)]
    by_cases h7 : (rd_T74 s 0).f0 = 12
    · by_cases h0 : (rd_T74 s 0).f1 = 0
      · simp only [if_pos h7, if_pos h0]
        refine Ev.bind (spec_l4Check_ev s hs hN 12 1 0 (by omega)) ?_
        have e : (ofT (taft s 12 0) == (s.length : Int)) = decide (tok s) := by
          by_cases ha : taft s 12 0 = some s.length
          · rw [decide_eq_true (show tok s from ⟨h1, ⟨h7, h0⟩, ha⟩), ha]; simp [ofT]
          · rw [decide_eq_false (fun h => ha h.2.2), beq_eq_false_iff_ne]
            intro he
            cases hq : taft s 12 0 with
            | none => rw [hq] at he; simp only [ofT] at he; omega
            | some n => rw [hq] at he ha; simp only [ofT] at he; exact ha (congrArg some (by omega))
        rw [e]; exact Ev.now _
      · simp only [if_pos h7, if_neg h0]
        rw [decide_eq_false (fun h => h0 h.2.1.2)]; exact Ev.now _
    · simp only [if_neg h7]
      rw [decide_eq_false (fun h => h7 h.2.1.1)]; exact Ev.now _
  · simp only [decide_eq_false (show ¬ ((1 : Int) ≤ s.length ∧ (s.length : Int) ≤ 1500) by omega), Bool.false_eq_true, if_false]
    rw [decide_eq_false (fun h => h1 h.1)]; exact Ev.now _

theorem l4After_parts (s : List TN) (hs : s.length ≤ 1000000000) (hN : nodesOk s) (D a : Nat) (ha : a < s.length) (ih : ∀ n e, taft s D n = some e → Ev (fun k => spec_l4After.f k s n) (e : Int)) :
    ∀ (m n : Nat) (la i : Int) (e : Nat), n ≤ s.length → 0 ≤ i → ((rd_T74 s a).f4 - i).toNat = m → tparts s (taft s D) a m n la = some e → Ev (fun k => spec_l4After.l0 k s a n i) (e : Int) := by
  have hA := (hN a ha).2
  intro m
  induction m with
  | zero =>
    intro n la i e hn h0 hm h
    cases h
    refine Ev.step (f := fun _ => some (n : Int)) (fun k => ?_) (Ev.now _)
    simp only [spec_l4After.l0]
    rw [if_pos (by omega), if_pos (by omega), if_neg (by omega)]
  | succ m ihm =>
    intro n la i e hn h0 hm h
    rw [tparts_succ] at h
    split at h
    · rename_i hc
      cases hq : taft s D n with
      | none => rw [hq] at h; cases h
      | some n' =>
        rw [hq] at h
        have hl := taft_lt s D n n' hq
        refine Ev.step (f := fun k => (spec_l4After.f k s n).bind fun t => spec_l4After.l0 k s a t (wrap64 (i + 1))) (fun k => ?_) ?_
        · simp only [spec_l4After.l0]
          rw [if_pos (by omega), if_pos (by omega), if_pos (by omega)]
        refine Ev.bind (ih n n' hq) ?_
        rw [wrap_id (n := i + 1) (by omega) (by omega)]
        exact ihm n' _ (i + 1) e hl.2 (by omega) (by omega) h
    · cases h
theorem spec_l4After_ev (s : List TN) (hs : s.length ≤ 1000000000) (hN : nodesOk s) : ∀ (D a e : Nat), taft s D a = some e → Ev (fun k => spec_l4After.f k s a) (e : Int) := by
  intro D
  induction D with
  | zero => intro a e h; cases h
  | succ D ih =>
    intro a e h
    rw [taft_succ] at h
    split at h
    · rename_i hc
      refine Ev.step (fun k => ?_) (l4After_parts s hs hN D a hc.1 ih (rd_T74 s a).f4.toNat (a + 1) 0 0 e (by omega) (by omega) (by simp) h)
      simp only [spec_l4After.f]
      rw [wrap_id (n := (a : Int) + 1) (by omega) (by omega)]; push_cast; rfl
    · cases h

/-- The place of a part with an Id, among parts from a place on; -1 without one. -/
def findIn (s : List TN) (id : Int) : Nat → Nat → Int
  | 0, _ => -1
  | m + 1, n => if (rd_T74 s n).f1 = id then n else findIn s id m (taf s n)
def findAt (s : List TN) (a : Nat) (id : Int) : Int := if (rd_T74 s a).f0 = 12 then findIn s id (rd_T74 s a).f4.toNat (a + 1) else -1
/-- Parts that lie where they should. -/
def lies (s : List TN) : Nat → Nat → Prop
  | 0, n => n ≤ s.length
  | m + 1, n => n < s.length ∧ lies s m (taf s n)
theorem tparts_lies (s : List TN) (D : Nat) (hD : D ≤ 12) (a : Nat) : ∀ (m n : Nat) (la : Int) (e : Nat), n ≤ s.length → tparts s (taft s D) a m n la = some e → lies s m n := by
  intro m
  induction m with
  | zero => intro n la e hn _; exact hn
  | succ m ih =>
    intro n la e hn h
    rw [tparts_succ] at h
    split at h
    · rename_i hc
      cases hq : taft s D n with
      | none => rw [hq] at h; cases h
      | some n' =>
        rw [hq] at h
        have hl := taft_lt s D n n' hq
        have e1 : taf s n = n' := by unfold taf; rw [taft_mono s D 12 hD n n' hq]; rfl
        refine ⟨hc.1, ?_⟩
        rw [e1]; exact ih n' _ e hl.2 h
    · cases h
theorem tok_lies (s : List TN) (h : tok s) (a : Nat) (ha : a < s.length) : lies s (rd_T74 s a).f4.toNat (a + 1) := by
  have h1 := (taf_some s h a ha).1
  rw [show (12 : Nat) = 11 + 1 from rfl, taft_succ] at h1
  split at h1
  · rename_i hc
    exact tparts_lies s 11 (by omega) a _ _ _ _ (by omega) h1
  · cases h1
theorem findIn_rng (s : List TN) (h : tok s) (id : Int) : ∀ (m n : Nat), lies s m n → findIn s id m n = -1 ∨ (0 ≤ findIn s id m n ∧ findIn s id m n < s.length) := by
  intro m
  induction m with
  | zero => intro n _; exact .inl rfl
  | succ m ih =>
    intro n hl
    unfold findIn
    split
    · right; have := hl.1; omega
    · exact ih _ hl.2
theorem l4Find_l (s : List TN) (hs : s.length ≤ 1000000000) (hN : nodesOk s) (h : tok s) (a : Nat) (ha : a < s.length) (id : Int) :
    ∀ (m n : Nat) (i : Int), 0 ≤ i → ((rd_T74 s a).f4 - i).toNat = m → lies s m n → Ev (fun k => spec_l4Find.l0 k s a id n i) (findIn s id m n) := by
  have hA := (hN a ha).2
  intro m
  induction m with
  | zero =>
    intro n i h0 hm hl
    refine Ev.step (f := fun _ => some (-1)) (fun k => ?_) (Ev.now _)
    simp only [spec_l4Find.l0]
    rw [if_pos (by omega), if_pos (by omega), if_neg (by omega)]
  | succ m ih =>
    intro n i h0 hm hl
    have hn := hl.1
    unfold findIn
    by_cases he : (rd_T74 s n).f1 = id
    · rw [if_pos he]
      refine Ev.step (f := fun _ => some (n : Int)) (fun k => ?_) (Ev.now _)
      simp only [spec_l4Find.l0]
      rw [if_pos (by omega), if_pos (by omega), if_pos (by omega), if_pos (by omega), if_pos (by omega), if_pos he]
    · rw [if_neg he]
      refine Ev.step (f := fun k => (spec_l4After.f k s n).bind fun t => spec_l4Find.l0 k s a id t (wrap64 (i + 1))) (fun k => ?_) ?_
      · simp only [spec_l4Find.l0]
        rw [if_pos (by omega), if_pos (by omega), if_pos (by omega), if_pos (by omega), if_pos (by omega), if_neg he]
      refine Ev.bind (spec_l4After_ev s hs hN 12 n _ (taf_some s h n hn).1) ?_
      rw [wrap_id (n := i + 1) (by omega) (by omega)]
      exact ih _ (i + 1) (by omega) (by omega) hl.2
theorem spec_l4Find_ev (s : List TN) (hs : s.length ≤ 1000000000) (hN : nodesOk s) (h : tok s) (a : Nat) (ha : a < s.length) (id : Int) : Ev (fun k => spec_l4Find.f k s a id) (findAt s a id) := by
  unfold spec_l4Find.f findAt
  simp only [if_pos (show (0 : Int) ≤ a by omega), if_pos (show (a : Int) < s.length by omega)]
  by_cases h12 : (rd_T74 s a).f0 = 12
  · simp only [if_pos h12]
    rw [wrap_id (n := (a : Int) + 1) (by omega) (by omega)]
    exact l4Find_l s hs hN h a ha id _ (a + 1) 0 (by omega) (by simp) (tok_lies s h a ha)
  · simp only [if_neg h12]; exact Ev.now _
def findOf (s : List TN) (a id : Int) : Int := if tok s ∧ 0 ≤ a ∧ a < s.length then findAt s a.toNat id else -1
theorem spec_TreeFind_ev (s : List TN) (hs : s.length ≤ 1000000000) (hN : nodesOk s) (a id : Int) : Ev (fun k => spec_TreeFind.f k s a id) (findOf s a id) := by
  unfold spec_TreeFind.f findOf
  refine Ev.bind (spec_TreeOk_ev s hs hN) ?_
  by_cases h : tok s
  · have hl := h.1
    simp only [decide_eq_true h, if_true, spec_l1In_ev, Option.bind_some]
    rw [wrap_id (n := (s.length : Int) - 1) (by omega) (by omega)]
    by_cases h1 : 0 ≤ a ∧ a < s.length
    · simp only [decide_eq_true (show 0 ≤ a ∧ a ≤ (s.length : Int) - 1 by omega), if_true]
      rw [if_pos ⟨h, h1⟩]
      obtain ⟨n, rfl⟩ := Int.eq_ofNat_of_zero_le h1.1
      refine Ev.bind (spec_l4Find_ev s hs hN h n (by omega) id) ?_
      exact Ev.now _
    · simp only [decide_eq_false (show ¬ (0 ≤ a ∧ a ≤ (s.length : Int) - 1) by omega), Bool.false_eq_true, if_false]
      rw [if_neg (fun hh => h1 hh.2)]; exact Ev.now _
  · simp only [decide_eq_false h, Bool.false_eq_true, if_false]
    rw [if_neg (fun hh => h hh.1)]; exact Ev.now _
theorem find_l (s : List TN) (hs : s.length ≤ 1000000000) (hN : nodesOk s) (af : List Int) (hw : Wrote s [] 0 s.length af) (id many : Int) (h9 : many < 9223372036854775808) :
    ∀ (m n : Nat) (i : Int), 0 ≤ i → (many - i).toNat = m → lies s m n → Ev (fun k => impl_tree_find.l0 k id n many i s af) (findIn s id m n) := by
  intro m
  induction m with
  | zero =>
    intro n i h0 hm hl
    refine Ev.step (f := fun _ => some (-1)) (fun k => ?_) (Ev.now _)
    simp only [impl_tree_find.l0]
    rw [if_neg (by omega)]
  | succ m ih =>
    intro n i h0 hm hl
    have hn := hl.1
    have hr : rd af (n : Int) = (taf s n : Int) := by
      have h2 := hw.2 n hn
      rw [if_pos (by omega)] at h2
      unfold rd; rw [Int.toNat_natCast, List.getD_eq_getElem?_getD, h2]; rfl
    unfold findIn
    by_cases he : (rd_T74 s n).f1 = id
    · rw [if_pos he]
      refine Ev.step (f := fun _ => some (n : Int)) (fun k => ?_) (Ev.now _)
      simp only [impl_tree_find.l0]
      rw [if_pos (by omega), if_pos (by omega), if_pos (by omega), if_pos he]
    · rw [if_neg he]
      refine Ev.step (fun k => ?_) (ih _ (i + 1) (by omega) (by omega) hl.2)
      simp only [impl_tree_find.l0]
      rw [if_pos (by omega), if_pos (by omega), if_pos (by omega), if_neg he, if_pos (by rw [hw.1]; omega), hr, wrap_id (n := i + 1) (by omega) (by omega)]
theorem impl_find_ev (s : List TN) (hs : s.length ≤ 1000000000) (hN : nodesOk s) (h : tok s) (af : List Int) (hw : Wrote s [] 0 s.length af) (a id : Int) : Ev (fun k => impl_tree_find.f k s af a id) (findOf s a id) := by
  have hl := h.1
  unfold impl_tree_find.f findOf
  rw [wrap_id (n := (s.length : Int) - 1) (by omega) (by omega)]
  simp only [impl_within_ev, Option.bind_some]
  have bad : Ev (fun k => impl_tree_find.j0 k a id true s af) (-1) := Ev.step (f := fun _ => some (-1)) (fun k => by simp only [impl_tree_find.j0]; rw [if_pos trivial]) (Ev.now _)
  by_cases h1 : 0 ≤ a ∧ a < s.length
  · simp only [decide_eq_true (show 0 ≤ a ∧ a ≤ (s.length : Int) - 1 by omega), if_true, if_pos h1.1, if_pos h1.2]
    rw [if_pos ⟨h, h1⟩]
    obtain ⟨n, rfl⟩ := Int.eq_ofNat_of_zero_le h1.1
    have hA := (hN n (by omega)).2
    rw [Int.toNat_natCast]
    unfold findAt
    by_cases h12 : (rd_T74 s n).f0 = 12
    · rw [if_pos h12, show ((rd_T74 s n).f0 != 12) = false from bne_eq_false_iff_eq.2 h12]
      refine Ev.step (fun k => ?_) (find_l s hs hN af hw id _ hA.2.2 _ (n + 1) 0 (by omega) (by simp) (tok_lies s h n (by omega)))
      simp only [impl_tree_find.j0]
      rw [if_neg (by simp), if_pos (by omega), if_pos (by omega), wrap_id (n := (n : Int) + 1) (by omega) (by omega)]; push_cast; rfl
    · rw [if_neg h12, show ((rd_T74 s n).f0 != 12) = true from bne_iff_ne.2 h12]
      exact bad
  · simp only [decide_eq_false (show ¬ (0 ≤ a ∧ a ≤ (s.length : Int) - 1) by omega), Bool.false_eq_true, if_false]
    rw [if_neg (fun hh => h1 hh.2)]; exact bad

/-- The text of a part that is a text. -/
def textOf (s : List TN) (a id : Int) : ByteArray × Bool := if findOf s a id < 0 then (⟨#[]⟩, false) else if (rd_T74 s (findOf s a id)).f0 = 8 then ((rd_T74 s (findOf s a id)).f3, true) else (⟨#[]⟩, false)
theorem findOf_rng (s : List TN) (a id : Int) : findOf s a id = -1 ∨ (0 ≤ findOf s a id ∧ findOf s a id < s.length) := by
  unfold findOf
  split
  · rename_i h
    unfold findAt
    split
    · exact findIn_rng s h.1 id _ _ (tok_lies s h.1 _ (by omega))
    · exact .inl rfl
  · exact .inl rfl
theorem spec_TreeTextOf_ev (s : List TN) (hs : s.length ≤ 1000000000) (hN : nodesOk s) (a id : Int) : Ev (fun k => spec_TreeTextOf.f k s a id) (textOf s a id) := by
  unfold spec_TreeTextOf.f
  refine Ev.bind (spec_TreeFind_ev s hs hN a id) ?_
  have hr := findOf_rng s a id
  by_cases h : findOf s a id < 0
  · unfold textOf
    simp only [if_pos h]; exact Ev.now _
  · simp only [if_neg h]
    have hd : tok s ∧ 0 ≤ a ∧ a < s.length := by
      refine Classical.byContradiction fun hh => h ?_
      unfold findOf; rw [if_neg hh]; decide
    have e : findOf s a id = findAt s a.toNat id := by unfold findOf; rw [if_pos hd]
    have hl : Ev (fun k => spec_l4TextOf.f k s a id) (textOf s a id) := by
      unfold spec_l4TextOf.f
      obtain ⟨n, rfl⟩ := Int.eq_ofNat_of_zero_le hd.2.1
      refine Ev.bind (spec_l4Find_ev s hs hN hd.1 n (by omega) id) ?_
      rw [Int.toNat_natCast] at e
      rw [← e]
      unfold textOf
      simp only [if_neg h, if_pos (show 0 ≤ findOf s n id by omega), if_pos (show findOf s n id < s.length by omega)]
      by_cases h8 : (rd_T74 s (findOf s n id)).f0 = 8
      · simp only [if_pos h8]; exact Ev.now _
      · simp only [if_neg h8]; exact Ev.now _
    refine Ev.bind hl ?_
    exact Ev.now _
theorem impl_TreeTextOf_ev (s : List TN) (hs : s.length ≤ 1000000000) (hN : nodesOk s) (a id : Int) : Ev (fun k => impl_TreeTextOf.f k s a id) (textOf s a id) := by
  obtain ⟨af, hev, hw⟩ := treeOf_ev s hs hN
  unfold impl_TreeTextOf.f
  refine Ev.bind hev ?_
  by_cases h : tok s
  · simp only [decide_eq_true h, if_true]
    have hr := findOf_rng s a id
    have hf := impl_find_ev s hs hN h af (hw h) a id
    unfold textOf
    by_cases h0 : findOf s a id < 0
    · have hp : Ev (fun k => impl_tree_part.f k s af a id 8) (0, 0, 0, (⟨#[]⟩ : ByteArray), 0, false) := by
        unfold impl_tree_part.f
        refine Ev.bind hf ?_
        simp only [if_pos h0]; exact Ev.now _
      refine Ev.bind hp ?_
      simp only [if_pos h0]; exact Ev.now _
    · by_cases h8 : (rd_T74 s (findOf s a id)).f0 = 8
      · have hp : Ev (fun k => impl_tree_part.f k s af a id 8) ((rd_T74 s (findOf s a id)).f0, (rd_T74 s (findOf s a id)).f1, (rd_T74 s (findOf s a id)).f2, (rd_T74 s (findOf s a id)).f3, (rd_T74 s (findOf s a id)).f4, true) := by
          unfold impl_tree_part.f
          refine Ev.bind hf ?_
          simp only [if_neg h0, if_pos (show 0 ≤ findOf s a id by omega), if_pos (show findOf s a id < s.length by omega), if_pos h8]; exact Ev.now _
        refine Ev.bind hp ?_
        simp only [if_neg h0, if_pos h8]; exact Ev.now _
      · have hp : Ev (fun k => impl_tree_part.f k s af a id 8) (0, 0, 0, (⟨#[]⟩ : ByteArray), 0, false) := by
          unfold impl_tree_part.f
          refine Ev.bind hf ?_
          simp only [if_neg h0, if_pos (show 0 ≤ findOf s a id by omega), if_pos (show findOf s a id < s.length by omega), if_neg h8]; exact Ev.now _
        refine Ev.bind hp ?_
        simp only [if_neg h0, if_neg h8]; exact Ev.now _
  · simp only [decide_eq_false h, Bool.false_eq_true, if_false]
    have e : findOf s a id = -1 := by unfold findOf; rw [if_neg (fun hh => h hh.1)]
    unfold textOf; rw [e, if_pos (by decide)]; exact Ev.now _

abbrev ND := S74
theorem rd_node (l : List ND) (i : Nat) (h : i < l.length) : rd_T74 l i = l[i] := by
  unfold rd_T74; simp [h]
theorem eqNode_refl (a b c : Int) (d : ByteArray) (e : Int) : laws_eqNode.f a b c d e a b c d e = some true := by simp [laws_eqNode.f]
theorem eqNodeS_self (a : List ND) (hn : a.length ≤ 1000000000000000000) : Ev (fun k => laws_eqNodeS.f k a a) true := by
  have key : ∀ (d : Nat) (i : Int), 0 ≤ i → i ≤ a.length → (a.length : Int) - i = d → Ev (fun k => laws_eqNodeS.l0 k a a i) true := by
    intro d
    induction d with
    | zero =>
      intro i h0 h1 hd
      refine Ev.step (f := fun _ => some true) (fun k => ?_) (Ev.now _)
      simp only [laws_eqNodeS.l0]; rw [if_neg (by omega)]
    | succ d ih =>
      intro i h0 h1 hd
      refine Ev.step (f := fun k => laws_eqNodeS.l0 k a a (i + 1)) (fun k => ?_) (ih (i + 1) (by omega) (by omega) (by omega))
      simp only [laws_eqNodeS.l0]; rw [if_pos (by omega), if_pos h0, if_pos (by omega), eqNode_refl]
      simp only [Option.bind_some, if_true]; rw [wrap_id (by omega) (by omega)]
  have h := key a.length 0 (by omega) (by omega) (by omega)
  unfold laws_eqNodeS.f
  simpa using h

/-- A law's nodes: their texts no longer than memory, their numbers Go's. -/
def lnodesOk (l : List S73) : Prop := ∀ x ∈ l, (Lit.int .i64 x.f0).wf = true ∧ (Lit.int .i64 x.f1).wf = true ∧ (Lit.int .i64 x.f2).wf = true ∧ x.f3.size ≤ maxLen ∧ (Lit.int .i64 x.f4).wf = true
theorem rd_lnode (l : List S73) (i : Nat) (h : i < l.length) : rd_T73 l i = l[i] := by
  unfold rd_T73; simp [h]
theorem szNodeS_ev (l : List S73) (hl : l.length ≤ 1000000000000000) (hs : lnodesOk l) : ∃ t, Ev (fun k => laws_szNodeS.f k l 1048576) t ∧ (¬ t < 0 → l.length ≤ 1048576) := by
  unfold laws_szNodeS.f
  rw [wrap_id (n := 1048576 - (l.length : Int)) (by omega) (by omega)]
  by_cases h : 1048576 - (l.length : Int) < 0
  · simp only [if_pos h]; exact ⟨_, Ev.now _, fun h => absurd (by decide) h⟩
  simp only [if_neg h]
  have key : ∀ (d i : Nat) (x : Int), i + d = l.length → 0 ≤ x → x ≤ 1048576 → ∃ t, Ev (fun k => laws_szNodeS.l0 k l x i) t := by
    intro d
    induction d with
    | zero =>
      intro i x hd h0 h1
      refine ⟨x, Ev.step (f := fun _ => some x) (fun k => ?_) (Ev.now _)⟩
      simp only [laws_szNodeS.l0]; rw [if_neg (by omega)]
    | succ d ih =>
      intro i x hd h0 h1
      have hx := (hs l[i] (List.getElem_mem (by omega))).2.2.2.1
      have h3 : maxLen = 9223372036854775807 := by decide
      have e : laws_szNode.f (rd_T73 l i).f0 (rd_T73 l i).f1 (rd_T73 l i).f2 (rd_T73 l i).f3 (rd_T73 l i).f4 x = some (if x - (l[i].f3.size : Int) < 0 then -1 else x - (l[i].f3.size : Int)) := by
        unfold laws_szNode.f
        rw [rd_lnode l i (by omega), wrap_id (n := x - (l[i].f3.size : Int)) (by omega) (by omega)]
        split <;> rfl
      by_cases hn : x - (l[i].f3.size : Int) < 0
      · refine ⟨-1, Ev.step (f := fun _ => some (-1)) (fun k => ?_) (Ev.now _)⟩
        simp only [laws_szNodeS.l0]
        rw [if_pos (by omega), if_pos (by omega), e, if_pos hn]; rfl
      · obtain ⟨t, ht⟩ := ih (i + 1) (x - (l[i].f3.size : Int)) (by omega) (by omega) (by omega)
        refine ⟨t, Ev.step (fun k => ?_) ht⟩
        simp only [laws_szNodeS.l0]
        rw [if_pos (by omega), if_pos (by omega), e, if_neg hn]
        simp only [Option.bind_some]
        rw [if_neg hn, wrap_id (n := (i : Int) + 1) (by omega) (by omega)]; push_cast; rfl
  obtain ⟨t, ht⟩ := key l.length 0 (1048576 - (l.length : Int)) (by omega) (by omega) (by omega)
  exact ⟨t, ht, fun _ => by omega⟩
def convN (x : S73) : S74 := ⟨x.f0, x.f1, x.f2, x.f3, x.f4⟩
theorem toNodeS_ev (a : List S73) (hn : a.length ≤ 5864062014805) : Ev (fun k => laws_toNodeS.f k a) (a.map convN) := by
  have key : ∀ (d : Nat) (i : Nat) (r : List S74), r.length = d → i + d = a.length → Ev (fun k => laws_toNodeS.l0 k a ((a.map convN).take i ++ r) i) (a.map convN) := by
    intro d
    induction d with
    | zero =>
      intro i r hr hd
      obtain rfl : r = [] := List.length_eq_zero_iff.1 hr
      refine Ev.step (f := fun _ => some (a.map convN)) (fun k => ?_) (Ev.now _)
      simp only [laws_toNodeS.l0]; rw [if_neg (by omega)]
      rw [List.append_nil, List.take_of_length_le (by simp; omega)]
    | succ d ih =>
      intro i r hr hd
      refine Ev.step (f := fun k => laws_toNodeS.l0 k a ((a.map convN).take (i + 1) ++ r.tail) (i + 1 : Nat)) (fun k => ?_) (ih (i + 1) r.tail (by simp [hr]) (by omega))
      simp only [laws_toNodeS.l0, laws_toNode.f, Option.bind_some]
      rw [if_pos (by omega), if_pos (by omega), if_pos (by simp; omega), wrap_id (n := (i : Int) + 1) (by omega) (by omega)]
      rw [set_mid _ _ _ _ (by simp; omega) (by omega), rd_lnode a i (by omega)]
      rw [List.take_succ_eq_append_getElem (i := i) (l := a.map convN) (by simp; omega)]
      simp [convN]
  have h := key a.length 0 (List.replicate a.length z74) (by simp) (by omega)
  unfold laws_toNodeS.f
  simp only [if_pos (show (0:Int) ≤ a.length by omega), if_pos (show ((a.length : Int)).toNat ≤ 5864062014805 by omega)]
  simpa using h
theorem convN_ok (l : List S73) (h : lnodesOk l) : nodesOk (l.map convN) := by
  intro i hi
  have hi' : i < (l.map convN).length := hi
  rw [rd_node _ _ hi']
  simp only [List.getElem_map, convN]
  have hm := h (l[i]'(by simpa using hi)) (List.getElem_mem _)
  have h1 := wf64 hm.2.1
  have h2 := wf64 hm.2.2.1
  have h4 := wf64 hm.2.2.2.2
  have h5 := hm.2.2.2.1
  have h3 : maxLen = 9223372036854775807 := by decide
  omega

theorem FnExactTreeTextOf (l : List S73) (hlen : l.length ≤ 5864062014805) (hl : lnodesOk l) (a : Int) (_ : (Lit.int .i64 a).wf = true) (id : Int) (_ : (Lit.int .i64 id).wf = true) : ∃ k, laws_FnExactTreeTextOf.f k l a id = some true := by
  refine Ev.rounds (g := fun k => laws_FnExactTreeTextOf.f k l a id) ?_
  unfold laws_FnExactTreeTextOf.f
  obtain ⟨t, ht, hsz⟩ := szNodeS_ev l (by omega) hl
  refine Ev.bind ht ?_
  by_cases h : t < 0
  · simp only [if_pos h]; exact Ev.now _
  simp only [if_neg h]
  have hs := hsz h
  have hc : nodesOk (l.map convN) := convN_ok l hl
  have hs' : (l.map convN).length ≤ 1000000000 := by simp; omega
  refine Ev.bind (toNodeS_ev l hlen) ?_
  refine Ev.bind (spec_TreeTextOf_ev _ hs' hc a id) ?_
  refine Ev.bind (toNodeS_ev l hlen) ?_
  refine Ev.bind (impl_TreeTextOf_ev _ hs' hc a id) ?_
  simp only [if_true, bne_self_eq_false]
  have e : Ev (fun k => (laws_toNodeS.f k l).bind fun t => ((laws_eqNodeS.f k (l.map convN) t).bind fun b => if b = true then (some true) else (some false))) true := by
    refine Ev.bind (toNodeS_ev l hlen) ?_
    refine Ev.bind (eqNodeS_self _ (by omega)) ?_
    simp only [if_true]; exact Ev.now _
  refine Ev.step (fun k => ?_) e
  simp only [laws_FnExactTreeTextOf.j0]
  rw [if_neg (by simp)]

end Go.Proofs.Ytjbghmdbceekiaa.Pure
