/- TreePack answers as the reference does, for all nodes. -/
import Derived.Test.YtjbghmdbceekiaaPFnExactTreePackx12
import Derived.Test.YtjbghmdbceekiaaCom
namespace Go.Proofs.Ytjbghmdbceekiaa.Pure
open Go Go.RowKit Go.Proofs.Ytjbghmdbceekiaa.PFnExactTreePack Go.Proofs.YtjbghmdbceekiaaW.PrintWords Go.Proofs.YtjbghmdbceekiaaW.PrintLast Go.Proofs.YtjbghmdbceekiaaW.PrintMore Go.Proofs.Ytjbghmdbceekiaa.Com
set_option linter.unusedVariables false
set_option linter.unusedSimpArgs false

abbrev TN := S74
def item (t : Int) : Prop := t = 5 ∨ t = 6 ∨ t = 8 ∨ t = 9 ∨ t = 12
instance (t : Int) : Decidable (item t) := by unfold item; infer_instance
def nodeIs (t num : Int) (x : ByteArray) (many : Int) : Prop :=
 ((t = 1 ∨ t = 2) ∧ num = 0 ∧ x.toList = [] ∧ many = 0) ∨ (t = 5 ∧ (-2147483648 ≤ num ∧ num ≤ 2147483647) ∧ x.toList = [] ∧ many = 0) ∨ (t = 6 ∧ x.toList = [] ∧ many = 0) ∨
 (t = 8 ∧ num = 0 ∧ (x.size : Int) ≤ 300 ∧ many = 0) ∨ (t = 9 ∧ x.toList = [] ∧ 0 ≤ many ∧ (many = 0 ∧ num = 0 ∨ 0 < many ∧ item num)) ∨ (t = 12 ∧ num = 0 ∧ x.toList = [] ∧ 0 ≤ many)
instance (t num : Int) (x : ByteArray) (many : Int) : Decidable (nodeIs t num x many) := by unfold nodeIs; infer_instance
def nok (s : List TN) (a : Nat) : Prop := nodeIs (rd_T74 s a).f0 (rd_T74 s a).f2 (rd_T74 s a).f3 (rd_T74 s a).f4
instance (s : List TN) (a : Nat) : Decidable (nok s a) := by unfold nok; infer_instance
def partOk (s : List TN) (a n : Nat) (la : Int) : Prop := ((rd_T74 s a).f0 = 9 → (rd_T74 s n).f0 = (rd_T74 s a).f2 ∧ (rd_T74 s n).f1 = 0) ∧ ((rd_T74 s a).f0 = 12 → la < (rd_T74 s n).f1 ∧ (rd_T74 s n).f1 ≤ 1000)
instance (s : List TN) (a n : Nat) (la : Int) : Decidable (partOk s a n la) := by unfold partOk; infer_instance
def tparts (s : List TN) (g : Nat → Option Nat) (a : Nat) : Nat → Nat → Int → Option Nat
 | 0, n, _ => some n
 | m + 1, n, la => if n < s.length ∧ partOk s a n la then (g n).bind fun n' => tparts s g a m n' (rd_T74 s n).f1 else none
def taft (s : List TN) : Nat → Nat → Option Nat
 | 0, _ => none
 | d + 1, a => if a < s.length ∧ nok s a then tparts s (taft s d) a (rd_T74 s a).f4.toNat (a + 1) 0 else none
def ofT : Option Nat → Int
 | none => -1
 | some n => n
theorem tparts_succ (s : List TN) (g : Nat → Option Nat) (a m n : Nat) (la : Int) : tparts s g a (m + 1) n la = if n < s.length ∧ partOk s a n la then (g n).bind fun n' => tparts s g a m n' (rd_T74 s n).f1 else none := rfl
theorem taft_succ (s : List TN) (d a : Nat) : taft s (d + 1) a = if a < s.length ∧ nok s a then tparts s (taft s d) a (rd_T74 s a).f4.toNat (a + 1) 0 else none := rfl
theorem tparts_ge (s : List TN) (g : Nat → Option Nat) (a : Nat) (hg : ∀ n n', g n = some n' → n < n' ∧ n' ≤ s.length) : ∀ (m n : Nat) (la : Int) (e : Nat), n ≤ s.length → tparts s g a m n la = some e → n ≤ e ∧ e ≤ s.length := by
 intro m
 induction m with
 | zero => intro n la e hn h;cases h;exact ⟨Nat.le_refl _, hn⟩
 | succ m ih =>
  intro n la e hn h
  rw [tparts_succ] at h
  split at h
  ·cases hq : g n with
   | none => rw [hq] at h;cases h
   | some n' =>
    rw [hq] at h
    have h1 := hg n n' hq
    have h2 := ih n' _ e h1.2 h
    omega
  ·cases h
theorem taft_lt (s : List TN) : ∀ d a e, taft s d a = some e → a < e ∧ e ≤ s.length := by
 intro d
 induction d with
 | zero => intro a e h;cases h
 | succ d ih =>
  intro a e h
  rw [taft_succ] at h
  split at h
  ·rename_i hc
   have := tparts_ge s (taft s d) a ih _ _ _ _ (by omega) h
   omega
  ·cases h
theorem tparts_mono (s : List TN) (g g' : Nat → Option Nat) (a : Nat) (hg : ∀ n n', g n = some n' → g' n = some n') : ∀ (m n : Nat) (la : Int) (e : Nat), tparts s g a m n la = some e → tparts s g' a m n la = some e := by
 intro m
 induction m with
 | zero => intro n la e h;exact h
 | succ m ih =>
  intro n la e h
  rw [tparts_succ] at h ⊢
  split at h
  ·rename_i hc
   rw [if_pos hc]
   cases hq : g n with
   | none => rw [hq] at h;cases h
   | some n' => rw [hq] at h;rw [hg n n' hq];exact ih _ _ _ h
  ·cases h
theorem taft_mono1 (s : List TN) : ∀ d a e, taft s d a = some e → taft s (d + 1) a = some e := by
 intro d
 induction d with
 | zero => intro a e h;cases h
 | succ d ih =>
  intro a e h
  rw [taft_succ] at h
  rw [taft_succ]
  split at h
  ·rename_i hc
   rw [if_pos hc]
   exact tparts_mono s _ _ a ih _ _ _ _ h
  ·cases h
theorem taft_mono (s : List TN) (d d' : Nat) (hd : d ≤ d') (a e : Nat) (h : taft s d a = some e) : taft s d' a = some e := by
 induction d' with
 | zero => rw [show d = 0 by omega] at h;cases h
 | succ d' ih =>
  by_cases h1 : d = d' + 1
  ·rw [← h1];exact h
  ·exact taft_mono1 s d' a e (ih (by omega))
def trootOk (s : List TN) : Prop := (rd_T74 s 0).f0 = 12 ∧ (rd_T74 s 0).f1 = 0
instance (s : List TN) : Decidable (trootOk s) := by unfold trootOk; infer_instance
def tok (s : List TN) : Prop := (1 ≤ s.length ∧ s.length ≤ 1500) ∧ trootOk s ∧ taft s 12 0 = some s.length
instance (s : List TN) : Decidable (tok s) := by unfold tok; infer_instance
def taf (s : List TN) (i : Nat) : Nat := (taft s 12 i).getD 0
def nodesOk (s : List TN) : Prop := ∀ i : Nat, i < s.length → (rd_T74 s i).f3.size ≤ 9223372036854775807 ∧ ((-9223372036854775808 ≤ (rd_T74 s i).f1 ∧ (rd_T74 s i).f1 < 9223372036854775808) ∧ (-9223372036854775808 ≤ (rd_T74 s i).f2 ∧ (rd_T74 s i).f2 < 9223372036854775808) ∧ (rd_T74 s i).f4 < 9223372036854775808)

theorem spec_l1In_ev (x a b : Int) : spec_l1In.f x a b = some (decide (a ≤ x ∧ x ≤ b)) := by
 unfold spec_l1In.f
 by_cases h : x ≥ a
 ·rw [if_pos h];congr 1;simp [show a ≤ x from h]
 ·rw [if_neg h];congr 1;simp [show ¬ a ≤ x from h]

theorem spec_l4Kind_ev (t : Int) : spec_l4Kind.f t = some (decide (t = 1 ∨ t = 2 ∨ item t)) := by
 unfold spec_l4Kind.f item
 repeat' split
 all_goals (congr 1;symm)
 all_goals first|(rw [decide_eq_true_iff];omega)|(rw [decide_eq_false_iff_not];omega)
theorem spec_l4Item_ev (t : Int) : spec_l4Item.f t = some (decide (item t)) := by
 unfold spec_l4Item.f
 rw [spec_l4Kind_ev]
 simp only [Option.bind_some]
 by_cases h : item t
 ·have h1 : ¬ t = 1 := by unfold item at h;omega
  have h2 : t ≠ 2 := by unfold item at h;omega
  rw [decide_eq_true (.inr (.inr h)), if_pos rfl, if_neg h1, decide_eq_true h];simp [h2]
 ·by_cases h1 : t = 1
  ·rw [decide_eq_true (.inl h1), if_pos rfl, if_pos h1, decide_eq_false h]
  ·by_cases h2 : t = 2
   ·rw [decide_eq_true (.inr (.inl h2)), if_pos rfl, if_neg h1, decide_eq_false h, h2];rfl
   ·rw [decide_eq_false (fun hh => by rcases hh with hh|hh|hh <;> contradiction), if_neg (by simp), decide_eq_false h]
theorem spec_l4Int_ev (x : Int) : spec_l4Int.f x = some (decide (-2147483648 ≤ x ∧ x ≤ 2147483647)) := by
 unfold spec_l4Int.f;rw [spec_l1In_ev];rfl
theorem beq0 (x : Int) : (x == 0) = decide (x = 0) := by
 by_cases h : x = 0
 ·subst h;rfl
 ·rw [decide_eq_false h, beq_eq_false_iff_ne];exact h
theorem ifd (p q : Prop) [Decidable p] [Decidable q] : (if p then some (decide q) else some false) = some (decide (p ∧ q)) := by
 by_cases h : p
 ·rw [if_pos h];congr 1;rw [decide_eq_decide];exact ⟨fun x => ⟨h, x⟩, fun x => x.2⟩
 ·rw [if_neg h];congr 1;symm;rw [decide_eq_false_iff_not];exact fun x => h x.1
theorem somed {p q : Prop} [Decidable p] [Decidable q] (h : p ↔ q) : some (decide p) = some (decide q) := by congr 1; rw [decide_eq_decide]; exact h
theorem plain_cases (t num : Int) (x : ByteArray) (many : Int) (h1 : t ≠ 1) (h2 : t ≠ 2) (last : Option Bool) (hl : t ≠ 5 → t ≠ 6 → t ≠ 8 → t ≠ 9 → t ≠ 12 → last = some false) (it : Int → Option Bool) (hi : ∀ t, it t = some (decide (item t))) (fit : Int → Option Bool) (hf : ∀ n, fit n = some (decide (-2147483648 ≤ n ∧ n ≤ 2147483647))) :
  (if t = 5 then ((fit num).bind fun b => (if b = true then (if x.toList = ([] : List UInt8) then (some (many == 0)) else (some false)) else (some false))) else (if t = 6 then (if x.toList = ([] : List UInt8) then (some (many == 0)) else (some false)) else (if t = 8 then (if num = 0 then (if (x.size : Int) ≤ 300 then (some (many == 0)) else (some false)) else (some false)) else (if t = 9 then (if x.toList = ([] : List UInt8) then (if many ≥ 0 then (if many = 0 then (if num = 0 then (some true) else (if many > 0 then ((it num).bind fun b => (some b)) else (some false))) else (if many > 0 then ((it num).bind fun b => (some b)) else (some false))) else (some false)) else (some false)) else (if t = 12 then (if num = 0 then (if x.toList = ([] : List UInt8) then (some (decide (many ≥ 0))) else (some false)) else (some false)) else last))))) = some (decide (nodeIs t num x many)) := by
 simp only [hi, hf, Option.bind_some, beq0, decide_eq_true_eq]
 by_cases t5 : t = 5
 ·rw [if_pos t5, ifd, ifd];refine somed ?_;subst t5;simp [nodeIs]
 rw [if_neg t5]
 by_cases t6 : t = 6
 ·rw [if_pos t6, ifd];refine somed ?_;subst t6;simp [nodeIs]
 rw [if_neg t6]
 by_cases t8 : t = 8
 ·rw [if_pos t8, ifd, ifd];refine somed ?_;subst t8;simp [nodeIs]
 rw [if_neg t8]
 by_cases t9 : t = 9
 ·rw [if_pos t9]
  have e : (if many = 0 then (if num = 0 then (some true) else (if many > 0 then (some (decide (item num))) else (some false))) else (if many > 0 then (some (decide (item num))) else (some false))) = some (decide (many = 0 ∧ num = 0 ∨ 0 < many ∧ item num)) := by
   by_cases c3 : many = 0
   ·rw [if_pos c3]
    by_cases c4 : num = 0
    ·rw [if_pos c4];congr 1;symm;rw [decide_eq_true_iff];exact .inl ⟨c3, c4⟩
    ·rw [if_neg c4, if_neg (by omega)];congr 1;symm;rw [decide_eq_false_iff_not];intro hh;omega
   ·rw [if_neg c3]
    by_cases c5 : many > 0
    ·rw [if_pos c5];refine somed ⟨fun h => .inr ⟨c5, h⟩, fun h => ?_⟩
     rcases h with h|h
     ·exact absurd h.1 c3
     ·exact h.2
    ·rw [if_neg c5];congr 1;symm;rw [decide_eq_false_iff_not];intro hh;omega
  rw [e, ifd, ifd];refine somed ?_;subst t9;simp [nodeIs]
 rw [if_neg t9]
 by_cases t12 : t = 12
 ·rw [if_pos t12, ifd, ifd];refine somed ?_;subst t12;simp [nodeIs]
 rw [if_neg t12, hl t5 t6 t8 t9 t12];congr 1;symm;rw [decide_eq_false_iff_not];unfold nodeIs;intro hh;omega
theorem bool_node (t num : Int) (x : ByteArray) (many : Int) (h : t = 1 ∨ t = 2) : (if num = 0 then (if x.toList = ([] : List UInt8) then (some (many == 0)) else (some false)) else (some false)) = some (decide (nodeIs t num x many)) := by
 rw [beq0, ifd, ifd];refine somed ?_
 rcases h with h|h <;> subst h <;> simp [nodeIs]
theorem spec_l4Plain_ev (t id num : Int) (x : ByteArray) (many : Int) : Ev (fun k => spec_l4Plain.f k t id num x many) (decide (nodeIs t num x many)) := by
 have yes : (t = 1 ∨ t = 2) → Ev (fun k => spec_l4Plain.j0 k t true t id num x many) (decide (nodeIs t num x many)) := by
  intro h
  refine Ev.step (f := fun _ => some (decide (nodeIs t num x many))) (fun k => ?_) (Ev.now _)
  simp only [spec_l4Plain.j0]
  rw [if_pos trivial];exact bool_node t num x many h
 have no : t ≠ 1 → t ≠ 2 → Ev (fun k => spec_l4Plain.j0 k t false t id num x many) (decide (nodeIs t num x many)) := by
  intro h1 h2
  refine Ev.step (f := fun _ => some (decide (nodeIs t num x many))) (fun k => ?_) (Ev.now _)
  simp only [spec_l4Plain.j0]
  rw [if_neg (by simp)]
  exact plain_cases t num x many h1 h2 (some false) (fun _ _ _ _ _ => rfl) spec_l4Item.f spec_l4Item_ev spec_l4Int.f spec_l4Int_ev
 unfold spec_l4Plain.f
 by_cases h1 : t = 1
 ·simp only [if_pos h1];rw [show (t == 1) = true from beq_iff_eq.2 h1];exact yes (.inl h1)
 ·simp only [if_neg h1]
  by_cases h2 : t = 2
  ·rw [show (t == 2) = true from beq_iff_eq.2 h2];exact yes (.inr h2)
  ·rw [show (t == 2) = false from beq_eq_false_iff_ne.2 h2];exact no h1 h2

theorem impl_within_ev (x a b : Int) : impl_within.f x a b = some (decide (a ≤ x ∧ x ≤ b)) := by
 unfold impl_within.f
 by_cases h : x ≥ a
 ·rw [if_pos h];congr 1;simp [show a ≤ x from h]
 ·rw [if_neg h];congr 1;simp [show ¬ a ≤ x from h]

theorem impl_isInt32_ev (x : Int) : impl_isInt32.f x = some (decide (-2147483648 ≤ x ∧ x ≤ 2147483647)) := by
 unfold impl_isInt32.f;rw [impl_within_ev];rfl
theorem impl_isType_at (k : Nat) (t : Int) (b : Bool) : impl_isType.f (k + 1) t b = some (if t = 1 ∨ t = 2 then !b else decide (item t)) := by
 unfold impl_isType.f
 by_cases h1 : t = 1
 ·rw [if_pos h1, if_pos (.inl h1), h1];simp only [impl_isType.j0];rw [if_pos (by decide)]
 ·rw [if_neg h1]
  by_cases h2 : t = 2
  ·rw [if_pos (.inr h2), h2];simp only [impl_isType.j0];rw [if_pos (by decide)]
  ·rw [if_neg (by omega), show (t == 2) = false from beq_eq_false_iff_ne.2 h2]
   simp only [impl_isType.j0]
   rw [if_neg (by simp)]
   by_cases hi : item t
   ·rw [decide_eq_true hi];unfold item at hi
    repeat' split
    all_goals first|rfl|(exfalso;omega)
   ·rw [decide_eq_false hi];unfold item at hi
    repeat' split
    all_goals first|rfl|(exfalso;omega)
theorem impl_isType_item (k : Nat) (t : Int) : impl_isType.f (k + 1) t true = some (decide (item t)) := by
 rw [impl_isType_at]
 by_cases h : t = 1 ∨ t = 2
 ·rw [if_pos h, decide_eq_false (by unfold item;omega)];rfl
 ·rw [if_neg h]
theorem impl_nodeOk_at (k : Nat) (t id num : Int) (x : ByteArray) (many : Int) : impl_nodeOk.f (k + 1) t id num x many = some (decide (nodeIs t num x many)) := by
 unfold impl_nodeOk.f
 by_cases h : t = 1 ∨ t = 2
 ·rw [if_neg (by omega), if_neg (by omega), if_neg (by omega), if_neg (by omega), if_neg (by omega), impl_isType_at, if_pos h]
  simp only [Bool.not_false, Option.bind_some, if_true]
  exact bool_node t num x many h
 ·refine plain_cases t num x many (by omega) (by omega) _ ?_ (fun n => impl_isType.f (k + 1) n true) (impl_isType_item k) impl_isInt32.f impl_isInt32_ev
  intro a b c d e
  rw [impl_isType_at, if_neg h, decide_eq_false (by unfold item;omega)];rfl

theorem ev_succ' {α : Type} {g : Nat → Option α} {r : α} (h : Ev (fun k => g (k + 1)) r) : Ev g r := Ev.step (fun _ => rfl) h

theorem ev_shift {α : Type} {g : Nat → Option α} {r : α} (h : Ev g r) : Ev (fun k => g (k + 1)) r := by
 obtain ⟨K, h⟩ := h
 exact ⟨K, fun k hk => h (k + 1) (by omega)⟩
def Wrote (s : List TN) (af : List Int) (a e : Nat) (af' : List Int) : Prop := af'.length = s.length ∧ ∀ i, i < s.length → af'[i]? = if a ≤ i ∧ i < e then some (taf s i : Int) else af[i]?
theorem Wrote.refl (s : List TN) (af : List Int) (a : Nat) (h : af.length = s.length) : Wrote s af a a af := ⟨h, fun i _ => by rw [if_neg (by omega)]⟩
theorem Wrote.join {s : List TN} {af af1 af2 : List Int} {a b e : Nat} (h : Wrote s af a b af1) (k : Wrote s af1 b e af2) (hab : a ≤ b) (hbe : b ≤ e) : Wrote s af a e af2 := by
 refine ⟨k.1, fun i hi => ?_⟩
 rw [k.2 i hi]
 by_cases h1 : b ≤ i ∧ i < e
 ·rw [if_pos h1, if_pos (by omega)]
 ·rw [if_neg h1, h.2 i hi]
  by_cases h2 : a ≤ i ∧ i < b
  ·rw [if_pos h2, if_pos (by omega)]
  ·rw [if_neg h2, if_neg (by omega)]
theorem Wrote.put {s : List TN} {af af1 : List Int} {a e : Nat} (h : Wrote s af (a + 1) e af1) (hae : a < e) (ha : a < s.length) (ht : taf s a = e) : Wrote s af a e (af1.set a (e : Int)) := by
 refine ⟨by rw [List.length_set];exact h.1, fun i hi => ?_⟩
 rw [List.getElem?_set]
 by_cases h1 : a = i
 ·subst h1
  rw [if_pos rfl, if_pos (by rw [h.1];exact ha), if_pos (by omega), ht]
 ·rw [if_neg h1, h.2 i hi]
  by_cases h2 : a + 1 ≤ i ∧ i < e
  ·rw [if_pos h2, if_pos (by omega)]
  ·rw [if_neg h2, if_neg (by omega)]
theorem badPart_iff (s : List TN) (hN : nodesOk s) (a n : Nat) (la : Int) (hn : n < s.length) (hla : (rd_T74 s a).f0 = 12 → 0 ≤ la ∧ la ≤ 1000) : badPart s a n la ↔ ¬ partOk s a n la := by
 have h := hN n hn
 unfold badPart partOk
 by_cases h12 : (rd_T74 s a).f0 = 12
 ·have h0 := hla h12
  rw [wrap_id (n := la + 1) (by omega) (by omega)]
  omega
 ·omega
theorem measure_parts (s : List TN) (hs : s.length ≤ 1000000000) (hN : nodesOk s) (d D a : Nat) (hd : d ≤ 100) (ha : a < s.length)
  (ih : ∀ (n : Nat) (af : List Int), af.length = s.length → ∃ af', Ev (fun k => impl_tree_measure.f k s n ((d + 1 : Nat) : Int) af) (ofT (taft s D n), af') ∧ af'.length = s.length ∧ ∀ e, taft s D n = some e → Wrote s af n e af') :
  ∀ (m n : Nat) (la i : Int) (af : List Int), n ≤ s.length → 0 ≤ i → ((rd_T74 s a).f4 - i).toNat = m → af.length = s.length → ((rd_T74 s a).f0 = 12 → 0 ≤ la ∧ la ≤ 1000) →
   ∃ af', Ev (fun k => impl_tree_measure.l0 k s a d af n la i) (ofT (tparts s (taft s D) a m n la), af') ∧ af'.length = s.length ∧ ∀ e, tparts s (taft s D) a m n la = some e → ∃ af1, Wrote s af n e af1 ∧ af' = af1.set a (e : Int) := by
 have hA := (hN a ha).2
 intro m
 induction m with
 | zero =>
  intro n la i af hn h0 hm hf hla
  refine ⟨af.set a (n : Int), Ev.step (f := fun _ => some ((n : Int), af.set a (n : Int))) (fun k => ?_) (Ev.now _), by rw [List.length_set];exact hf, fun e he => ?_⟩
  ·simp only [impl_tree_measure.l0]
   rw [if_neg (by omega), if_pos (by omega), Int.toNat_natCast]
  ·cases he;exact ⟨af, Wrote.refl s af n hf, rfl⟩
 | succ m ihm =>
  intro n la i af hn h0 hm hf hla
  rw [tparts_succ]
  by_cases hlt : n < s.length
  ·by_cases hp : partOk s a n la
   ·rw [if_pos ⟨hlt, hp⟩]
    obtain ⟨af1, hev, hl1, hw⟩ := ih n af hf
    have st : ∀ r, Ev (fun k => (impl_tree_measure.f k s n ((d + 1 : Nat) : Int) af).bind fun t => if t.1 < 0 then some (-1, t.2) else impl_tree_measure.l0 k s a d t.2 t.1 (rd_T74 s n).f1 (wrap64 (i + 1))) r → Ev (fun k => impl_tree_measure.l0 k s a d af n la i) r := by
     intro r h
     refine Ev.step (fun k => ?_) h
     simp only [impl_tree_measure.l0]
     rw [if_pos (by omega), if_neg (by omega), if_pos (by omega), if_neg (fun hb => (badPart_iff s hN a n la hlt hla).1 hb hp), wrap_id (n := (d : Int) + 1) (by omega) (by omega)];rfl
    cases hq : taft s D n with
    | none =>
     rw [hq] at hev
     refine ⟨af1, st _ (Ev.bind hev ?_), hl1, fun e he => by cases he⟩
     simp only [ofT, Option.bind_none, if_pos (show (-1 : Int) < 0 by decide)];exact Ev.now _
    | some n' =>
     have hl := taft_lt s D n n' hq
     rw [hq] at hev
     obtain ⟨af2, hev2, hl2, hw2⟩ := ihm n' (rd_T74 s n).f1 (i + 1) af1 hl.2 (by omega) (by omega) hl1 (fun h12 => by have h1 := hla h12;have h2 := hp.2 h12;omega)
     refine ⟨af2, st _ (Ev.bind hev ?_), hl2, fun e he => ?_⟩
     ·simp only [ofT, Option.bind_some, if_neg (show ¬ (n' : Int) < 0 by omega)]
      rw [wrap_id (n := i + 1) (by omega) (by omega)]
      exact hev2
     ·obtain ⟨af3, hw3, he3⟩ := hw2 e he
      have hge := tparts_ge s (taft s D) a (taft_lt s D) _ _ _ _ hl.2 he
      exact ⟨af3, (hw n' hq).join hw3 (by omega) hge.1, he3⟩
   ·rw [if_neg (fun h => hp h.2)]
    refine ⟨af, Ev.step (f := fun _ => some (-1, af)) (fun k => ?_) (Ev.now _), hf, fun e he => by cases he⟩
    simp only [impl_tree_measure.l0]
    rw [if_pos (by omega), if_neg (by omega), if_pos (by omega), if_pos ((badPart_iff s hN a n la hlt hla).2 hp)]
  ·rw [if_neg (fun h => hlt h.1)]
   refine ⟨af, Ev.step (f := fun _ => some (-1, af)) (fun k => ?_) (Ev.now _), hf, fun e he => by cases he⟩
   simp only [impl_tree_measure.l0]
   rw [if_pos (by omega), if_pos (by omega)]
theorem measure_ev (s : List TN) (hs : s.length ≤ 1000000000) (hN : nodesOk s) : ∀ (D d a : Nat) (af : List Int), d + D = 13 → 1 ≤ d → af.length = s.length →
  ∃ af', Ev (fun k => impl_tree_measure.f k s a d af) (ofT (taft s D a), af') ∧ af'.length = s.length ∧ ∀ e, taft s D a = some e → Wrote s af a e af' := by
 intro D
 induction D with
 | zero =>
  intro d a af hd h1 hf
  refine ⟨af, Ev.step (f := fun _ => some (-1, af)) (fun k => ?_) (Ev.now _), hf, fun e he => by cases he⟩
  simp only [impl_tree_measure.f]
  by_cases h : (a : Int) ≥ s.length
  ·rw [if_pos h]
  ·rw [if_neg h, if_pos (by omega)]
 | succ D ih =>
  intro d a af hd h1 hf
  by_cases hlt : a < s.length
  ·by_cases hk : nok s a
   ·obtain ⟨af', hev, hl, hw⟩ := measure_parts s hs hN d D a (by omega) hlt (fun n af hf => ih (d + 1) n af (by omega) (by omega) hf) (rd_T74 s a).f4.toNat (a + 1) 0 0 af (by omega) (by omega) (by simp) hf (fun _ => by omega)
    have e := taft_succ s D a
    rw [if_pos ⟨hlt, hk⟩] at e
    refine ⟨af', ?_, hl, fun e' he' => ?_⟩
    ·rw [e]
     refine ev_succ' (Ev.step (fun k => ?_) (ev_shift hev))
     simp only [impl_tree_measure.f]
     rw [if_neg (by omega), if_neg (by omega), if_pos (by omega), impl_nodeOk_at, decide_eq_true (show nodeIs _ _ _ _ from hk)]
     simp only [Option.bind_some, if_true]
     rw [wrap_id (n := (a : Int) + 1) (by omega) (by omega)];push_cast;rfl
    ·have hlt' := taft_lt s (D + 1) a e' he'
     have hm := taft_mono s (D + 1) 12 (by omega) a e' he'
     rw [e] at he'
     obtain ⟨af1, hw1, rfl⟩ := hw e' he'
     exact hw1.put hlt'.1 hlt (by unfold taf;rw [hm];rfl)
   ·refine ⟨af, ?_, hf, fun e he => by rw [taft_succ, if_neg (fun h => hk h.2)] at he;cases he⟩
    rw [taft_succ, if_neg (fun h => hk h.2)]
    refine ev_succ' (Ev.step (f := fun _ => some (-1, af)) (fun k => ?_) (Ev.now _))
    simp only [impl_tree_measure.f]
    rw [if_neg (by omega), if_neg (by omega), if_pos (by omega), impl_nodeOk_at, decide_eq_false (show ¬ nodeIs _ _ _ _ from hk)]
    rfl
  ·refine ⟨af, ?_, hf, fun e he => by rw [taft_succ, if_neg (fun h => hlt h.1)] at he;cases he⟩
   rw [taft_succ, if_neg (fun h => hlt h.1)]
   refine Ev.step (f := fun _ => some (-1, af)) (fun k => ?_) (Ev.now _)
   simp only [impl_tree_measure.f]
   rw [if_pos (by omega)]
theorem treeOf_ev (s : List TN) (hs : s.length ≤ 1000000000) (hN : nodesOk s) : ∃ af, Ev (fun k => impl_treeOf.f k s) (decide (tok s), af) ∧ (tok s → Wrote s [] 0 s.length af) := by
 by_cases h1 : 1 ≤ s.length ∧ s.length ≤ 1500
 ·by_cases h7 : (rd_T74 s 0).f0 = 12
  ·by_cases h0 : (rd_T74 s 0).f1 = 0
   ·obtain ⟨af, hev, hl, hw⟩ := measure_ev s hs hN 12 1 0 (List.replicate s.length 0) (by omega) (by omega) (by simp)
    by_cases ha : taft s 12 0 = some s.length
    ·refine ⟨af, ?_, fun _ => ?_⟩
     ·unfold impl_treeOf.f
      simp only [if_pos h1, if_pos h7, if_pos h0]
      refine Ev.bind hev ?_
      simp only [ha, ofT, if_true]
      rw [decide_eq_true (show tok s from ⟨h1, ⟨h7, h0⟩, ha⟩)];exact Ev.now _
     ·have h := hw _ ha
      exact ⟨h.1, fun i hi => by rw [h.2 i hi, if_pos (by omega), if_pos (by omega)]⟩
    ·refine ⟨[], ?_, fun h => absurd h.2.2 ha⟩
     unfold impl_treeOf.f
     simp only [if_pos h1, if_pos h7, if_pos h0]
     refine Ev.bind hev ?_
     have hne : ¬ ofT (taft s 12 0) = (s.length : Int) := by
      intro he
      cases hq : taft s 12 0 with
      | none => rw [hq] at he;simp only [ofT] at he;omega
      | some n => rw [hq] at he ha;simp only [ofT] at he;exact ha (congrArg some (by omega))
     simp only [if_neg hne]
     rw [decide_eq_false (fun h => ha h.2.2)];exact Ev.now _
   ·refine ⟨[], ?_, fun h => absurd h.2.1.2 h0⟩
    unfold impl_treeOf.f
    simp only [if_pos h1, if_pos h7, if_neg h0]
    rw [decide_eq_false (fun h => h0 h.2.1.2)];exact Ev.now _
  ·refine ⟨[], ?_, fun h => absurd h.2.1.1 h7⟩
   unfold impl_treeOf.f
   simp only [if_pos h1, if_neg h7]
   rw [decide_eq_false (fun h => h7 h.2.1.1)];exact Ev.now _
 ·refine ⟨[], ?_, fun h => absurd h.1 h1⟩
  unfold impl_treeOf.f
  simp only [if_neg h1]
  rw [decide_eq_false (fun h => h1 h.1)];exact Ev.now _

theorem l4Check_bad (s : List TN) (a n d : Nat) (la i : Int) (hn : n < s.length) (k : Nat) :
  (if (rd_T74 s a).f0 = 9 then (if (rd_T74 s n).f0 = (rd_T74 s a).f2 then (if (rd_T74 s n).f1 = 0 then (if (rd_T74 s a).f0 = 12 then (if (rd_T74 s n).f1 ≤ la then true else decide ((rd_T74 s n).f1 > 1000)) else false) else true) else true) else (if (rd_T74 s a).f0 = 12 then (if (rd_T74 s n).f1 ≤ la then true else decide ((rd_T74 s n).f1 > 1000)) else false)) = !decide (partOk s a n la) := by
 by_cases hp : partOk s a n la
 ·rw [decide_eq_true hp]
  unfold partOk at hp
  repeat' split
  all_goals first|rfl|(exfalso;omega)|(show _ = false;rw [decide_eq_false_iff_not];omega)
 ·rw [decide_eq_false hp]
  unfold partOk at hp
  repeat' split
  all_goals first|rfl|(exfalso;omega)|(show _ = true;rw [decide_eq_true_iff];omega)
theorem l4Check_parts (s : List TN) (hs : s.length ≤ 1000000000) (hN : nodesOk s) (d D a : Nat) (hd : d ≤ 100) (ha : a < s.length) (ih : ∀ n : Nat, Ev (fun k => spec_l4Check.f k s n ((d + 1 : Nat) : Int)) (ofT (taft s D n))) :
  ∀ (m n : Nat) (la i : Int), n ≤ s.length → 0 ≤ i → ((rd_T74 s a).f4 - i).toNat = m → Ev (fun k => spec_l4Check.l0 k s d n la i (rd_T74 s a).f0 (rd_T74 s a).f1 (rd_T74 s a).f2 (rd_T74 s a).f3 (rd_T74 s a).f4) (ofT (tparts s (taft s D) a m n la)) := by
 have hA := (hN a ha).2
 intro m
 induction m with
 | zero =>
  intro n la i hn h0 hm
  refine Ev.step (f := fun _ => some (n : Int)) (fun k => ?_) (Ev.now _)
  simp only [spec_l4Check.l0]
  rw [if_neg (by omega)]
 | succ m ihm =>
  intro n la i hn h0 hm
  rw [tparts_succ]
  by_cases hlt : n < s.length
  ·refine Ev.step (f := fun k => spec_l4Check.j2 k s d n i (!decide (partOk s a n la)) (rd_T74 s a).f0 (rd_T74 s a).f1 (rd_T74 s a).f2 (rd_T74 s a).f3 (rd_T74 s a).f4 (rd_T74 s n).f0 (rd_T74 s n).f1 (rd_T74 s n).f2 (rd_T74 s n).f3 (rd_T74 s n).f4) (fun k => ?_) ?_
   ·simp only [spec_l4Check.l0]
    rw [if_pos (by omega), if_neg (by omega), if_pos (by omega), if_pos (by omega), ← l4Check_bad s a n d la i hlt k]
    repeat' split
    all_goals rfl
   by_cases hp : partOk s a n la
   ·rw [if_pos ⟨hlt, hp⟩, decide_eq_true hp]
    refine Ev.step (f := fun k => (spec_l4Check.f k s n ((d + 1 : Nat) : Int)).bind fun t => (if t < 0 then (some (-1)) else (spec_l4Check.l0 k s d t (rd_T74 s n).f1 (wrap64 (i + 1)) (rd_T74 s a).f0 (rd_T74 s a).f1 (rd_T74 s a).f2 (rd_T74 s a).f3 (rd_T74 s a).f4))) (fun k => ?_) ?_
    ·simp only [spec_l4Check.j2]
     rw [if_neg (by simp), wrap_id (n := (d : Int) + 1) (by omega) (by omega)];rfl
    refine Ev.bind (ih n) ?_
    cases hq : taft s D n with
    | none =>
     simp only [ofT, Option.bind_none, if_pos (show (-1 : Int) < 0 by decide)];exact Ev.now _
    | some n' =>
     have hl := taft_lt s D n n' hq
     simp only [ofT, Option.bind_some, if_neg (show ¬ (n' : Int) < 0 by omega)]
     rw [wrap_id (n := i + 1) (by omega) (by omega)]
     exact ihm n' _ (i + 1) hl.2 (by omega) (by omega)
   ·rw [if_neg (fun h => hp h.2), decide_eq_false hp]
    refine Ev.step (f := fun _ => some (-1)) (fun k => ?_) (Ev.now _)
    simp only [spec_l4Check.j2]
    rw [if_pos (by simp)]
  ·rw [if_neg (fun h => hlt h.1)]
   refine Ev.step (f := fun _ => some (-1)) (fun k => ?_) (Ev.now _)
   simp only [spec_l4Check.l0]
   rw [if_pos (by omega), if_pos (by omega)]
theorem spec_l4Check_ev (s : List TN) (hs : s.length ≤ 1000000000) (hN : nodesOk s) : ∀ (D d a : Nat), d + D = 13 → Ev (fun k => spec_l4Check.f k s a d) (ofT (taft s D a)) := by
 have bad : ∀ (a d : Nat), Ev (fun k => spec_l4Check.j0 k s a d true) (-1) := fun a d => Ev.step (f := fun _ => some (-1)) (fun k => by simp only [spec_l4Check.j0];rw [if_pos trivial]) (Ev.now _)
 intro D
 induction D with
 | zero =>
  intro d a hd
  refine Ev.step (fun k => ?_) (bad a d)
  simp only [spec_l4Check.f]
  by_cases h : (a : Int) ≥ s.length
  ·rw [if_pos h]
  ·rw [if_neg h, if_pos (by omega)]
 | succ D ih =>
  intro d a hd
  rw [taft_succ]
  by_cases hlt : a < s.length
  ·refine Ev.step (f := fun k => (spec_l4Plain.f k (rd_T74 s a).f0 (rd_T74 s a).f1 (rd_T74 s a).f2 (rd_T74 s a).f3 (rd_T74 s a).f4).bind fun t => spec_l4Check.j0 k s a d (!t)) (fun k => ?_) ?_
   ·simp only [spec_l4Check.f]
    rw [if_neg (by omega), if_neg (by omega), if_pos (by omega), if_pos (by omega)]
   refine Ev.bind (spec_l4Plain_ev _ _ _ _ _) ?_
   by_cases hk : nok s a
   ·rw [if_pos ⟨hlt, hk⟩, decide_eq_true (show nodeIs _ _ _ _ from hk)]
    refine Ev.step (fun k => ?_) (l4Check_parts s hs hN d D a (by omega) hlt (fun n => ih (d + 1) n (by omega)) (rd_T74 s a).f4.toNat (a + 1) 0 0 (by omega) (by omega) (by simp))
    simp only [spec_l4Check.j0]
    rw [if_neg (by simp), if_pos (by omega), if_pos (by omega), wrap_id (n := (a : Int) + 1) (by omega) (by omega)];push_cast;rfl
   ·rw [if_neg (fun h => hk h.2), decide_eq_false (show ¬ nodeIs _ _ _ _ from hk)]
    exact bad a d
  ·rw [if_neg (fun h => hlt h.1)]
   refine Ev.step (fun k => ?_) (bad a d)
   simp only [spec_l4Check.f]
   rw [if_pos (by omega)]
theorem spec_TreeOk_ev (s : List TN) (hs : s.length ≤ 1000000000) (hN : nodesOk s) : Ev (fun k => spec_TreeOk.f k s) (decide (tok s)) := by
 unfold spec_TreeOk.f
 simp only [spec_l1In_ev, Option.bind_some]
 by_cases h1 : 1 ≤ s.length ∧ s.length ≤ 1500
 ·simp only [decide_eq_true (show (1 : Int) ≤ s.length ∧ (s.length : Int) ≤ 1500 by omega), if_true, if_pos (show (0 : Int) < s.length by omega)]
  by_cases h7 : (rd_T74 s 0).f0 = 12
  ·by_cases h0 : (rd_T74 s 0).f1 = 0
   ·simp only [if_pos h7, if_pos h0]
    refine Ev.bind (spec_l4Check_ev s hs hN 12 1 0 (by omega)) ?_
    have e : (ofT (taft s 12 0) == (s.length : Int)) = decide (tok s) := by
     by_cases ha : taft s 12 0 = some s.length
     ·rw [decide_eq_true (show tok s from ⟨h1, ⟨h7, h0⟩, ha⟩), ha];simp [ofT]
     ·rw [decide_eq_false (fun h => ha h.2.2), beq_eq_false_iff_ne]
      intro he
      cases hq : taft s 12 0 with
      | none => rw [hq] at he;simp only [ofT] at he;omega
      | some n => rw [hq] at he ha;simp only [ofT] at he;exact ha (congrArg some (by omega))
    rw [e];exact Ev.now _
   ·simp only [if_pos h7, if_neg h0]
    rw [decide_eq_false (fun h => h0 h.2.1.2)];exact Ev.now _
  ·simp only [if_neg h7]
   rw [decide_eq_false (fun h => h7 h.2.1.1)];exact Ev.now _
 ·simp only [decide_eq_false (show ¬ ((1 : Int) ≤ s.length ∧ (s.length : Int) ≤ 1500) by omega), Bool.false_eq_true, if_false]
  rw [decide_eq_false (fun h => h1 h.1)];exact Ev.now _

theorem impl_UvarPut_l (j : Nat) : ∀ (n : Nat) (acc : List Int), n < 18446744073709551616 → n < 128 ^ (j + 1) → acc.length + j ≤ 100000000000 →
  Ev (fun k => impl_UvarPut.l0 k n acc) (acc ++ uvb n) := by
 have last : ∀ (n : Nat) (acc : List Int), n < 128 → acc.length ≤ 100000000000 → Ev (fun k => impl_UvarPut.l0 k n acc) (acc ++ uvb n) := by
  intro n acc hs hl
  refine Ev.step (f := fun _ => some (acc ++ uvb n)) (fun k => ?_) (Ev.now _)
  simp only [impl_UvarPut.l0]
  rw [uvb, if_pos hs, if_neg (by omega), if_pos (by omega)]
  congr 3;omega
 induction j with
 | zero => intro n acc h hx hl;exact last n acc (by simpa using hx) (by omega)
 | succ j ih =>
  intro n acc h hx hl
  by_cases hs : n < 128
  ·exact last n acc hs (by omega)
  ·have hd : n / 128 < 128 ^ (j + 1) := by rw [Nat.div_lt_iff_lt_mul (by decide)];rw [Nat.pow_succ] at hx;exact hx
   have h := ih (n / 128) (acc ++ [((n % 128 + 128 : Nat) : Int)]) (by omega) hd (by simp;omega)
   rw [List.append_assoc, List.singleton_append] at h
   rw [uvb, if_neg hs]
   refine Ev.step (fun k => ?_) h
   simp only [impl_UvarPut.l0]
   rw [if_pos (by omega), if_pos (by omega)]
   have e2 : (Go.bits .or .u64 (Go.bits .and .u64 (n : Int) 127) 128) % 256 = ((n % 128 + 128 : Nat) : Int) := by
    rw [and127u _ (by omega) (by omega), show (128 : Int) = 1 * 2 ^ 7 by rfl, or_addu _ 1 7 (by omega) (by omega) (by omega) (by omega)];omega
   rw [e2];congr 1
theorem impl_UvarPut_ev (x : Int) : Ev (fun k => impl_UvarPut.f k x) (uvb (ux x)) := by
 have h := impl_UvarPut_l 9 (ux x) [] (ux_lt x) (Nat.lt_of_lt_of_le (ux_lt x) (by decide)) (by simp)
 unfold impl_UvarPut.f
 rw [uwrap, show x % 18446744073709551616 = (ux x : Int) by unfold ux;omega]
 simpa using h

theorem impl_Zig_ev (a : Int) (h0 : -9223372036854775808 ≤ a) (h1 : a < 9223372036854775808) : impl_Zig.f a = some (zig a) := by
 unfold impl_Zig.f zig
 by_cases hn : a < 0
 ·rw [if_pos hn, show a / 9223372036854775808 = -1 by omega, xor_m1];congr 1;unfold wrap64;omega
 ·rw [if_neg hn, show a / 9223372036854775808 = 0 by omega, xor_zero];congr 1;unfold wrap64;omega

theorem impl_ZigPut_ev (x : Int) (h0 : -9223372036854775808 ≤ x) (h1 : x < 9223372036854775808) : Ev (fun k => impl_ZigPut.f k x) (uvb (ux (zig x))) := by
 unfold impl_ZigPut.f
 simp only [impl_Zig_ev x h0 h1, Option.bind_some]
 refine Ev.bind (impl_UvarPut_ev _) ?_
 exact Ev.now _

theorem spec_l2Down7 (a : Int) : spec_l2Down.f a 7 = some (a / 128 % 144115188075855872) := by
 unfold spec_l2Down.f
 rw [if_neg (by decide), if_pos (by decide), if_pos (by unfold wrap64;omega)]
 rw [shr64 _ _ (by decide) (by decide), show (wrap64 (64 - 7)) = 57 by unfold wrap64;omega, shl64 _ _ (by decide) (by decide)]
 rw [show wrap64 (wrap64 (1 * 2 ^ (57 : Int).toNat) - 1) = 2 ^ 57 - 1 by decide +kernel, and_mask _ 57 (by decide)]
 rfl

theorem spec_UvarPut_l (j : Nat) : ∀ (x : Int) (acc : List Int), -9223372036854775808 ≤ x → x < 9223372036854775808 → ux x < 128 ^ (j + 1) → acc.length + j ≤ 100000000000 →
  Ev (fun k => spec_UvarPut.l0 k x acc) (acc ++ uvb (ux x)) := by
 induction j with
 | zero =>
  intro x acc h0 h1 hx hl
  have hx' : ux x < 128 := by simpa using hx
  refine Ev.step (f := fun _ => some (acc ++ uvb (ux x))) (fun k => ?_) (Ev.now _)
  simp only [spec_UvarPut.l0, spec_l2Down7, Option.bind_some]
  rw [uvb, if_pos hx']
  unfold ux at hx' ⊢
  rw [if_pos (by omega), if_pos (by omega)]
  congr 3;omega
 | succ j ih =>
  intro x acc h0 h1 hx hl
  by_cases hs : ux x < 128
  ·refine Ev.step (f := fun _ => some (acc ++ uvb (ux x))) (fun k => ?_) (Ev.now _)
   simp only [spec_UvarPut.l0, spec_l2Down7, Option.bind_some]
   rw [uvb, if_pos hs]
   unfold ux at hs ⊢
   rw [if_pos (by omega), if_pos (by omega)]
   congr 3;omega
  ·have e : ux (x / 128 % 144115188075855872) = ux x / 128 := by unfold ux;omega
   have hd : ux x / 128 < 128 ^ (j + 1) := by rw [Nat.div_lt_iff_lt_mul (by decide)];rw [Nat.pow_succ] at hx;exact hx
   have h := ih (x / 128 % 144115188075855872) (acc ++ [((ux x % 128 + 128 : Nat) : Int)]) (by omega) (by omega) (by rw [e];exact hd) (by simp;omega)
   rw [e, List.append_assoc, List.singleton_append] at h
   rw [uvb, if_neg hs]
   refine Ev.step (fun k => ?_) h
   simp only [spec_UvarPut.l0, spec_l2Down7, Option.bind_some]
   unfold ux at hs
   rw [if_neg (by omega), if_pos (by omega)]
   have e2 : (wrap64 (Go.bits .and .i64 x 127 + 128)) % 256 = ((ux x % 128 + 128 : Nat) : Int) := by
    rw [show Go.bits .and .i64 x 127 = x % 128 from and_mask x 7 (by decide), wrap_id (by omega) (by omega)];unfold ux;omega
   rw [e2]
theorem spec_UvarPut_ev (x : Int) (h0 : -9223372036854775808 ≤ x) (h1 : x < 9223372036854775808) : Ev (fun k => spec_UvarPut.f k x) (uvb (ux x)) := by
 have h := spec_UvarPut_l 9 x [] h0 h1 (Nat.lt_of_lt_of_le (ux_lt x) (by decide)) (by simp)
 simpa [spec_UvarPut.f] using h

theorem spec_Zig_ev (a : Int) (h0 : -9223372036854775808 ≤ a) (h1 : a < 9223372036854775808) : spec_Zig.f a = some (zig a) := by
 unfold spec_Zig.f zig
 by_cases hn : a < 0
 ·rw [if_pos hn, if_pos hn, xor_comm, xor_m1];congr 1;unfold wrap64;omega
 ·rw [if_neg hn, if_neg hn];congr 1;rw [Int.mul_comm]

theorem spec_ZigPut_ev (x : Int) (h0 : -9223372036854775808 ≤ x) (h1 : x < 9223372036854775808) : Ev (fun k => spec_ZigPut.f k x) (uvb (ux (zig x))) := by
 unfold spec_ZigPut.f
 simp only [spec_Zig_ev x h0 h1, Option.bind_some]
 have hr : -9223372036854775808 ≤ zig x ∧ zig x < 9223372036854775808 := wrap_rng _
 refine Ev.bind (spec_UvarPut_ev _ hr.1 hr.2) ?_
 exact Ev.now _

def thd (id la t : Int) : List Int := if wrap64 (id - la) ≤ 15 then [(wrap64 ((wrap64 (16 * (wrap64 (id - la)))) + t)) % 256] else [t % 256] ++ uvb (ux (zig id))
def tlh (num many : Int) : List Int := if many ≤ 14 then [(wrap64 ((wrap64 (16 * many)) + num)) % 256] else [(wrap64 (240 + num)) % 256] ++ uvb (ux many)
def pbs (s : List TN) (g : Nat → List Int) (st : Bool) : Nat → Nat → Int → List Int
 | 0, _, _ => []
 | m + 1, n, la => (if st = true then thd (rd_T74 s n).f1 la (rd_T74 s n).f0 else []) ++ g n ++ pbs s g st m (taf s n) (rd_T74 s n).f1
def tbs (s : List TN) : Nat → Nat → List Int
 | 0, _ => []
 | D + 1, a => if (rd_T74 s a).f0 = 5 ∨ (rd_T74 s a).f0 = 6 then uvb (ux (zig (rd_T74 s a).f2)) else if (rd_T74 s a).f0 = 8 then uvb (ux ((rd_T74 s a).f3.size : Int)) ++ bytesOf (rd_T74 s a).f3 else if (rd_T74 s a).f0 = 9 then tlh (rd_T74 s a).f2 (rd_T74 s a).f4 ++ pbs s (tbs s D) false (rd_T74 s a).f4.toNat (a + 1) 0 else if (rd_T74 s a).f0 = 12 then pbs s (tbs s D) true (rd_T74 s a).f4.toNat (a + 1) 0 ++ [0] else []
theorem tbs_succ (s : List TN) (D a : Nat) : tbs s (D + 1) a = if (rd_T74 s a).f0 = 5 ∨ (rd_T74 s a).f0 = 6 then uvb (ux (zig (rd_T74 s a).f2)) else if (rd_T74 s a).f0 = 8 then uvb (ux ((rd_T74 s a).f3.size : Int)) ++ bytesOf (rd_T74 s a).f3 else if (rd_T74 s a).f0 = 9 then tlh (rd_T74 s a).f2 (rd_T74 s a).f4 ++ pbs s (tbs s D) false (rd_T74 s a).f4.toNat (a + 1) 0 else if (rd_T74 s a).f0 = 12 then pbs s (tbs s D) true (rd_T74 s a).f4.toNat (a + 1) 0 ++ [0] else [] := rfl
theorem pbs_succ (s : List TN) (g : Nat → List Int) (st : Bool) (m n : Nat) (la : Int) : pbs s g st (m + 1) n la = (if st = true then thd (rd_T74 s n).f1 la (rd_T74 s n).f0 else []) ++ g n ++ pbs s g st m (taf s n) (rd_T74 s n).f1 := rfl
theorem thd_len (id la t : Int) : (thd id la t).length ≤ 11 := by
 have h := uvb_len10 (ux (zig id)) (ux_lt _)
 unfold thd;split
 ·simp
 ·simp;omega
theorem tlh_len (num many : Int) : (tlh num many).length ≤ 11 := by
 have h := uvb_len10 (ux many) (ux_lt _)
 unfold tlh;split
 ·simp
 ·simp;omega
theorem pbs_len (s : List TN) (D : Nat) (hD : D ≤ 12) (a : Nat) (st : Bool) (ih : ∀ n e, taft s D n = some e → (tbs s D n).length + 20 ≤ 400 * (e - n)) : ∀ (m n : Nat) (la : Int) (e : Nat), n ≤ s.length → tparts s (taft s D) a m n la = some e → (pbs s (tbs s D) st m n la).length ≤ 400 * (e - n) := by
 intro m
 induction m with
 | zero => intro n la e hn h;simp [pbs]
 | succ m ihm =>
  intro n la e hn h
  rw [tparts_succ] at h
  split at h
  ·cases hq : taft s D n with
   | none => rw [hq] at h;cases h
   | some n' =>
    rw [hq] at h
    have hl := taft_lt s D n n' hq
    have e1 : taf s n = n' := by unfold taf;rw [taft_mono s D 12 hD n n' hq];rfl
    have h1 := ihm n' _ e hl.2 h
    have h2 := ih n n' hq
    have h3 := thd_len (rd_T74 s n).f1 la (rd_T74 s n).f0
    have hge := tparts_ge s (taft s D) a (taft_lt s D) _ _ _ _ hl.2 h
    rw [pbs_succ, e1]
    cases st
    ·simp;omega
    ·simp;omega
  ·cases h
theorem tbs_len (s : List TN) : ∀ (D : Nat), D ≤ 12 → ∀ (a e : Nat), taft s D a = some e → (tbs s D a).length + 20 ≤ 400 * (e - a) := by
 intro D
 induction D with
 | zero => intro _ a e h;cases h
 | succ D ih =>
  intro hD a e h
  have hlt := taft_lt s (D + 1) a e h
  rw [taft_succ] at h
  split at h
  ·rename_i hc
   have hn : nodeIs _ _ _ _ := hc.2
   have hp := fun st => pbs_len s D (by omega) a st (ih (by omega)) _ _ _ _ (by omega) h
   rw [tbs_succ]
   split
   ·have := uvb_len10 (ux (zig (rd_T74 s a).f2)) (ux_lt _);omega
   ·split
    ·rename_i h8
     have h1 := uvb_len10 (ux ((rd_T74 s a).f3.size : Int)) (ux_lt _)
     have h2 : ((rd_T74 s a).f3.size : Int) ≤ 300 := by
      unfold nodeIs at hn;omega
     rw [List.length_append, bytesOf_length];omega
    ·split
     ·have h1 := tlh_len (rd_T74 s a).f2 (rd_T74 s a).f4
      have h2 := hp false
      rw [List.length_append];omega
     ·split
      ·have h2 := hp true
       simp;omega
      ·simp;omega
  ·cases h

theorem ev_if {α : Type} {c : Prop} [Decidable c] {g f : Nat → Option α} {R : α} (hc : c) (h : Ev g R) : Ev (fun k => if c then g k else f k) R := by
 simp only [if_pos hc];exact h

theorem l4Pack_list (s : List TN) (hs : s.length ≤ 1500) (hN : nodesOk s) (D : Nat) (hD : D ≤ 11) (a : Nat) (ha : a < s.length) (ih : ∀ n e, taft s D n = some e → Ev (fun k => spec_l4Pack.f k s n) (tbs s D n, (e : Int))) (f0 f1 f2 many : Int) (f3 : ByteArray) (h9 : many < 9223372036854775808) :
  ∀ (m n : Nat) (la i : Int) (acc : List Int) (e : Nat), n ≤ s.length → 0 ≤ i → (many - i).toNat = m → acc.length + 400 * (e - n) ≤ 1000000 → tparts s (taft s D) a m n la = some e → Ev (fun k => spec_l4Pack.l0 k s n acc i f0 f1 f2 f3 many) (acc ++ pbs s (tbs s D) false m n la, (e : Int)) := by
 intro m
 induction m with
 | zero =>
  intro n la i acc e hn h0 hm hl h
  cases h
  refine Ev.step (f := fun _ => some (acc, (n : Int))) (fun k => ?_) ?_
  ·simp only [spec_l4Pack.l0]
   rw [if_neg (by omega)]
  ·simp only [pbs, List.append_nil];exact Ev.now _
 | succ m ihm =>
  intro n la i acc e hn h0 hm hl h
  rw [tparts_succ] at h
  split at h
  ·rename_i hc
   cases hq : taft s D n with
   | none => rw [hq] at h;cases h
   | some n' =>
    rw [hq] at h
    have hlt := taft_lt s D n n' hq
    have e1 : taf s n = n' := by unfold taf;rw [taft_mono s D 12 (by omega) n n' hq];rfl
    have h2 := tbs_len s D (by omega) n n' hq
    have hge := tparts_ge s (taft s D) a (taft_lt s D) _ _ _ _ hlt.2 h
    refine Ev.step (f := fun k => (spec_l4Pack.f k s n).bind fun bt => (if acc.length + bt.1.length < 140737488355328 then (spec_l4Pack.l0 k s bt.2 (acc ++ bt.1) (wrap64 (i + 1)) f0 f1 f2 f3 many) else none)) (fun k => ?_) ?_
    ·simp only [spec_l4Pack.l0]
     rw [if_pos (by omega)]
    refine Ev.bind (ih n n' hq) ?_
    refine ev_if (by show acc.length + (tbs s D n).length < _;omega) ?_
    rw [wrap_id (n := i + 1) (by omega) (by omega), pbs_succ, e1]
    simp only [Bool.false_eq_true, if_false, List.nil_append]
    rw [← List.append_assoc]
    exact ihm n' _ (i + 1) (acc ++ tbs s D n) e hlt.2 (by omega) (by omega) (by rw [List.length_append];omega) h
  ·cases h
theorem l4Pack_struct (s : List TN) (hs : s.length ≤ 1500) (hN : nodesOk s) (D : Nat) (hD : D ≤ 11) (a : Nat) (ha : a < s.length) (ih : ∀ n e, taft s D n = some e → Ev (fun k => spec_l4Pack.f k s n) (tbs s D n, (e : Int))) (f0 f1 f2 many : Int) (f3 : ByteArray) (h9 : many < 9223372036854775808) :
  ∀ (m n : Nat) (la i : Int) (acc : List Int) (e : Nat), n ≤ s.length → 0 ≤ i → (many - i).toNat = m → acc.length + 400 * (e - n) ≤ 1000000 → tparts s (taft s D) a m n la = some e → Ev (fun k => spec_l4Pack.l1 k s n acc la i f0 f1 f2 f3 many) (acc ++ (pbs s (tbs s D) true m n la ++ [0]), (e : Int)) := by
 intro m
 induction m with
 | zero =>
  intro n la i acc e hn h0 hm hl h
  cases h
  refine Ev.step (f := fun _ => if acc.length < 140737488355328 then some (acc ++ [0], (n : Int)) else none) (fun k => ?_) ?_
  ·simp only [spec_l4Pack.l1]
   rw [if_neg (by omega)]
  ·refine ev_if (by omega) ?_
   simp only [pbs, List.nil_append];exact Ev.now _
 | succ m ihm =>
  intro n la i acc e hn h0 hm hl h
  rw [tparts_succ] at h
  split at h
  ·rename_i hc
   cases hq : taft s D n with
   | none => rw [hq] at h;cases h
   | some n' =>
    rw [hq] at h
    have hlt := taft_lt s D n n' hq
    have e1 : taf s n = n' := by unfold taf;rw [taft_mono s D 12 (by omega) n n' hq];rfl
    have h2 := tbs_len s D (by omega) n n' hq
    have hge := tparts_ge s (taft s D) a (taft_lt s D) _ _ _ _ hlt.2 h
    have hNn := (hN n hc.1).2
    have hth := thd_len (rd_T74 s n).f1 la (rd_T74 s n).f0
    have tail : ∀ y : List Int, y = acc ++ thd (rd_T74 s n).f1 la (rd_T74 s n).f0 → Ev (fun k => (spec_l4Pack.f k s n).bind fun bt => (if y.length + bt.1.length < 140737488355328 then (spec_l4Pack.l1 k s bt.2 (y ++ bt.1) (rd_T74 s n).f1 (wrap64 (i + 1)) f0 f1 f2 f3 many) else none)) (acc ++ (pbs s (tbs s D) true (m + 1) n la ++ [0]), (e : Int)) := by
     intro y hy
     have hyl : y.length ≤ acc.length + 11 := by rw [hy, List.length_append];omega
     refine Ev.bind (ih n n' hq) ?_
     refine ev_if (by show y.length + (tbs s D n).length < _;omega) ?_
     rw [wrap_id (n := i + 1) (by omega) (by omega), pbs_succ, e1]
     have hr := ihm n' (rd_T74 s n).f1 (i + 1) (y ++ tbs s D n) e hlt.2 (by omega) (by omega) (by rw [List.length_append];omega) h
     rw [hy] at hr ⊢
     simpa [List.append_assoc] using hr
    by_cases hw : wrap64 ((rd_T74 s n).f1 - la) ≤ 15
    ·refine Ev.step (f := fun k => if acc.length < 140737488355328 then ((some (acc ++ [(wrap64 ((wrap64 (16 * (wrap64 ((rd_T74 s n).f1 - la)))) + (rd_T74 s n).f0)) % 256] : List Int)).bind fun y => ((spec_l4Pack.f k s n).bind fun bt => (if y.length + bt.1.length < 140737488355328 then (spec_l4Pack.l1 k s bt.2 (y ++ bt.1) (rd_T74 s n).f1 (wrap64 (i + 1)) f0 f1 f2 f3 many) else none))) else none) (fun k => ?_) ?_
     ·simp only [spec_l4Pack.l1]
      rw [if_pos (by omega), if_pos (by omega), if_pos (by omega), if_pos hw]
     ·refine ev_if (by omega) ?_
      refine Ev.bind (Ev.now _) ?_
      exact tail _ (by unfold thd;rw [if_pos hw])
    ·refine Ev.step (f := fun k => if acc.length < 140737488355328 then ((some (acc ++ [(rd_T74 s n).f0 % 256] : List Int)).bind fun z => ((spec_ZigPut.f k (rd_T74 s n).f1).bind fun t => (if z.length + t.length < 140737488355328 then ((some (z ++ t : List Int)).bind fun y => ((spec_l4Pack.f k s n).bind fun bt => (if y.length + bt.1.length < 140737488355328 then (spec_l4Pack.l1 k s bt.2 (y ++ bt.1) (rd_T74 s n).f1 (wrap64 (i + 1)) f0 f1 f2 f3 many) else none))) else none))) else none) (fun k => ?_) ?_
     ·simp only [spec_l4Pack.l1]
      rw [if_pos (by omega), if_pos (by omega), if_pos (by omega), if_neg hw]
     ·refine ev_if (by omega) ?_
      refine Ev.bind (Ev.now _) ?_
      refine Ev.bind (spec_ZigPut_ev _ hNn.1.1 hNn.1.2) ?_
      have hu := uvb_len10 (ux (zig (rd_T74 s n).f1)) (ux_lt _)
      refine ev_if (by simp;omega) ?_
      refine Ev.bind (Ev.now _) ?_
      exact tail _ (by unfold thd;rw [if_neg hw, List.append_assoc])
  ·cases h
theorem spec_l4Pack_ev (s : List TN) (hs : s.length ≤ 1500) (hN : nodesOk s) : ∀ (D : Nat), D ≤ 12 → ∀ (a e : Nat), taft s D a = some e → Ev (fun k => spec_l4Pack.f k s a) (tbs s D a, (e : Int)) := by
 intro D
 induction D with
 | zero => intro _ a e h;cases h
 | succ D ih =>
  intro hD a e h
  have hlt := taft_lt s (D + 1) a e h
  rw [taft_succ] at h
  split at h
  ·rename_i hc
   have hn : nodeIs _ _ _ _ := hc.2
   have hA := (hN a hc.1).2
   have hX := (hN a hc.1).1
   have ih' := ih (by omega)
   have st : ∀ R, ((rd_T74 s a).f0 = 5 ∨ (rd_T74 s a).f0 = 6 → Ev (fun k => spec_l4Pack.j0 k s ((a + 1 : Nat) : Int) [] (rd_T74 s a).f0 true (rd_T74 s a).f0 (rd_T74 s a).f1 (rd_T74 s a).f2 (rd_T74 s a).f3 (rd_T74 s a).f4) R) → (¬ ((rd_T74 s a).f0 = 5 ∨ (rd_T74 s a).f0 = 6) → Ev (fun k => spec_l4Pack.j0 k s ((a + 1 : Nat) : Int) [] (rd_T74 s a).f0 false (rd_T74 s a).f0 (rd_T74 s a).f1 (rd_T74 s a).f2 (rd_T74 s a).f3 (rd_T74 s a).f4) R) → Ev (fun k => spec_l4Pack.f k s a) R := by
    intro R h1 h2
    by_cases h5 : (rd_T74 s a).f0 = 5
    ·refine Ev.step (fun k => ?_) (h1 (.inl h5))
     simp only [spec_l4Pack.f]
     rw [if_pos (by omega), if_pos (by omega), wrap_id (n := (a : Int) + 1) (by omega) (by omega)]
     simp only [Option.bind_some]
     rw [if_pos h5, show ((rd_T74 s a).f0 == 5) = true from beq_iff_eq.2 h5];push_cast;rfl
    ·by_cases h6 : (rd_T74 s a).f0 = 6
     ·refine Ev.step (fun k => ?_) (h1 (.inr h6))
      simp only [spec_l4Pack.f]
      rw [if_pos (by omega), if_pos (by omega), wrap_id (n := (a : Int) + 1) (by omega) (by omega)]
      simp only [Option.bind_some]
      rw [if_neg h5, show ((rd_T74 s a).f0 == 6) = true from beq_iff_eq.2 h6];push_cast;rfl
     ·refine Ev.step (fun k => ?_) (h2 (fun hh => hh.elim h5 h6))
      simp only [spec_l4Pack.f]
      rw [if_pos (by omega), if_pos (by omega), wrap_id (n := (a : Int) + 1) (by omega) (by omega)]
      simp only [Option.bind_some]
      rw [if_neg h5, show ((rd_T74 s a).f0 == 6) = false from beq_eq_false_iff_ne.2 h6];push_cast;rfl
   have leaf : (rd_T74 s a).f4 = 0 → e = a + 1 := by
    intro h0
    rw [h0] at h
    have : tparts s (taft s D) a 0 (a + 1) 0 = some e := h
    cases this;rfl
   rw [tbs_succ]
   refine st _ (fun h56 => ?_) (fun h56 => ?_)
   ·have he := leaf (by unfold nodeIs at hn;omega)
    subst he
    rw [if_pos h56]
    refine Ev.step (f := fun k => (spec_ZigPut.f k (rd_T74 s a).f2).bind fun t => some (t, ((a + 1 : Nat) : Int))) (fun k => ?_) ?_
    ·simp only [spec_l4Pack.j0];rw [if_pos trivial]
    refine Ev.bind (spec_ZigPut_ev _ hA.2.1.1 hA.2.1.2) ?_
    exact Ev.now _
   ·rw [if_neg h56]
    by_cases h8 : (rd_T74 s a).f0 = 8
    ·have he := leaf (by unfold nodeIs at hn;omega)
     have hsz : ((rd_T74 s a).f3.size : Int) ≤ 300 := by unfold nodeIs at hn;omega
     subst he
     rw [if_pos h8]
     refine Ev.step (f := fun k => (spec_UvarPut.f k ((rd_T74 s a).f3.size : Int)).bind fun t => (if (rd_T74 s a).f3.size ≤ 140737488355328 then ((some (bytesOf (rd_T74 s a).f3 : List Int)).bind fun y => (if t.length + y.length < 140737488355328 then (some ((t ++ y), ((a + 1 : Nat) : Int))) else (none))) else (none))) (fun k => ?_) ?_
     ·simp only [spec_l4Pack.j0];rw [if_neg (by simp), if_pos h8]
     refine Ev.bind (spec_UvarPut_ev _ (by omega) (by omega)) ?_
     refine ev_if (by omega) ?_
     refine Ev.bind (Ev.now _) ?_
     have hu := uvb_len10 (ux ((rd_T74 s a).f3.size : Int)) (ux_lt _)
     refine ev_if (by rw [bytesOf_length];omega) ?_
     exact Ev.now _
    ·rw [if_neg h8]
     by_cases h9 : (rd_T74 s a).f0 = 9
     ·rw [if_pos h9]
      have hm0 : 0 ≤ (rd_T74 s a).f4 := by unfold nodeIs at hn;omega
      have htl := tlh_len (rd_T74 s a).f2 (rd_T74 s a).f4
      have go : Ev (fun k => spec_l4Pack.j1 k s ((a + 1 : Nat) : Int) (tlh (rd_T74 s a).f2 (rd_T74 s a).f4) (rd_T74 s a).f0 (rd_T74 s a).f1 (rd_T74 s a).f2 (rd_T74 s a).f3 (rd_T74 s a).f4) (tlh (rd_T74 s a).f2 (rd_T74 s a).f4 ++ pbs s (tbs s D) false (rd_T74 s a).f4.toNat (a + 1) 0, (e : Int)) := by
       refine Ev.step (fun k => ?_) (l4Pack_list s hs hN D (by omega) a hc.1 ih' (rd_T74 s a).f0 (rd_T74 s a).f1 (rd_T74 s a).f2 (rd_T74 s a).f4 (rd_T74 s a).f3 hA.2.2 (rd_T74 s a).f4.toNat (a + 1) 0 0 (tlh (rd_T74 s a).f2 (rd_T74 s a).f4) e (by omega) (by omega) (by simp) (by omega) h)
       simp only [spec_l4Pack.j1]
      by_cases h14 : (rd_T74 s a).f4 ≤ 14
      ·have e2 : tlh (rd_T74 s a).f2 (rd_T74 s a).f4 = [(wrap64 ((wrap64 (16 * (rd_T74 s a).f4)) + (rd_T74 s a).f2)) % 256] := by unfold tlh;rw [if_pos h14]
       rw [e2] at go ⊢
       refine Ev.step (fun k => ?_) go
       simp only [spec_l4Pack.j0]
       rw [if_neg (by simp), if_neg h8, if_pos h9, if_pos h14, if_pos (by simp)];rfl
      ·have e2 : tlh (rd_T74 s a).f2 (rd_T74 s a).f4 = [(wrap64 (240 + (rd_T74 s a).f2)) % 256] ++ uvb (ux (rd_T74 s a).f4) := by unfold tlh;rw [if_neg h14]
       rw [e2] at go ⊢
       refine Ev.step (f := fun k => if ([] : List Int).length < 140737488355328 then ((some ([] ++ [(wrap64 (240 + (rd_T74 s a).f2)) % 256] : List Int)).bind fun y => ((spec_UvarPut.f k (rd_T74 s a).f4).bind fun t => (if y.length + t.length < 140737488355328 then (spec_l4Pack.j1 k s ((a + 1 : Nat) : Int) (y ++ t) (rd_T74 s a).f0 (rd_T74 s a).f1 (rd_T74 s a).f2 (rd_T74 s a).f3 (rd_T74 s a).f4) else (none)))) else none) (fun k => ?_) ?_
       ·simp only [spec_l4Pack.j0]
        rw [if_neg (by simp), if_neg h8, if_pos h9, if_neg h14]
       refine ev_if (by simp) ?_
       refine Ev.bind (Ev.now _) ?_
       refine Ev.bind (spec_UvarPut_ev _ (by omega) (by omega)) ?_
       have hu := uvb_len10 (ux (rd_T74 s a).f4) (ux_lt _)
       refine ev_if (by simp;omega) ?_
       exact go
     ·rw [if_neg h9]
      by_cases h12 : (rd_T74 s a).f0 = 12
      ·rw [if_pos h12]
       refine Ev.step (fun k => ?_) (l4Pack_struct s hs hN D (by omega) a hc.1 ih' (rd_T74 s a).f0 (rd_T74 s a).f1 (rd_T74 s a).f2 (rd_T74 s a).f4 (rd_T74 s a).f3 hA.2.2 (rd_T74 s a).f4.toNat (a + 1) 0 0 [] e (by omega) (by omega) (by simp) (by simp;omega) h)
       simp only [spec_l4Pack.j0]
       rw [if_neg (by simp), if_neg h8, if_neg h9, if_pos h12]
      ·rw [if_neg h12]
       have he := leaf (by unfold nodeIs at hn;omega)
       subst he
       refine Ev.step (f := fun _ => some ([], ((a + 1 : Nat) : Int))) (fun k => ?_) (Ev.now _)
       simp only [spec_l4Pack.j0]
       rw [if_neg (by simp), if_neg h8, if_neg h9, if_neg h12]
  ·cases h
def packOf (s : List TN) : List Int × Bool := if tok s then (tbs s 12 0, true) else ([], false)
theorem spec_TreePack_ev (s : List TN) (hs : s.length ≤ 1000000000) (hN : nodesOk s) : Ev (fun k => spec_TreePack.f k s) (packOf s) := by
 unfold spec_TreePack.f packOf
 refine Ev.bind (spec_TreeOk_ev s hs hN) ?_
 by_cases h : tok s
 ·simp only [decide_eq_true h, if_true]
  rw [if_pos h]
  refine Ev.bind (spec_l4Pack_ev s h.1.2 hN 12 (by omega) 0 _ h.2.2) ?_
  exact Ev.now _
 ·simp only [decide_eq_false h, Bool.false_eq_true, if_false]
  rw [if_neg h];exact Ev.now _

theorem impl_headOf_ev (t id num : Int) (x : ByteArray) (many la : Int) (h0 : -9223372036854775808 ≤ id) (h1 : id < 9223372036854775808) : Ev (fun k => impl_headOf.f k t id num x many la) (thd id la t) := by
 unfold impl_headOf.f thd
 by_cases hw : wrap64 (id - la) ≤ 15
 ·simp only [if_pos hw];exact Ev.now _
 ·simp only [if_neg hw]
  refine Ev.bind (Ev.now _) ?_
  refine Ev.bind (impl_ZigPut_ev _ h0 h1) ?_
  have hu := uvb_len10 (ux (zig id)) (ux_lt _)
  refine ev_if (by simp;omega) ?_
  exact Ev.now _
theorem bytesOf_l (s : List TN) (hs : s.length ≤ 1500) (hN : nodesOk s) (af : List Int) (hw : Wrote s [] 0 s.length af) (D : Nat) (hD : D ≤ 11) (a : Nat) (ha : a < s.length) (ih : ∀ n e, taft s D n = some e → Ev (fun k => impl_tree_bytesOf.f k s af n) (tbs s D n)) (t f1 f2 f4 many : Int) (f3 : ByteArray) (h9 : many < 9223372036854775808) :
  ∀ (m n : Nat) (la i : Int) (acc : List Int) (e : Nat), n ≤ s.length → 0 ≤ i → (many - i).toNat = m → acc.length + 400 * (e - n) ≤ 1000000 → tparts s (taft s D) a m n la = some e → Ev (fun k => impl_tree_bytesOf.l0 k acc n la many i s af t f1 f2 f3 f4) (acc ++ (pbs s (tbs s D) (decide (t = 12)) m n la ++ if t = 12 then [0] else [])) := by
 intro m
 induction m with
 | zero =>
  intro n la i acc e hn h0 hm hl h
  cases h
  by_cases h12 : t = 12
  ·refine Ev.step (f := fun _ => if acc.length < 140737488355328 then some (acc ++ [0]) else none) (fun k => ?_) ?_
   ·simp only [impl_tree_bytesOf.l0]
    rw [if_neg (by omega), if_pos h12]
   ·refine ev_if (by omega) ?_
    simp only [pbs, List.nil_append, if_pos h12];exact Ev.now _
  ·refine Ev.step (f := fun _ => some acc) (fun k => ?_) ?_
   ·simp only [impl_tree_bytesOf.l0]
    rw [if_neg (by omega), if_neg h12]
   ·simp only [pbs, List.nil_append, if_neg h12, List.append_nil];exact Ev.now _
 | succ m ihm =>
  intro n la i acc e hn h0 hm hl h
  rw [tparts_succ] at h
  split at h
  ·rename_i hc
   cases hq : taft s D n with
   | none => rw [hq] at h;cases h
   | some n' =>
    rw [hq] at h
    have hlt := taft_lt s D n n' hq
    have e1 : taf s n = n' := by unfold taf;rw [taft_mono s D 12 (by omega) n n' hq];rfl
    have h2 := tbs_len s D (by omega) n n' hq
    have hge := tparts_ge s (taft s D) a (taft_lt s D) _ _ _ _ hlt.2 h
    have hNn := (hN n hc.1).2
    have hth := thd_len (rd_T74 s n).f1 la (rd_T74 s n).f0
    have hr : rd af (n : Int) = (n' : Int) := by
     have h3 := hw.2 n hc.1
     rw [if_pos (by omega), e1] at h3
     unfold rd;rw [Int.toNat_natCast, List.getD_eq_getElem?_getD, h3];rfl
    by_cases h12 : t = 12
    ·refine Ev.step (f := fun k => (impl_headOf.f k ((rd_T74 s n).f0) ((rd_T74 s n).f1) ((rd_T74 s n).f2) ((rd_T74 s n).f3) ((rd_T74 s n).f4) la).bind fun q => (if acc.length + q.length < 140737488355328 then ((some (acc ++ q : List Int)).bind fun y => ((impl_tree_bytesOf.f k s af n).bind fun p => (if y.length + p.length < 140737488355328 then (impl_tree_bytesOf.l0 k (y ++ p) n' ((rd_T74 s n).f1) many (wrap64 (i + 1)) s af t f1 f2 f3 f4) else (none)))) else (none))) (fun k => ?_) ?_
     ·simp only [impl_tree_bytesOf.l0]
      rw [if_pos (by omega), if_pos (by omega), if_pos (by omega), if_pos h12, hr]
      simp only [if_pos (show (n : Int) < (af.length : Int) by rw [hw.1];omega)]
     refine Ev.bind (impl_headOf_ev _ _ _ _ _ _ hNn.1.1 hNn.1.2) ?_
     refine ev_if (by omega) ?_
     refine Ev.bind (Ev.now _) ?_
     refine Ev.bind (ih n n' hq) ?_
     refine ev_if (by rw [List.length_append];omega) ?_
     rw [wrap_id (n := i + 1) (by omega) (by omega)]
     have hz := ihm n' (rd_T74 s n).f1 (i + 1) (acc ++ thd (rd_T74 s n).f1 la (rd_T74 s n).f0 ++ tbs s D n) e hlt.2 (by omega) (by omega) (by rw [List.length_append, List.length_append];omega) h
     rw [pbs_succ, e1]
     simp only [decide_eq_true h12, if_true] at hz ⊢
     simpa [List.append_assoc] using hz
    ·refine Ev.step (f := fun k => (impl_tree_bytesOf.f k s af n).bind fun p => (if acc.length + p.length < 140737488355328 then (impl_tree_bytesOf.l0 k (acc ++ p) n' ((rd_T74 s n).f1) many (wrap64 (i + 1)) s af t f1 f2 f3 f4) else (none))) (fun k => ?_) ?_
     ·simp only [impl_tree_bytesOf.l0]
      rw [if_pos (by omega), if_pos (by omega), if_pos (by omega), if_neg h12, hr]
      simp only [if_pos (show (n : Int) < (af.length : Int) by rw [hw.1];omega)]
     refine Ev.bind (ih n n' hq) ?_
     refine ev_if (by omega) ?_
     rw [wrap_id (n := i + 1) (by omega) (by omega)]
     have hz := ihm n' (rd_T74 s n).f1 (i + 1) (acc ++ tbs s D n) e hlt.2 (by omega) (by omega) (by rw [List.length_append];omega) h
     rw [pbs_succ, e1]
     simp only [decide_eq_false h12, Bool.false_eq_true, if_false] at hz ⊢
     simpa [List.append_assoc] using hz
  ·cases h
theorem impl_bytesOf_ev (s : List TN) (hs : s.length ≤ 1500) (hN : nodesOk s) (af : List Int) (hw : Wrote s [] 0 s.length af) : ∀ (D : Nat), D ≤ 12 → ∀ (a e : Nat), taft s D a = some e → Ev (fun k => impl_tree_bytesOf.f k s af a) (tbs s D a) := by
 intro D
 induction D with
 | zero => intro _ a e h;cases h
 | succ D ih =>
  intro hD a e h
  have hlt := taft_lt s (D + 1) a e h
  rw [taft_succ] at h
  split at h
  ·rename_i hc
   have hn : nodeIs _ _ _ _ := hc.2
   have hA := (hN a hc.1).2
   have ih' := ih (by omega)
   have st : ∀ R, ((rd_T74 s a).f0 = 5 ∨ (rd_T74 s a).f0 = 6 → Ev (fun k => impl_tree_bytesOf.j0 k a [] (rd_T74 s a).f0 true s af (rd_T74 s a).f0 (rd_T74 s a).f1 (rd_T74 s a).f2 (rd_T74 s a).f3 (rd_T74 s a).f4) R) → (¬ ((rd_T74 s a).f0 = 5 ∨ (rd_T74 s a).f0 = 6) → Ev (fun k => impl_tree_bytesOf.j0 k a [] (rd_T74 s a).f0 false s af (rd_T74 s a).f0 (rd_T74 s a).f1 (rd_T74 s a).f2 (rd_T74 s a).f3 (rd_T74 s a).f4) R) → Ev (fun k => impl_tree_bytesOf.f k s af a) R := by
    intro R h1 h2
    by_cases h5 : (rd_T74 s a).f0 = 5
    ·refine Ev.step (fun k => ?_) (h1 (.inl h5))
     simp only [impl_tree_bytesOf.f]
     rw [if_pos (by omega), if_pos (by omega)]
     simp only [Option.bind_some]
     rw [if_pos h5, show ((rd_T74 s a).f0 == 5) = true from beq_iff_eq.2 h5]
    ·by_cases h6 : (rd_T74 s a).f0 = 6
     ·refine Ev.step (fun k => ?_) (h1 (.inr h6))
      simp only [impl_tree_bytesOf.f]
      rw [if_pos (by omega), if_pos (by omega)]
      simp only [Option.bind_some]
      rw [if_neg h5, show ((rd_T74 s a).f0 == 6) = true from beq_iff_eq.2 h6]
     ·refine Ev.step (fun k => ?_) (h2 (fun hh => hh.elim h5 h6))
      simp only [impl_tree_bytesOf.f]
      rw [if_pos (by omega), if_pos (by omega)]
      simp only [Option.bind_some]
      rw [if_neg h5, show ((rd_T74 s a).f0 == 6) = false from beq_eq_false_iff_ne.2 h6]
   have j1 : ∀ acc : List Int, acc.length ≤ 11 → Ev (fun k => impl_tree_bytesOf.j1 k a acc s af (rd_T74 s a).f0 (rd_T74 s a).f1 (rd_T74 s a).f2 (rd_T74 s a).f3 (rd_T74 s a).f4) (acc ++ (pbs s (tbs s D) (decide ((rd_T74 s a).f0 = 12)) (rd_T74 s a).f4.toNat (a + 1) 0 ++ if (rd_T74 s a).f0 = 12 then [0] else [])) := by
    intro acc hacc
    refine Ev.step (fun k => ?_) (bytesOf_l s hs hN af hw D (by omega) a hc.1 ih' (rd_T74 s a).f0 (rd_T74 s a).f1 (rd_T74 s a).f2 (rd_T74 s a).f4 (rd_T74 s a).f4 (rd_T74 s a).f3 hA.2.2 (rd_T74 s a).f4.toNat (a + 1) 0 0 acc e (by omega) (by omega) (by simp) (by omega) h)
    simp only [impl_tree_bytesOf.j1]
    rw [wrap_id (n := (a : Int) + 1) (by omega) (by omega)];push_cast;rfl
   rw [tbs_succ]
   refine st _ (fun h56 => ?_) (fun h56 => ?_)
   ·rw [if_pos h56]
    refine Ev.step (f := fun k => (impl_ZigPut.f k (rd_T74 s a).f2).bind fun t => some t) (fun k => ?_) ?_
    ·simp only [impl_tree_bytesOf.j0];rw [if_pos trivial]
    refine Ev.bind (impl_ZigPut_ev _ hA.2.1.1 hA.2.1.2) ?_
    exact Ev.now _
   ·rw [if_neg h56]
    by_cases h8 : (rd_T74 s a).f0 = 8
    ·have hsz : ((rd_T74 s a).f3.size : Int) ≤ 300 := by unfold nodeIs at hn;omega
     rw [if_pos h8]
     refine Ev.step (f := fun k => (impl_UvarPut.f k ((rd_T74 s a).f3.size : Int)).bind fun t => (if t.length + (rd_T74 s a).f3.size < 140737488355328 then some (t ++ bytesOf (rd_T74 s a).f3) else none)) (fun k => ?_) ?_
     ·simp only [impl_tree_bytesOf.j0];rw [if_neg (by simp), if_pos h8]
     refine Ev.bind (impl_UvarPut_ev _) ?_
     have hu := uvb_len10 (ux ((rd_T74 s a).f3.size : Int)) (ux_lt _)
     refine ev_if (by omega) ?_
     exact Ev.now _
    ·rw [if_neg h8]
     by_cases h9 : (rd_T74 s a).f0 = 9
     ·rw [if_pos h9]
      have n12 : ¬ (rd_T74 s a).f0 = 12 := by omega
      have htl := tlh_len (rd_T74 s a).f2 (rd_T74 s a).f4
      have go := j1 (tlh (rd_T74 s a).f2 (rd_T74 s a).f4) htl
      rw [if_neg n12, List.append_nil, decide_eq_false n12] at go
      by_cases h14 : (rd_T74 s a).f4 ≤ 14
      ·have e2 : tlh (rd_T74 s a).f2 (rd_T74 s a).f4 = [(wrap64 ((wrap64 (16 * (rd_T74 s a).f4)) + (rd_T74 s a).f2)) % 256] := by unfold tlh;rw [if_pos h14]
       rw [e2] at go ⊢
       refine Ev.step (fun k => ?_) go
       simp only [impl_tree_bytesOf.j0]
       rw [if_neg (by simp), if_neg h8, if_pos h9, if_pos h14, if_pos (by simp)];rfl
      ·have e2 : tlh (rd_T74 s a).f2 (rd_T74 s a).f4 = [(wrap64 (240 + (rd_T74 s a).f2)) % 256] ++ uvb (ux (rd_T74 s a).f4) := by unfold tlh;rw [if_neg h14]
       rw [e2] at go ⊢
       refine Ev.step (f := fun k => (some ([(wrap64 (240 + (rd_T74 s a).f2)) % 256] : List Int)).bind fun y => ((impl_UvarPut.f k (rd_T74 s a).f4).bind fun t => (if y.length + t.length < 140737488355328 then (impl_tree_bytesOf.j1 k a (y ++ t) s af (rd_T74 s a).f0 (rd_T74 s a).f1 (rd_T74 s a).f2 (rd_T74 s a).f3 (rd_T74 s a).f4) else (none)))) (fun k => ?_) ?_
       ·simp only [impl_tree_bytesOf.j0]
        rw [if_neg (by simp), if_neg h8, if_pos h9, if_neg h14]
       refine Ev.bind (Ev.now _) ?_
       refine Ev.bind (impl_UvarPut_ev _) ?_
       have hu := uvb_len10 (ux (rd_T74 s a).f4) (ux_lt _)
       refine ev_if (by simp;omega) ?_
       exact go
     ·rw [if_neg h9]
      have go := j1 [] (by simp)
      have goes : Ev (fun k => impl_tree_bytesOf.j0 k a [] (rd_T74 s a).f0 false s af (rd_T74 s a).f0 (rd_T74 s a).f1 (rd_T74 s a).f2 (rd_T74 s a).f3 (rd_T74 s a).f4) ([] ++ (pbs s (tbs s D) (decide ((rd_T74 s a).f0 = 12)) (rd_T74 s a).f4.toNat (a + 1) 0 ++ if (rd_T74 s a).f0 = 12 then [0] else [])) := by
       refine Ev.step (fun k => ?_) go
       simp only [impl_tree_bytesOf.j0]
       rw [if_neg (by simp), if_neg h8, if_neg h9]
      by_cases h12 : (rd_T74 s a).f0 = 12
      ·rw [if_pos h12, decide_eq_true h12] at goes
       rw [if_pos h12];exact goes
      ·have h0 : (rd_T74 s a).f4 = 0 := by unfold nodeIs at hn;omega
       rw [if_neg h12]
       have hz : (rd_T74 s a).f4.toNat = 0 := by omega
       rw [if_neg h12, hz] at goes
       simpa [pbs] using goes
  ·cases h

abbrev ND := S74
theorem rd_node (l : List ND) (i : Nat) (h : i < l.length) : rd_T74 l i = l[i] := by
 unfold rd_T74;simp [h]
theorem eqNode_refl (a b c : Int) (d : ByteArray) (e : Int) : laws_eqNode.f a b c d e a b c d e = some true := by simp [laws_eqNode.f]
theorem eqNodeS_self (a : List ND) (hn : a.length ≤ 1000000000000000000) : Ev (fun k => laws_eqNodeS.f k a a) true := by
 have key : ∀ (d : Nat) (i : Int), 0 ≤ i → i ≤ a.length → (a.length : Int) - i = d → Ev (fun k => laws_eqNodeS.l0 k a a i) true := by
  intro d
  induction d with
  | zero =>
   intro i h0 h1 hd
   refine Ev.step (f := fun _ => some true) (fun k => ?_) (Ev.now _)
   simp only [laws_eqNodeS.l0];rw [if_neg (by omega)]
  | succ d ih =>
   intro i h0 h1 hd
   refine Ev.step (f := fun k => laws_eqNodeS.l0 k a a (i + 1)) (fun k => ?_) (ih (i + 1) (by omega) (by omega) (by omega))
   simp only [laws_eqNodeS.l0];rw [if_pos (by omega), if_pos h0, if_pos (by omega), eqNode_refl]
   simp only [Option.bind_some, if_true];rw [wrap_id (by omega) (by omega)]
 have h := key a.length 0 (by omega) (by omega) (by omega)
 unfold laws_eqNodeS.f
 simpa using h

def lnodesOk (l : List S73) : Prop := ∀ x ∈ l, (Lit.int .i64 x.f0).wf = true ∧ (Lit.int .i64 x.f1).wf = true ∧ (Lit.int .i64 x.f2).wf = true ∧ x.f3.size ≤ maxLen ∧ (Lit.int .i64 x.f4).wf = true
theorem rd_lnode (l : List S73) (i : Nat) (h : i < l.length) : rd_T73 l i = l[i] := by
 unfold rd_T73;simp [h]
theorem szNodeS_ev (l : List S73) (hl : l.length ≤ 1000000000000000) (hs : lnodesOk l) : ∃ t, Ev (fun k => laws_szNodeS.f k l 1048576) t ∧ (¬ t < 0 → l.length ≤ 1048576) := by
 unfold laws_szNodeS.f
 rw [wrap_id (n := 1048576 - (l.length : Int)) (by omega) (by omega)]
 by_cases h : 1048576 - (l.length : Int) < 0
 ·simp only [if_pos h];exact ⟨_, Ev.now _, fun h => absurd (by decide) h⟩
 simp only [if_neg h]
 have key : ∀ (d i : Nat) (x : Int), i + d = l.length → 0 ≤ x → x ≤ 1048576 → ∃ t, Ev (fun k => laws_szNodeS.l0 k l x i) t := by
  intro d
  induction d with
  | zero =>
   intro i x hd h0 h1
   refine ⟨x, Ev.step (f := fun _ => some x) (fun k => ?_) (Ev.now _)⟩
   simp only [laws_szNodeS.l0];rw [if_neg (by omega)]
  | succ d ih =>
   intro i x hd h0 h1
   have hx := (hs l[i] (List.getElem_mem (by omega))).2.2.2.1
   have h3 : maxLen = 9223372036854775807 := by decide
   have e : laws_szNode.f (rd_T73 l i).f0 (rd_T73 l i).f1 (rd_T73 l i).f2 (rd_T73 l i).f3 (rd_T73 l i).f4 x = some (if x - (l[i].f3.size : Int) < 0 then -1 else x - (l[i].f3.size : Int)) := by
    unfold laws_szNode.f
    rw [rd_lnode l i (by omega), wrap_id (n := x - (l[i].f3.size : Int)) (by omega) (by omega)]
    split <;> rfl
   by_cases hn : x - (l[i].f3.size : Int) < 0
   ·refine ⟨-1, Ev.step (f := fun _ => some (-1)) (fun k => ?_) (Ev.now _)⟩
    simp only [laws_szNodeS.l0]
    rw [if_pos (by omega), if_pos (by omega), e, if_pos hn];rfl
   ·obtain ⟨t, ht⟩ := ih (i + 1) (x - (l[i].f3.size : Int)) (by omega) (by omega) (by omega)
    refine ⟨t, Ev.step (fun k => ?_) ht⟩
    simp only [laws_szNodeS.l0]
    rw [if_pos (by omega), if_pos (by omega), e, if_neg hn]
    simp only [Option.bind_some]
    rw [if_neg hn, wrap_id (n := (i : Int) + 1) (by omega) (by omega)];push_cast;rfl
 obtain ⟨t, ht⟩ := key l.length 0 (1048576 - (l.length : Int)) (by omega) (by omega) (by omega)
 exact ⟨t, ht, fun _ => by omega⟩
def convN (x : S73) : S74 := ⟨x.f0, x.f1, x.f2, x.f3, x.f4⟩
theorem toNodeS_ev (a : List S73) (hn : a.length ≤ 5864062014805) : Ev (fun k => laws_toNodeS.f k a) (a.map convN) := by
 have key : ∀ (d : Nat) (i : Nat) (r : List S74), r.length = d → i + d = a.length → Ev (fun k => laws_toNodeS.l0 k a ((a.map convN).take i ++ r) i) (a.map convN) := by
  intro d
  induction d with
  | zero =>
   intro i r hr hd
   obtain rfl : r = [] := List.length_eq_zero_iff.1 hr
   refine Ev.step (f := fun _ => some (a.map convN)) (fun k => ?_) (Ev.now _)
   simp only [laws_toNodeS.l0];rw [if_neg (by omega)]
   rw [List.append_nil, List.take_of_length_le (by simp;omega)]
  | succ d ih =>
   intro i r hr hd
   refine Ev.step (f := fun k => laws_toNodeS.l0 k a ((a.map convN).take (i + 1) ++ r.tail) (i + 1 : Nat)) (fun k => ?_) (ih (i + 1) r.tail (by simp [hr]) (by omega))
   simp only [laws_toNodeS.l0, laws_toNode.f, Option.bind_some]
   rw [if_pos (by omega), if_pos (by omega), if_pos (by simp;omega), wrap_id (n := (i : Int) + 1) (by omega) (by omega)]
   rw [set_mid _ _ _ _ (by simp;omega) (by omega), rd_lnode a i (by omega)]
   rw [List.take_succ_eq_append_getElem (i := i) (l := a.map convN) (by simp;omega)]
   simp [convN]
 have h := key a.length 0 (List.replicate a.length z74) (by simp) (by omega)
 unfold laws_toNodeS.f
 simp only [if_pos (show (0:Int) ≤ a.length by omega), if_pos (show ((a.length : Int)).toNat ≤ 5864062014805 by omega)]
 simpa using h
theorem convN_ok (l : List S73) (h : lnodesOk l) : nodesOk (l.map convN) := by
 intro i hi
 have hi' : i < (l.map convN).length := hi
 rw [rd_node _ _ hi']
 simp only [List.getElem_map, convN]
 have hm := h (l[i]'(by simpa using hi)) (List.getElem_mem _)
 have h1 := wf64 hm.2.1
 have h2 := wf64 hm.2.2.1
 have h4 := wf64 hm.2.2.2.2
 have h5 := hm.2.2.2.1
 have h3 : maxLen = 9223372036854775807 := by decide
 omega

theorem markText_l (d : Nat) : ∀ (n : Int) (acc : ByteArray), 0 ≤ n → n < 9223372036854775808 → n < 10 ^ d → acc.size + d ≤ 100 → ∃ r, Ev (fun k => laws_markText.l0 k n acc) r := by
 induction d with
 | zero =>
  intro n acc h0 h9 h1 ha
  refine ⟨_, Ev.step (f := fun _ => some ((⟨#[109]⟩ : ByteArray) ++ acc)) (fun k => ?_) (Ev.now _)⟩
  simp only [laws_markText.l0];rw [if_neg (by omega), if_pos (by omega)]
 | succ d ih =>
  intro n acc h0 h9 h1 ha
  by_cases hn : n > 0
  ·rw [Int.pow_succ] at h1
   obtain ⟨r, e⟩ := ih (n / 10) ((strOfNums [(wrap64 (48 + (Int.tmod n 10))) % 256]) ++ acc) (by omega) (by omega) (by omega) (by rw [ByteArray.size_append, strOfNums_size];simp;omega)
   refine ⟨r, Ev.step (fun k => ?_) e⟩
   simp only [laws_markText.l0, Option.bind_some]
   rw [if_pos hn, if_pos (by rw [strOfNums_size];simp;omega), Int.tdiv_eq_ediv_of_nonneg (by omega), wrap_id (n := n / 10) (by omega) (by omega)]
  ·refine ⟨_, Ev.step (f := fun _ => some ((⟨#[109]⟩ : ByteArray) ++ acc)) (fun k => ?_) (Ev.now _)⟩
   simp only [laws_markText.l0];rw [if_neg (by omega), if_pos (by omega)]
theorem markText_ev : ∃ t : Int → ByteArray, ∀ n, -9223372036854775808 ≤ n → n < 9223372036854775808 → Ev (fun k => laws_markText.f k n) (t n) := by
 have h : ∀ n : Int, ∃ t, -9223372036854775808 ≤ n → n < 9223372036854775808 → Ev (fun k => laws_markText.f k n) t := by
  intro n
  by_cases hr : -9223372036854775808 ≤ n ∧ n < 9223372036854775808
  ·by_cases h0 : n ≤ 0
   ·exact ⟨⟨#[109, 48]⟩, fun _ _ => by unfold laws_markText.f;simp only [if_pos h0];exact Ev.now _⟩
   ·obtain ⟨r, e⟩ := markText_l 19 n ⟨#[]⟩ (by omega) (by omega) (by omega) (by decide)
    refine ⟨r, fun _ _ => ?_⟩
    unfold laws_markText.f;simp only [if_neg h0];exact e
  ·exact ⟨⟨#[]⟩, fun a b => absurd ⟨a, b⟩ hr⟩
 exact ⟨fun n => Classical.choose (h n), fun n => Classical.choose_spec (h n)⟩

theorem ev_succ {α : Type} {g : Nat → Option α} {r : α} (h : Ev (fun k => g (k + 1)) r) : Ev g r := Ev.step (fun _ => rfl) h
def Sm {α β : Type} (g : Nat → Option (α × β)) (c : α) : Prop := ∃ r, Ev g (c, r)
theorem Sm.succ {α β : Type} {g : Nat → Option (α × β)} {c : α} (h : Sm (fun k => g (k + 1)) c) : Sm g c := by
 obtain ⟨r, h⟩ := h
 exact ⟨r, ev_succ h⟩
theorem Sm.bind {α β γ : Type} {g : Nat → Option γ} {f : Nat → γ → Option (α × β)} {a : γ} {c : α} (h : Ev g a) (k : Sm (fun n => f n a) c) : Sm (fun n => (g n).bind (f n)) c := by
 obtain ⟨r, k⟩ := k
 exact ⟨r, Ev.bind h k⟩
theorem Sm.now {α β : Type} (c : α) (r : β) : Sm (fun _ => some (c, r)) c := ⟨r, Ev.now _⟩

def mkn (t : Int → ByteArray) (n : Nat) (m : Int) : List ND := (List.range n).map fun i : Nat => ⟨m + 5 * i, m + 5 * i + 1, m + 5 * i + 2, t (m + 5 * i + 3), m + 5 * i + 4⟩
theorem mkn_len (t : Int → ByteArray) (n : Nat) (m : Int) : (mkn t n m).length = n := by simp [mkn]
theorem mkn_succ (t : Int → ByteArray) (n : Nat) (m : Int) : mkn t (n + 1) m = mkn t n m ++ [⟨m + 5 * n, m + 5 * n + 1, m + 5 * n + 2, t (m + 5 * n + 3), m + 5 * n + 4⟩] := by simp [mkn, List.range_succ]
theorem rd_at (x r : List ND) (v : ND) (i : Nat) (h : x.length = i) : rd_T74 (x ++ [v] ++ r) (i : Int) = v := by
 rw [rd_node _ _ (by simp;omega)]
 rw [List.getElem_append_left (by simp;omega), List.getElem_append_right (by omega)]
 simp [h]
theorem set_at (x r : List ND) (v u : ND) (i : Nat) (h : x.length = i) : (x ++ [v] ++ r).set ((i : Int)).toNat u = x ++ [u] ++ r := by
 rw [Int.toNat_natCast, List.append_assoc, set_mid _ _ _ _ h.symm (by simp)];simp
theorem markNodeS_ev (t : Int → ByteArray) (ht : ∀ n, -9223372036854775808 ≤ n → n < 9223372036854775808 → Ev (fun k => laws_markText.f k n) (t n)) (a : List ND) (m : Int) (h0 : 0 ≤ m) (hm : m ≤ 1000000000000) (hn : a.length ≤ 1000000000000) :
  Ev (fun k => laws_markNodeS.f k a m) (m + 5 * a.length, mkn t a.length m) := by
 have key : ∀ (d i : Nat) (r : List ND), r.length = d → i + d = a.length → Ev (fun k => laws_markNodeS.l0 k (mkn t i m ++ r) (m + 5 * i) i) (m + 5 * a.length, mkn t a.length m) := by
  intro d
  induction d with
  | zero =>
   intro i r hr hd
   obtain rfl : r = [] := List.length_eq_zero_iff.1 hr
   refine Ev.step (f := fun _ => some (m + 5 * a.length, mkn t a.length m)) (fun k => ?_) (Ev.now _)
   simp only [laws_markNodeS.l0];rw [if_neg (by simp [mkn_len])]
   rw [show i = a.length by omega];simp
  | succ d ih =>
   intro i r hr hd
   have h := ih (i + 1) r.tail (by simp [hr]) (by omega)
   have hl : (mkn t i m).length = i := mkn_len t i m
   refine ev_succ ?_
   simp only [laws_markNodeS.l0]
   simp only [if_pos (show (i : Int) < ((mkn t i m ++ r).length : Int) by simp [mkn_len];omega), if_pos (show (0 : Int) ≤ i by omega), Option.bind_some]
   rw [set_mid _ _ _ _ (by rw [hl];omega) (by omega)]
   generalize rd_T74 (mkn t i m ++ r) (i : Int) = v
   simp only [rd_at _ _ _ _ hl, set_at _ _ _ _ _ hl]
   rw [wrap_id (n := m + 5 * (i : Int) + 1) (by omega) (by omega), wrap_id (n := m + 5 * (i : Int) + 1 + 1) (by omega) (by omega), wrap_id (n := m + 5 * (i : Int) + 1 + 1 + 1) (by omega) (by omega), wrap_id (n := m + 5 * (i : Int) + 1 + 1 + 1 + 1) (by omega) (by omega), wrap_id (n := m + 5 * (i : Int) + 1 + 1 + 1 + 1 + 1) (by omega) (by omega), wrap_id (n := (i : Int) + 1) (by omega) (by omega)]
   refine Ev.bind (ht _ (by omega) (by omega)) ?_
   try simp only [rd_at _ _ _ _ hl, set_at _ _ _ _ _ hl]
   rw [mkn_succ, show m + 5 * ((i + 1 : Nat) : Int) = m + 5 * (i : Int) + 1 + 1 + 1 + 1 + 1 by push_cast;omega, show m + 5 * (i : Int) + 2 = m + 5 * (i : Int) + 1 + 1 by omega, show m + 5 * (i : Int) + 3 = m + 5 * (i : Int) + 1 + 1 + 1 by omega, show m + 5 * (i : Int) + 4 = m + 5 * (i : Int) + 1 + 1 + 1 + 1 by omega, show ((i + 1 : Nat) : Int) = (i : Int) + 1 by push_cast;rfl] at h
   exact h
 have h := key a.length 0 a rfl (by omega)
 unfold laws_markNodeS.f
 simpa [mkn] using h

theorem eqByteS_self (a : List Int) (hn : a.length ≤ 1000000000000000000) : Ev (fun k => laws_eqByteS.f k a a) true := by
 have key : ∀ (d : Nat) (i : Int), 0 ≤ i → i ≤ a.length → (a.length : Int) - i = d → Ev (fun k => laws_eqByteS.l0 k a a i) true := by
  intro d
  induction d with
  | zero =>
   intro i h0 h1 hd
   refine Ev.step (f := fun _ => some true) (fun k => ?_) (Ev.now _)
   simp only [laws_eqByteS.l0];rw [if_neg (by omega)]
  | succ d ih =>
   intro i h0 h1 hd
   refine Ev.step (f := fun k => laws_eqByteS.l0 k a a (i + 1)) (fun k => ?_) (ih (i + 1) (by omega) (by omega) (by omega))
   simp only [laws_eqByteS.l0];rw [if_pos (by omega), if_pos h0, if_pos (by omega), if_pos trivial, wrap_id (by omega) (by omega)]
 have h := key a.length 0 (by omega) (by omega) (by omega)
 unfold laws_eqByteS.f
 simpa using h

theorem markByteS_ev (a : List Int) (m : Int) (h0 : 0 ≤ m) (hm : m ≤ 1000000000000000000) (hn : a.length ≤ 1000000000000000000) :
  Ev (fun k => laws_markByteS.f k a m) (m + a.length, mk8 a.length m) := by
 have key : ∀ (d : Nat) (i : Nat) (r : List Int), r.length = d → i + d = a.length → Ev (fun k => laws_markByteS.l0 k (mk8 i m ++ r) (m + i) i) (m + a.length, mk8 a.length m) := by
  intro d
  induction d with
  | zero =>
   intro i r hr hd
   obtain rfl : r = [] := List.length_eq_zero_iff.1 hr
   refine Ev.step (f := fun _ => some (m + a.length, mk8 a.length m)) (fun k => ?_) (Ev.now _)
   simp only [laws_markByteS.l0];rw [if_neg (by simp [mk8_len])]
   rw [show i = a.length by omega];simp
  | succ d ih =>
   intro i r hr hd
   refine Ev.step (f := fun k => laws_markByteS.l0 k (mk8 (i + 1) m ++ r.tail) (m + (i + 1 : Nat)) (i + 1 : Nat)) (fun k => ?_) (ih (i + 1) r.tail (by simp [hr]) (by omega))
   simp only [laws_markByteS.l0];rw [if_pos (by simp [mk8_len];omega), if_pos (by omega), wrap_id (by omega) (by omega), wrap_id (by omega) (by omega)]
   rw [set_mid _ _ _ _ (by simp [mk8_len]) (by omega), mk8_succ];push_cast;rw [Int.add_assoc]
 have h := key a.length 0 a rfl (by omega)
 unfold laws_markByteS.f
 simpa [mk8] using h

theorem heldByteS_ev (n : Nat) (m : Int) (h0 : 0 ≤ m) (hm : m ≤ 1000000000000000000) (hn : n ≤ 1000000000000000000) :
  Ev (fun k => laws_heldByteS.f k (mk8 n m) m) (m + n) := by
 have key : ∀ (d : Nat) (i : Nat), i + d = n → Ev (fun k => laws_heldByteS.l0 k (mk8 n m) (m + i) i) (m + n) := by
  intro d
  induction d with
  | zero =>
   intro i hd
   refine Ev.step (f := fun _ => some (m + n)) (fun k => ?_) (Ev.now _)
   simp only [laws_heldByteS.l0];rw [if_neg (by simp [mk8_len];omega)]
   rw [show i = n by omega]
  | succ d ih =>
   intro i hd
   refine Ev.step (f := fun k => laws_heldByteS.l0 k (mk8 n m) (m + (i + 1 : Nat)) (i + 1 : Nat)) (fun k => ?_) (ih (i + 1) (by omega))
   simp only [laws_heldByteS.l0];rw [if_pos (by simp [mk8_len];omega), if_pos (by omega), if_pos (by rw [rd_mk8 _ _ _ (by omega) (by omega)]), wrap_id (by omega) (by omega), wrap_id (by omega) (by omega)]
   push_cast;rw [Int.add_assoc]
 have h := key n 0 (by omega)
 unfold laws_heldByteS.f
 simpa using h

theorem impl_TreePack_ev (s : List TN) (hs : s.length ≤ 1000000000) (hN : nodesOk s) : Ev (fun k => impl_TreePack.f k s) (packOf s) := by
 obtain ⟨af, hev, hw⟩ := treeOf_ev s hs hN
 unfold impl_TreePack.f packOf
 refine Ev.bind hev ?_
 by_cases h : tok s
 ·simp only [decide_eq_true h, if_true]
  rw [if_pos h]
  refine Ev.bind (impl_bytesOf_ev s h.1.2 hN af (hw h) 12 (by omega) 0 _ h.2.2) ?_
  exact Ev.now _
 ·simp only [decide_eq_false h, Bool.false_eq_true, if_false]
  rw [if_neg h];exact Ev.now _
theorem packOf_len (s : List TN) : (packOf s).1.length ≤ 1000000 := by
 unfold packOf
 by_cases h : tok s
 ·rw [if_pos h]
  have := tbs_len s 12 (by omega) 0 _ h.2.2
  have hl := h.1.2
  show (tbs s 12 0).length ≤ _
  omega
 ·rw [if_neg h];simp
theorem FnExactTreePack (l : List S73) (hlen : l.length ≤ 5864062014805) (hl : lnodesOk l) : ∃ k, laws_FnExactTreePack.f k l = some true := by
 refine Ev.rounds (g := fun k => laws_FnExactTreePack.f k l) ?_
 unfold laws_FnExactTreePack.f
 obtain ⟨t, ht, hsz⟩ := szNodeS_ev l (by omega) hl
 obtain ⟨tx, htx⟩ := markText_ev
 refine Ev.bind ht ?_
 by_cases h : t < 0
 ·simp only [if_pos h];exact Ev.now _
 simp only [if_neg h]
 have hs := hsz h
 have hc : nodesOk (l.map convN) := convN_ok l hl
 have hs' : (l.map convN).length ≤ 1000000000 := by simp;omega
 have e1 := spec_TreePack_ev _ hs' hc
 have e2 := impl_TreePack_ev _ hs' hc
 have hln := packOf_len (l.map convN)
 generalize packOf (l.map convN) = r at e1 e2 hln
 obtain ⟨b, ok⟩ := r
 have hlen' : b.length ≤ 1000000 := hln
 refine Ev.bind (toNodeS_ev l hlen) ?_
 refine Ev.bind e1 ?_
 refine Ev.bind (toNodeS_ev l hlen) ?_
 refine Ev.bind e2 ?_
 refine Ev.bind (eqByteS_self b (by omega)) ?_
 simp only [if_true, bne_self_eq_false]
 refine Ev.step (fun k => by simp only [laws_FnExactTreePack.j0];rw [if_neg (by simp)]) ?_
 refine Ev.bind (toNodeS_ev l hlen) ?_
 refine Ev.bind (eqNodeS_self _ (by omega)) ?_
 simp only [if_true]
 refine Ev.bind (markNodeS_ev tx htx _ 1 (by omega) (by omega) (by omega)) ?_
 simp only [if_neg (show ¬ (1 + 5 * ((l.map convN).length : Int) < 0) by omega)]
 refine Ev.bind (eqByteS_self b (by omega)) ?_
 simp only [if_true, bne_self_eq_false]
 refine Ev.step (fun k => by simp only [laws_FnExactTreePack.j1];rw [if_neg (by simp)]) ?_
 refine Ev.bind (markByteS_ev b 1 (by omega) (by omega) (by omega)) ?_
 refine Ev.bind (heldByteS_ev b.length 1 (by omega) (by omega) (by omega)) ?_
 simp only [if_neg (show ¬ (1 + (b.length : Int) < 0) by omega), if_true]
 refine Ev.bind (toNodeS_ev l hlen) ?_
 refine Ev.bind e2 ?_
 refine Ev.bind (eqByteS_self b (by omega)) ?_
 simp only [if_true, bne_self_eq_false]
 refine Ev.step (fun k => by simp only [laws_FnExactTreePack.j2];rw [if_neg (by simp)]) ?_
 refine Ev.bind (heldByteS_ev b.length 1 (by omega) (by omega) (by omega)) ?_
 simp only [if_neg (show ¬ (1 + (b.length : Int) < 0) by omega), if_true];exact Ev.now _

end Go.Proofs.Ytjbghmdbceekiaa.Pure
