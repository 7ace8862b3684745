/- The law FnLeaves answers true for every code. -/
import Derived.Test.YtjbghmdbceekiaaPFnLeavesx9
import Derived.Test.YtjbghmdbceekiaaCom
namespace Go.Proofs.Ytjbghmdbceekiaa.Pure
open Go Go.RowKit Go.Proofs.Ytjbghmdbceekiaa.PFnLeaves Go.Proofs.YtjbghmdbceekiaaW.PrintWords Go.Proofs.YtjbghmdbceekiaaW.PrintLast Go.Proofs.YtjbghmdbceekiaaW.PrintMore Go.Proofs.Ytjbghmdbceekiaa.Com
set_option linter.unusedVariables false
set_option linter.unusedSimpArgs false

theorem ifc {α : Type} {p q : Prop} [Decidable p] [Decidable q] (h : p ↔ q) (a b : α) : (if p then a else b) = if q then a else b := by
 by_cases hp : p
 ·rw [if_pos hp, if_pos (h.1 hp)]
 ·rw [if_neg hp, if_neg (fun hq => hp (h.2 hq))]
def nameOk (s : ByteArray) : Prop := (1 ≤ s.size ∧ s.size ≤ 20) ∧ ∀ i : Nat, i < s.size → 97 ≤ bt s i ∧ bt s i ≤ 122
instance (s : ByteArray) : Decidable (nameOk s) := by unfold nameOk; infer_instance
abbrev C := S56
def cok (s : List C) (a : Nat) : Prop :=
 ((rd_T56 s a).f1 = 7 ∧ 0 < (rd_T56 s a).f3 ∨ ((rd_T56 s a).f1 = 0 ∨ (rd_T56 s a).f1 = 1 ∨ (rd_T56 s a).f1 = 2 ∨ (rd_T56 s a).f1 = 5 ∨ (rd_T56 s a).f1 = 6) ∧ (rd_T56 s a).f3 = 0) ∧ (0 ≤ (rd_T56 s a).f2 ∧ (rd_T56 s a).f2 ≤ 2) ∧ (0 < a → nameOk (rd_T56 s a).f0)
instance (s : List C) (a : Nat) : Decidable (cok s a) := by unfold cok; infer_instance
def parts (s : List C) (g : Nat → Option Nat) : Nat → Nat → List ByteArray → Option Nat
 | 0, n, _ => some n
 | m + 1, n, ns => if n < s.length ∧ ∀ x ∈ ns, ¬ x.toList = (rd_T56 s n).f0.toList then (g n).bind fun n' => parts s g m n' (ns ++ [(rd_T56 s n).f0]) else none
def aft (s : List C) : Nat → Nat → Option Nat
 | 0, _ => none
 | d + 1, a => if a < s.length ∧ cok s a then parts s (aft s d) (rd_T56 s a).f3.toNat (a + 1) [] else none
def ofO : Option Nat → Int
 | none => -1
 | some n => n
theorem parts_succ (s : List C) (g : Nat → Option Nat) (m n : Nat) (ns : List ByteArray) : parts s g (m + 1) n ns = if n < s.length ∧ ∀ x ∈ ns, ¬ x.toList = (rd_T56 s n).f0.toList then (g n).bind fun n' => parts s g m n' (ns ++ [(rd_T56 s n).f0]) else none := rfl
theorem aft_succ (s : List C) (d a : Nat) : aft s (d + 1) a = if a < s.length ∧ cok s a then parts s (aft s d) (rd_T56 s a).f3.toNat (a + 1) [] else none := rfl
theorem parts_ge (s : List C) (g : Nat → Option Nat) (hg : ∀ n n', g n = some n' → n < n' ∧ n' ≤ s.length) : ∀ (m n : Nat) (ns : List ByteArray) (e : Nat), n ≤ s.length → parts s g m n ns = some e → n ≤ e ∧ e ≤ s.length := by
 intro m
 induction m with
 | zero => intro n ns e hn h; cases h; exact ⟨Nat.le_refl _, hn⟩
 | succ m ih =>
  intro n ns e hn h
  rw [parts_succ] at h
  split at h
  ·cases hq : g n with
   | none => rw [hq] at h; cases h
   | some n' =>
    rw [hq] at h
    have h1 := hg n n' hq
    have h2 := ih n' _ e h1.2 h
    omega
  ·cases h
theorem aft_lt (s : List C) : ∀ d a e, aft s d a = some e → a < e ∧ e ≤ s.length := by
 intro d
 induction d with
 | zero => intro a e h; cases h
 | succ d ih =>
  intro a e h
  rw [aft_succ] at h
  split at h
  ·rename_i hc
   have := parts_ge s (aft s d) ih _ _ _ _ (by omega) h
   omega
  ·cases h
theorem parts_mono (s : List C) (g g' : Nat → Option Nat) (hg : ∀ n n', g n = some n' → g' n = some n') : ∀ (m n : Nat) (ns : List ByteArray) (e : Nat), parts s g m n ns = some e → parts s g' m n ns = some e := by
 intro m
 induction m with
 | zero => intro n ns e h; exact h
 | succ m ih =>
  intro n ns e h
  rw [parts_succ] at h ⊢
  split at h
  ·rename_i hc
   rw [if_pos hc]
   cases hq : g n with
   | none => rw [hq] at h; cases h
   | some n' => rw [hq] at h; rw [hg n n' hq]; exact ih _ _ _ h
  ·cases h
theorem aft_mono1 (s : List C) : ∀ d a e, aft s d a = some e → aft s (d + 1) a = some e := by
 intro d
 induction d with
 | zero => intro a e h; cases h
 | succ d ih =>
  intro a e h
  rw [aft_succ] at h
  rw [aft_succ]
  split at h
  ·rename_i hc
   rw [if_pos hc]
   exact parts_mono s _ _ ih _ _ _ _ h
  ·cases h
theorem aft_mono (s : List C) (d d' : Nat) (hd : d ≤ d') (a e : Nat) (h : aft s d a = some e) : aft s d' a = some e := by
 induction d' with
 | zero => rw [show d = 0 by omega] at h; cases h
 | succ d' ih =>
  by_cases h1 : d = d' + 1
  ·rw [← h1]; exact h
  ·exact aft_mono1 s d' a e (ih (by omega))
theorem parts_visit (s : List C) (g : Nat → Option Nat) (hg : ∀ n n', g n = some n' → ∀ i, n ≤ i → i < n' → ∃ e', g i = some e' ∧ e' ≤ n') (hl : ∀ n n', g n = some n' → n < n' ∧ n' ≤ s.length) : ∀ (m n : Nat) (ns : List ByteArray) (e : Nat), n ≤ s.length → parts s g m n ns = some e → ∀ i, n ≤ i → i < e → ∃ e', g i = some e' ∧ e' ≤ e := by
 intro m
 induction m with
 | zero => intro n ns e _ h i h1 h2; cases h; omega
 | succ m ih =>
  intro n ns e hn h i h1 h2
  rw [parts_succ] at h
  split at h
  ·cases hq : g n with
   | none => rw [hq] at h; cases h
   | some n' =>
    rw [hq] at h
    have hl' := hl n n' hq
    have he := parts_ge s g hl m n' _ e hl'.2 h
    by_cases hi : i < n'
    ·obtain ⟨e', a1, a2⟩ := hg n n' hq i h1 hi
     exact ⟨e', a1, by omega⟩
    ·exact ih n' _ e hl'.2 h i (by omega) h2
  ·cases h
theorem aft_visit (s : List C) : ∀ d a e, aft s d a = some e → ∀ i, a ≤ i → i < e → ∃ e', aft s d i = some e' ∧ e' ≤ e := by
 intro d
 induction d with
 | zero => intro a e h; cases h
 | succ d ih =>
  intro a e h i h1 h2
  by_cases hi : i = a
  ·subst hi; exact ⟨e, h, Nat.le_refl _⟩
  ·have h0 := h
   rw [aft_succ] at h
   split at h
   ·rename_i hc
    obtain ⟨e', a1, a2⟩ := parts_visit s (aft s d) ih (aft_lt s d) _ _ _ _ (by omega) h i (by omega) h2
    exact ⟨e', aft_mono1 s d i e' a1, a2⟩
   ·cases h
def root (s : List C) : Prop := (rd_T56 s 0).f1 = 7 ∧ (rd_T56 s 0).f2 = 0 ∧ (rd_T56 s 0).f0.toList = []
instance (s : List C) : Decidable (root s) := by unfold root; infer_instance
def sok (s : List C) : Prop := (2 ≤ s.length ∧ s.length ≤ 20) ∧ root s ∧ aft s 6 0 = some s.length
instance (s : List C) : Decidable (sok s) := by unfold sok; infer_instance
def af (s : List C) (i : Nat) : Nat := (aft s 6 i).getD 0
theorem af_some (s : List C) (h : sok s) (i : Nat) (hi : i < s.length) : aft s 6 i = some (af s i) ∧ i < af s i ∧ af s i ≤ s.length := by
 obtain ⟨e', a1, a2⟩ := aft_visit s 6 0 _ h.2.2 i (by omega) hi
 unfold af; rw [a1]
 exact ⟨rfl, (aft_lt s 6 i e' a1).1, a2⟩
theorem af_nest (s : List C) (h : sok s) (i j : Nat) (hi : i < s.length) (hij : i ≤ j) (hj : j < af s i) : af s j ≤ af s i := by
 have h1 := af_some s h i hi
 obtain ⟨e', a1, a2⟩ := aft_visit s 6 i _ h1.1 j hij hj
 unfold af at *; rw [a1]; exact a2

theorem impl_within_ev (x a b : Int) : impl_within.f x a b = some (decide (a ≤ x ∧ x ≤ b)) := by
 unfold impl_within.f
 by_cases h : x ≥ a
 ·rw [if_pos h]; congr 1; simp [show a ≤ x from h]
 ·rw [if_neg h]; congr 1; simp [show ¬ a ≤ x from h]

theorem impl_TypeOk_ev (t : Int) : impl_TypeOk.f t = some (decide (t = 0 ∨ t = 1 ∨ t = 2 ∨ t = 5 ∨ t = 6)) := by
 unfold impl_TypeOk.f
 simp only [impl_within_ev, Option.bind_some]
 by_cases h : 0 ≤ t ∧ t ≤ 2
 ·simp only [decide_eq_true h, if_true]; rw [decide_eq_true (by omega)]
 ·simp only [decide_eq_false h, Bool.false_eq_true, if_false]
  by_cases h5 : t = 5
  ·rw [if_pos h5, decide_eq_true (by omega)]
  ·rw [if_neg h5]; congr 1
   by_cases h6 : t = 6
   ·subst h6; rfl
   ·rw [decide_eq_false (by omega)]; simpa using h6

theorem isColName_l (s : ByteArray) (hs : s.size ≤ 9223372036854775807) : ∀ (d i : Nat), i + d = s.size → Ev (fun k => impl_isColName.l0 k s s.size i) (decide ((1 ≤ s.size ∧ s.size ≤ 20) ∧ ∀ j : Nat, j < s.size → i ≤ j → 97 ≤ bt s j ∧ bt s j ≤ 122)) := by
 intro d
 induction d with
 | zero =>
  intro i hd
  refine Ev.step (f := fun _ => some (decide ((1 ≤ s.size ∧ s.size ≤ 20) ∧ ∀ j : Nat, j < s.size → i ≤ j → 97 ≤ bt s j ∧ bt s j ≤ 122))) (fun k => ?_) (Ev.now _)
  simp only [impl_isColName.l0]
  rw [if_neg (by omega), impl_within_ev]
  simp only [Option.bind_some]
  congr 1
  rw [decide_eq_decide]
  constructor
  ·intro h; exact ⟨by omega, fun j h1 h2 => by omega⟩
  ·intro h; omega
 | succ d ih =>
  intro i hd
  have hb := bt_range s i
  by_cases hc : 97 ≤ bt s i ∧ bt s i ≤ 122
  ·have e : decide ((1 ≤ s.size ∧ s.size ≤ 20) ∧ ∀ j : Nat, j < s.size → i ≤ j → 97 ≤ bt s j ∧ bt s j ≤ 122) = decide ((1 ≤ s.size ∧ s.size ≤ 20) ∧ ∀ j : Nat, j < s.size → i + 1 ≤ j → 97 ≤ bt s j ∧ bt s j ≤ 122) := by
    rw [decide_eq_decide]
    constructor
    ·intro h; exact ⟨h.1, fun j h1 h2 => h.2 j h1 (by omega)⟩
    ·intro h; refine ⟨h.1, fun j h1 h2 => ?_⟩
     by_cases hj : j = i
     ·subst hj; exact hc
     ·exact h.2 j h1 (by omega)
   rw [e]
   refine Ev.step (fun k => ?_) (ih (i + 1) (by omega))
   simp only [impl_isColName.l0]
   rw [if_pos (by omega), if_pos (by omega), if_pos (by omega), wrap_id (n := bt s i) (by omega) (by omega), impl_within_ev, decide_eq_true hc, wrap_id (n := (i : Int) + 1) (by omega) (by omega)]
   simp only [Option.bind_some, if_true]; push_cast; rfl
  ·rw [decide_eq_false (fun h => hc (h.2 i (by omega) (Nat.le_refl _)))]
   refine Ev.step (f := fun _ => some false) (fun k => ?_) (Ev.now _)
   simp only [impl_isColName.l0]
   rw [if_pos (by omega), if_pos (by omega), if_pos (by omega), wrap_id (n := bt s i) (by omega) (by omega), impl_within_ev, decide_eq_false hc]
   rfl
theorem impl_isColName_ev (s : ByteArray) (hs : s.size ≤ 9223372036854775807) : Ev (fun k => impl_isColName.f k s) (decide (nameOk s)) := by
 have h := isColName_l s hs s.size 0 (by omega)
 unfold impl_isColName.f
 rw [show decide (nameOk s) = decide ((1 ≤ s.size ∧ s.size ≤ 20) ∧ ∀ j : Nat, j < s.size → 0 ≤ j → 97 ≤ bt s j ∧ bt s j ≤ 122) from by
  rw [decide_eq_decide]; unfold nameOk
  exact ⟨fun h => ⟨h.1, fun j h1 _ => h.2 j h1⟩, fun h => ⟨h.1, fun j h1 => h.2 j h1 (Nat.zero_le _)⟩⟩]
 exact h
theorem impl_colOk_ev (a : ByteArray) (t r m : Int) : impl_colOk.f a t r m = some (decide ((t = 7 ∧ 0 < m ∨ (t = 0 ∨ t = 1 ∨ t = 2 ∨ t = 5 ∨ t = 6) ∧ m = 0) ∧ (0 ≤ r ∧ r ≤ 2))) := by
 unfold impl_colOk.f
 simp only [impl_TypeOk_ev, impl_within_ev, Option.bind_some]
 by_cases h7 : t = 7
 ·subst h7
  rw [if_pos rfl, if_neg (by decide)]
  by_cases hm : m > 0
  ·rw [if_pos hm]; congr 1; rw [decide_eq_decide]; omega
  ·rw [if_neg hm]; congr 1; symm; rw [decide_eq_false_iff_not]; omega
 ·rw [if_neg h7]
  by_cases ht : t = 0 ∨ t = 1 ∨ t = 2 ∨ t = 5 ∨ t = 6
  ·rw [decide_eq_true ht, if_pos rfl]
   by_cases hm : m = 0
   ·rw [if_pos hm]; congr 1; rw [decide_eq_decide]; omega
   ·rw [if_neg hm]; congr 1; symm; rw [decide_eq_false_iff_not]; omega
  ·rw [decide_eq_false ht, if_neg (by decide)]; congr 1; symm; rw [decide_eq_false_iff_not]; omega
theorem rdOf_mem (ns : List ByteArray) (i : Nat) (h : i < ns.length) : rdOf ByteArray.empty ns i = ns[i] := by
 unfold rdOf; simp [h]
theorem colAfter_names (s : List C) (d n : Nat) (ns : List ByteArray) (many j : Int) (hn : n < s.length) (hns : ns.length ≤ 1000000000) (R : Int)
  (hR : ¬ (∀ x ∈ ns, ¬ x.toList = (rd_T56 s n).f0.toList) → R = -1)
  (h : (∀ x ∈ ns, ¬ x.toList = (rd_T56 s n).f0.toList) → Ev (fun k => (impl_colAfter.f k s n (wrap64 ((d : Int) + 1))).bind fun t => if t < 0 then some (-1) else impl_colAfter.l0 k s d t (ns ++ [(rd_T56 s n).f0]) many (wrap64 (j + 1))) R) :
  ∀ (c i : Nat), i + c = ns.length → (∀ q, q < i → ∀ hq : q < ns.length, ¬ ns[q].toList = (rd_T56 s n).f0.toList) → Ev (fun k => impl_colAfter.l1 k s d n ns many j ns ns.length i) R := by
 intro c
 induction c with
 | zero =>
  intro i hc hq
  refine Ev.step (fun k => ?_) (h (fun x hx => by
   obtain ⟨q, hql, rfl⟩ := List.getElem_of_mem hx
   exact hq q (by omega) hql))
  simp only [impl_colAfter.l1]
  rw [if_neg (by omega), if_pos (by omega), if_pos (by omega), if_pos (by omega)]
 | succ c ih =>
  intro i hc hq
  by_cases he : ns[i].toList = (rd_T56 s n).f0.toList
  ·rw [hR (fun hx => hx _ (List.getElem_mem (by omega)) he)]
   refine Ev.step (f := fun _ => some (-1)) (fun k => ?_) (Ev.now _)
   simp only [impl_colAfter.l1]
   rw [if_pos (by omega), if_pos (by omega), if_pos (by omega), if_pos (by omega), if_pos (by omega), rdOf_mem _ _ (by omega), if_pos he]
  ·refine Ev.step (fun k => ?_) (ih (i + 1) (by omega) (fun q h1 h2 => by
    by_cases hqi : q = i
    ·subst hqi; exact he
    ·exact hq q (by omega) h2))
   simp only [impl_colAfter.l1]
   rw [if_pos (by omega), if_pos (by omega), if_pos (by omega), if_pos (by omega), if_pos (by omega), rdOf_mem _ _ (by omega), if_neg he, wrap_id (n := (i : Int) + 1) (by omega) (by omega)]; push_cast; rfl
theorem colAfter_parts (s : List C) (hs : s.length ≤ 1000000000) (d D : Nat) (hd : d ≤ 100) (ih : ∀ n : Nat, Ev (fun k => impl_colAfter.f k s n ((d + 1 : Nat) : Int)) (ofO (aft s D n))) :
  ∀ (m n : Nat) (ns : List ByteArray) (many j : Int), ns.length ≤ n → n ≤ s.length → 0 ≤ j → many < 9223372036854775808 → (many - j).toNat = m → Ev (fun k => impl_colAfter.l0 k s d n ns many j) (ofO (parts s (aft s D) m n ns)) := by
 intro m
 induction m with
 | zero =>
  intro n ns many j hns hn h0 h9 hm
  refine Ev.step (f := fun _ => some (n : Int)) (fun k => ?_) (Ev.now _)
  simp only [impl_colAfter.l0]
  rw [if_neg (by omega)]
 | succ m ihm =>
  intro n ns many j hns hn h0 h9 hm
  rw [parts_succ]
  by_cases hlt : n < s.length
  ·refine Ev.step (f := fun k => impl_colAfter.l1 k s d n ns many j ns ns.length (0 : Nat)) (fun k => ?_) ?_
   ·simp only [impl_colAfter.l0]
    rw [if_pos (by omega), if_neg (by omega)]; rfl
   refine colAfter_names s d n ns many j hlt (by omega) _ ?_ ?_ ns.length 0 (by omega) (by omega)
   ·intro hx; rw [if_neg (fun h => hx h.2)]; rfl
   ·intro hx
    rw [if_pos ⟨hlt, hx⟩, wrap_id (n := (d : Int) + 1) (by omega) (by omega), wrap_id (n := j + 1) (by omega) (by omega)]
    refine Ev.bind (ih n) ?_
    cases hq : aft s D n with
    | none =>
     simp only [ofO, Option.bind_none, if_pos (show (-1 : Int) < 0 by decide)]; exact Ev.now _
    | some n' =>
     have hl := aft_lt s D n n' hq
     simp only [ofO, Option.bind_some, if_neg (show ¬ (n' : Int) < 0 by omega)]
     exact ihm n' _ many (j + 1) (by simp; omega) hl.2 (by omega) h9 (by omega)
  ·rw [if_neg (fun h => hlt h.1)]
   refine Ev.step (f := fun _ => some (-1)) (fun k => ?_) (Ev.now _)
   simp only [impl_colAfter.l0]
   rw [if_pos (by omega), if_pos (by omega)]
def colsOk (s : List C) : Prop := ∀ i : Nat, i < s.length → (rd_T56 s i).f0.size ≤ 9223372036854775807 ∧ (rd_T56 s i).f3 < 9223372036854775808
theorem impl_colAfter_ev (s : List C) (hs : s.length ≤ 1000000000) (hc : colsOk s) : ∀ (D d a : Nat), d + D = 7 → Ev (fun k => impl_colAfter.f k s a d) (ofO (aft s D a)) := by
 have bad : ∀ (a d : Nat), Ev (fun k => impl_colAfter.j0 k s a d true) (-1) := fun a d => Ev.step (f := fun _ => some (-1)) (fun k => by simp only [impl_colAfter.j0]; rw [if_pos trivial]) (Ev.now _)
 intro D
 induction D with
 | zero =>
  intro d a hd
  refine Ev.step (fun k => ?_) (bad a d)
  simp only [impl_colAfter.f]
  by_cases h : (a : Int) ≥ s.length
  ·rw [if_pos h]
  ·rw [if_neg h, if_pos (by omega)]
 | succ D ih =>
  intro d a hd
  rw [aft_succ]
  by_cases hlt : a < s.length
  ·have hcs := hc a hlt
   have hg : Ev (fun k => impl_colAfter.j0 k s a d false) (ofO (parts s (aft s D) (rd_T56 s a).f3.toNat (a + 1) [])) := by
    refine Ev.step (fun k => ?_) (colAfter_parts s hs d D (by omega) (fun n => ih (d + 1) n (by omega)) (rd_T56 s a).f3.toNat (a + 1) [] (rd_T56 s a).f3 0 (by simp) (by omega) (by omega) hcs.2 (by simp))
    simp only [impl_colAfter.j0]
    rw [if_neg (by simp), if_pos (by omega), if_pos (by omega), wrap_id (n := (a : Int) + 1) (by omega) (by omega)]; push_cast; rfl
   by_cases h1 : ((rd_T56 s a).f1 = 7 ∧ 0 < (rd_T56 s a).f3 ∨ ((rd_T56 s a).f1 = 0 ∨ (rd_T56 s a).f1 = 1 ∨ (rd_T56 s a).f1 = 2 ∨ (rd_T56 s a).f1 = 5 ∨ (rd_T56 s a).f1 = 6) ∧ (rd_T56 s a).f3 = 0) ∧ (0 ≤ (rd_T56 s a).f2 ∧ (rd_T56 s a).f2 ≤ 2)
   ·by_cases h0 : 0 < a
    ·by_cases hn : nameOk (rd_T56 s a).f0
     ·rw [if_pos ⟨hlt, h1.1, h1.2, fun _ => hn⟩]
      refine Ev.step (f := fun k => (impl_isColName.f k (rd_T56 s a).f0).bind fun t => impl_colAfter.j0 k s a d (!t)) (fun k => ?_) ?_
      ·simp only [impl_colAfter.f]
       rw [if_neg (by omega), if_neg (by omega), if_pos (by omega), if_pos (by omega), impl_colOk_ev, decide_eq_true h1]
       simp only [Option.bind_some, if_true]
       rw [if_pos (by omega)]
      ·refine Ev.bind (impl_isColName_ev _ hcs.1) ?_
       simp only [decide_eq_true hn, Bool.not_true]; exact hg
     ·rw [if_neg (fun h => hn (h.2.2.2 h0))]
      refine Ev.step (f := fun k => (impl_isColName.f k (rd_T56 s a).f0).bind fun t => impl_colAfter.j0 k s a d (!t)) (fun k => ?_) ?_
      ·simp only [impl_colAfter.f]
       rw [if_neg (by omega), if_neg (by omega), if_pos (by omega), if_pos (by omega), impl_colOk_ev, decide_eq_true h1]
       simp only [Option.bind_some, if_true]
       rw [if_pos (by omega)]
      ·refine Ev.bind (impl_isColName_ev _ hcs.1) ?_
       simp only [decide_eq_false hn, Bool.not_false]; exact bad a d
    ·rw [if_pos ⟨hlt, h1.1, h1.2, fun h => absurd h h0⟩]
     refine Ev.step (fun k => ?_) hg
     simp only [impl_colAfter.f]
     rw [if_neg (by omega), if_neg (by omega), if_pos (by omega), if_pos (by omega), impl_colOk_ev, decide_eq_true h1]
     simp only [Option.bind_some, if_true]
     rw [if_neg (by omega)]
   ·rw [if_neg (fun h => h1 ⟨h.2.1, h.2.2.1⟩)]
    refine Ev.step (fun k => ?_) (bad a d)
    simp only [impl_colAfter.f]
    rw [if_neg (by omega), if_neg (by omega), if_pos (by omega), if_pos (by omega), impl_colOk_ev, decide_eq_false h1]
    simp only [Option.bind_some, Bool.false_eq_true, if_false]
  ·rw [if_neg (fun h => hlt h.1)]
   refine Ev.step (fun k => ?_) (bad a d)
   simp only [impl_colAfter.f]
   rw [if_pos (by omega)]
theorem impl_SchemaOk_ev (s : List C) (hs : s.length ≤ 1000000000) (hc : colsOk s) : Ev (fun k => impl_SchemaOk.f k s) (decide (sok s)) := by
 unfold impl_SchemaOk.f
 simp only [impl_within_ev, Option.bind_some]
 by_cases h1 : 2 ≤ s.length ∧ s.length ≤ 20
 ·simp only [decide_eq_true (show (2 : Int) ≤ s.length ∧ (s.length : Int) ≤ 20 by omega), if_true, if_pos (show (0 : Int) < s.length by omega)]
  by_cases h7 : (rd_T56 s 0).f1 = 7
  ·by_cases h0 : (rd_T56 s 0).f2 = 0
   ·by_cases hn : (rd_T56 s 0).f0.toList = []
    ·simp only [if_pos h7, if_pos h0, if_pos hn]
     refine Ev.bind (impl_colAfter_ev s hs hc 6 1 0 (by omega)) ?_
     have e : (ofO (aft s 6 0) == (s.length : Int)) = decide (sok s) := by
      by_cases ha : aft s 6 0 = some s.length
      ·rw [decide_eq_true (show sok s from ⟨h1, ⟨h7, h0, hn⟩, ha⟩), ha]; simp [ofO]
      ·rw [decide_eq_false (fun h => ha h.2.2), beq_eq_false_iff_ne]
       intro he
       cases hq : aft s 6 0 with
       | none => rw [hq] at he; simp only [ofO] at he; omega
       | some n => rw [hq] at he ha; simp only [ofO] at he; exact ha (congrArg some (by omega))
     rw [e]; exact Ev.now _
    ·simp only [if_pos h7, if_pos h0, if_neg hn]
     rw [decide_eq_false (fun h => hn h.2.1.2.2)]; exact Ev.now _
   ·simp only [if_pos h7, if_neg h0]
    rw [decide_eq_false (fun h => h0 h.2.1.2.1)]; exact Ev.now _
  ·simp only [if_neg h7]
   rw [decide_eq_false (fun h => h7 h.2.1.1)]; exact Ev.now _
 ·simp only [decide_eq_false (show ¬ ((2 : Int) ≤ s.length ∧ (s.length : Int) ≤ 20) by omega), Bool.false_eq_true, if_false]
  rw [decide_eq_false (fun h => h1 h.1)]; exact Ev.now _

theorem spec_l1In_ev (x a b : Int) : spec_l1In.f x a b = some (decide (a ≤ x ∧ x ≤ b)) := by
 unfold spec_l1In.f
 by_cases h : x ≥ a
 ·rw [if_pos h]; congr 1; simp [show a ≤ x from h]
 ·rw [if_neg h]; congr 1; simp [show ¬ a ≤ x from h]

theorem spec_l5Type_ev (t : Int) : spec_l5Type.f t = some (decide (t = 0 ∨ t = 1 ∨ t = 2 ∨ t = 5 ∨ t = 6)) := by
 unfold spec_l5Type.f
 by_cases h0 : t = 0
 ·rw [if_pos h0, decide_eq_true (by omega)]
 rw [if_neg h0]
 by_cases h1 : t = 1
 ·rw [if_pos h1, decide_eq_true (by omega)]
 rw [if_neg h1]
 by_cases h2 : t = 2
 ·rw [if_pos h2, decide_eq_true (by omega)]
 rw [if_neg h2]
 by_cases h5 : t = 5
 ·rw [if_pos h5, decide_eq_true (by omega)]
 rw [if_neg h5]
 by_cases h6 : t = 6
 ·rw [if_pos h6, decide_eq_true (by omega)]
 rw [if_neg h6, decide_eq_false (by omega)]

theorem l5Name_l (s : ByteArray) (hs : s.size ≤ 9223372036854775807) : ∀ (d i : Nat), i + d = s.size → Ev (fun k => spec_l5Name.l0 k s i) (decide (∀ j : Nat, j < s.size → i ≤ j → 97 ≤ bt s j ∧ bt s j ≤ 122)) := by
 intro d
 induction d with
 | zero =>
  intro i hd
  rw [decide_eq_true (fun j h1 h2 => by omega)]
  refine Ev.step (f := fun _ => some true) (fun k => ?_) (Ev.now _)
  simp only [spec_l5Name.l0]
  rw [if_neg (by omega)]
 | succ d ih =>
  intro i hd
  by_cases hc : 97 ≤ bt s i ∧ bt s i ≤ 122
  ·have e : decide (∀ j : Nat, j < s.size → i ≤ j → 97 ≤ bt s j ∧ bt s j ≤ 122) = decide (∀ j : Nat, j < s.size → i + 1 ≤ j → 97 ≤ bt s j ∧ bt s j ≤ 122) := by
    rw [decide_eq_decide]
    constructor
    ·intro h j h1 h2; exact h j h1 (by omega)
    ·intro h j h1 h2
     by_cases hj : j = i
     ·subst hj; exact hc
     ·exact h j h1 (by omega)
   rw [e]
   refine Ev.step (fun k => ?_) (ih (i + 1) (by omega))
   simp only [spec_l5Name.l0]
   rw [if_pos (by omega), if_pos (by omega), if_neg (by omega), if_neg (by omega), wrap_id (n := (i : Int) + 1) (by omega) (by omega)]; push_cast; rfl
  ·rw [decide_eq_false (fun h => hc (h i (by omega) (Nat.le_refl _)))]
   refine Ev.step (f := fun _ => some false) (fun k => ?_) (Ev.now _)
   simp only [spec_l5Name.l0]
   rw [if_pos (by omega), if_pos (by omega)]
   by_cases h1 : bt s i < 97
   ·rw [if_pos h1]
   ·rw [if_neg h1, if_pos (by omega)]
theorem spec_l5Name_ev (s : ByteArray) (hs : s.size ≤ 9223372036854775807) : Ev (fun k => spec_l5Name.f k s) (decide (nameOk s)) := by
 unfold spec_l5Name.f
 simp only [spec_l1In_ev, Option.bind_some]
 by_cases h : 1 ≤ s.size ∧ s.size ≤ 20
 ·simp only [decide_eq_true (show (1 : Int) ≤ s.size ∧ (s.size : Int) ≤ 20 by omega), if_true]
  rw [show decide (nameOk s) = decide (∀ j : Nat, j < s.size → 0 ≤ j → 97 ≤ bt s j ∧ bt s j ≤ 122) from by
   rw [decide_eq_decide]; unfold nameOk
   exact ⟨fun h j h1 _ => h.2 j h1, fun h' => ⟨h, fun j h1 => h' j h1 (Nat.zero_le _)⟩⟩]
  exact l5Name_l s hs s.size 0 (by omega)
 ·simp only [decide_eq_false (show ¬ ((1 : Int) ≤ s.size ∧ (s.size : Int) ≤ 20) by omega), Bool.false_eq_true, if_false]
  rw [decide_eq_false (fun h' => h h'.1)]; exact Ev.now _
theorem l5Check_names (s : List C) (d n : Nat) (ns : List ByteArray) (j : Int) (x : ByteArray) (t r many : Int) (hn : n < s.length) (hns : ns.length ≤ 1000000000) (R : Int)
  (hR : ¬ (∀ x ∈ ns, ¬ x.toList = (rd_T56 s n).f0.toList) → R = -1)
  (h : (∀ x ∈ ns, ¬ x.toList = (rd_T56 s n).f0.toList) → Ev (fun k => (spec_l5Check.f k s n (wrap64 ((d : Int) + 1))).bind fun t' => if t' < 0 then some (-1) else spec_l5Check.l0 k s d t' (ns ++ [(rd_T56 s n).f0]) (wrap64 (j + 1)) x t r many) R) :
  ∀ (c i : Nat), i + c = ns.length → (∀ q, q < i → ∀ hq : q < ns.length, ¬ ns[q].toList = (rd_T56 s n).f0.toList) → Ev (fun k => spec_l5Check.l1 k s d n ns j i x t r many) R := by
 intro c
 induction c with
 | zero =>
  intro i hc hq
  refine Ev.step (fun k => ?_) (h (fun x hx => by
   obtain ⟨q, hql, rfl⟩ := List.getElem_of_mem hx
   exact hq q (by omega) hql))
  simp only [spec_l5Check.l1]
  rw [if_neg (by omega), if_pos (by omega), if_pos (by omega), if_pos (by omega)]
 | succ c ih =>
  intro i hc hq
  by_cases he : ns[i].toList = (rd_T56 s n).f0.toList
  ·rw [hR (fun hx => hx _ (List.getElem_mem (by omega)) he)]
   refine Ev.step (f := fun _ => some (-1)) (fun k => ?_) (Ev.now _)
   simp only [spec_l5Check.l1]
   rw [if_pos (by omega), if_pos (by omega), if_pos (by omega), if_pos (by omega), rdOf_mem _ _ (by omega), if_pos he]
  ·refine Ev.step (fun k => ?_) (ih (i + 1) (by omega) (fun q h1 h2 => by
    by_cases hqi : q = i
    ·subst hqi; exact he
    ·exact hq q (by omega) h2))
   simp only [spec_l5Check.l1]
   rw [if_pos (by omega), if_pos (by omega), if_pos (by omega), if_pos (by omega), rdOf_mem _ _ (by omega), if_neg he, wrap_id (n := (i : Int) + 1) (by omega) (by omega)]; push_cast; rfl
theorem l5Check_parts (s : List C) (hs : s.length ≤ 1000000000) (d D : Nat) (hd : d ≤ 100) (x : ByteArray) (t r : Int) (ih : ∀ n : Nat, 0 < n → Ev (fun k => spec_l5Check.f k s n ((d + 1 : Nat) : Int)) (ofO (aft s D n))) :
  ∀ (m n : Nat) (ns : List ByteArray) (many j : Int), 0 < n → ns.length ≤ n → n ≤ s.length → 0 ≤ j → many < 9223372036854775808 → (many - j).toNat = m → Ev (fun k => spec_l5Check.l0 k s d n ns j x t r many) (ofO (parts s (aft s D) m n ns)) := by
 intro m
 induction m with
 | zero =>
  intro n ns many j hp hns hn h0 h9 hm
  refine Ev.step (f := fun _ => some (n : Int)) (fun k => ?_) (Ev.now _)
  simp only [spec_l5Check.l0]
  rw [if_neg (by omega)]
 | succ m ihm =>
  intro n ns many j hp hns hn h0 h9 hm
  rw [parts_succ]
  by_cases hlt : n < s.length
  ·refine Ev.step (f := fun k => spec_l5Check.l1 k s d n ns j (0 : Nat) x t r many) (fun k => ?_) ?_
   ·simp only [spec_l5Check.l0]
    rw [if_pos (by omega), if_neg (by omega)]; rfl
   refine l5Check_names s d n ns j x t r many hlt (by omega) _ ?_ ?_ ns.length 0 (by omega) (by omega)
   ·intro hx; rw [if_neg (fun h => hx h.2)]; rfl
   ·intro hx
    rw [if_pos ⟨hlt, hx⟩, wrap_id (n := (d : Int) + 1) (by omega) (by omega), wrap_id (n := j + 1) (by omega) (by omega)]
    refine Ev.bind (ih n hp) ?_
    cases hq : aft s D n with
    | none =>
     simp only [ofO, Option.bind_none, if_pos (show (-1 : Int) < 0 by decide)]; exact Ev.now _
    | some n' =>
     have hl := aft_lt s D n n' hq
     simp only [ofO, Option.bind_some, if_neg (show ¬ (n' : Int) < 0 by omega)]
     exact ihm n' _ many (j + 1) (by omega) (by simp; omega) hl.2 (by omega) h9 (by omega)
  ·rw [if_neg (fun h => hlt h.1)]
   refine Ev.step (f := fun _ => some (-1)) (fun k => ?_) (Ev.now _)
   simp only [spec_l5Check.l0]
   rw [if_pos (by omega), if_pos (by omega)]
def chk (s : List C) (D a : Nat) : Option Nat := if a = 0 ∧ ¬ root s then none else aft s D a
theorem spec_l5Check_ev (s : List C) (hs : s.length ≤ 1000000000) (hc : colsOk s) : ∀ (D d a : Nat), d + D = 7 → Ev (fun k => spec_l5Check.f k s a d) (ofO (chk s D a)) := by
 have bad : ∀ (a d : Nat), Ev (fun k => spec_l5Check.j0 k s a d true) (-1) := fun a d => Ev.step (f := fun _ => some (-1)) (fun k => by simp only [spec_l5Check.j0]; rw [if_pos trivial]) (Ev.now _)
 have bad1 : ∀ (a d : Nat) x t r m, Ev (fun k => spec_l5Check.j1 k s a d true x t r m) (-1) := fun a d x t r m => Ev.step (f := fun _ => some (-1)) (fun k => by simp only [spec_l5Check.j1]; rw [if_pos trivial]) (Ev.now _)
 intro D
 induction D with
 | zero =>
  intro d a hd
  rw [show chk s 0 a = none by unfold chk; split <;> rfl]
  refine Ev.step (fun k => ?_) (bad a d)
  simp only [spec_l5Check.f]
  by_cases h : (a : Int) ≥ s.length
  ·rw [if_pos h]
  ·rw [if_neg h, decide_eq_true (by omega)]
 | succ D ih =>
  intro d a hd
  have ih' : ∀ n : Nat, 0 < n → Ev (fun k => spec_l5Check.f k s n ((d + 1 : Nat) : Int)) (ofO (aft s D n)) := by
   intro n hn
   have h := ih (d + 1) n (by omega)
   rwa [show chk s D n = aft s D n by unfold chk; rw [if_neg (by omega)]] at h
  by_cases hlt : a < s.length
  ·have hcs := hc a hlt
   have hj1 : ∀ ok : Bool, Ev (fun k => spec_l5Check.j1 k s a d (!ok) (rd_T56 s a).f0 (rd_T56 s a).f1 (rd_T56 s a).f2 (rd_T56 s a).f3) (ofO (if ok = true ∧ ((rd_T56 s a).f1 = 7 ∧ 0 < (rd_T56 s a).f3 ∨ ((rd_T56 s a).f1 = 0 ∨ (rd_T56 s a).f1 = 1 ∨ (rd_T56 s a).f1 = 2 ∨ (rd_T56 s a).f1 = 5 ∨ (rd_T56 s a).f1 = 6) ∧ (rd_T56 s a).f3 = 0) then parts s (aft s D) (rd_T56 s a).f3.toNat (a + 1) [] else none)) := by
    intro ok
    cases ok with
    | false => rw [if_neg (by simp)]; exact bad1 _ _ _ _ _ _
    | true =>
     by_cases h7 : (rd_T56 s a).f1 = 7
     ·by_cases hm : (rd_T56 s a).f3 < 1
      ·rw [if_neg (by omega)]
       refine Ev.step (f := fun _ => some (-1)) (fun k => ?_) (Ev.now _)
       simp only [spec_l5Check.j1]
       rw [if_neg (by simp), if_pos h7, if_pos hm]
      ·rw [if_pos ⟨rfl, Or.inl ⟨h7, by omega⟩⟩]
       refine Ev.step (fun k => ?_) (l5Check_parts s hs d D (by omega) (rd_T56 s a).f0 (rd_T56 s a).f1 (rd_T56 s a).f2 ih' (rd_T56 s a).f3.toNat (a + 1) [] (rd_T56 s a).f3 0 (by omega) (by simp) (by omega) (by omega) hcs.2 (by simp))
       simp only [spec_l5Check.j1]
       rw [if_neg (by simp), if_pos h7, if_neg hm, wrap_id (n := (a : Int) + 1) (by omega) (by omega)]; push_cast; rfl
     ·by_cases ht : (rd_T56 s a).f1 = 0 ∨ (rd_T56 s a).f1 = 1 ∨ (rd_T56 s a).f1 = 2 ∨ (rd_T56 s a).f1 = 5 ∨ (rd_T56 s a).f1 = 6
      ·by_cases hm : (rd_T56 s a).f3 = 0
       ·rw [if_pos ⟨rfl, Or.inr ⟨ht, hm⟩⟩, hm]
        refine Ev.step (f := fun _ => some ((a : Int) + 1)) (fun k => ?_) (Ev.now _)
        simp only [spec_l5Check.j1]
        rw [if_neg (by simp), if_neg h7, spec_l5Type_ev, decide_eq_true ht, wrap_id (n := (a : Int) + 1) (by omega) (by omega)]
        simp only [Option.bind_some, if_true, if_pos hm]
       ·rw [if_neg (fun h => by rcases h.2 with h | h; exact h7 h.1; exact hm h.2)]
        refine Ev.step (f := fun _ => some (-1)) (fun k => ?_) (Ev.now _)
        simp only [spec_l5Check.j1]
        rw [if_neg (by simp), if_neg h7, spec_l5Type_ev, decide_eq_true ht]
        simp only [Option.bind_some, if_true, if_neg hm]
      ·rw [if_neg (fun h => by rcases h.2 with h | h; exact h7 h.1; exact ht h.1)]
       refine Ev.step (f := fun _ => some (-1)) (fun k => ?_) (Ev.now _)
       simp only [spec_l5Check.j1]
       rw [if_neg (by simp), if_neg h7, spec_l5Type_ev, decide_eq_false ht]
       simp only [Option.bind_some, Bool.false_eq_true, if_false]
   refine Ev.step (f := fun k => spec_l5Check.j0 k s a d false) (fun k => ?_) ?_
   ·simp only [spec_l5Check.f]
    rw [if_neg (by omega), decide_eq_false (by omega)]
   by_cases h0 : a = 0
   ·subst h0
    by_cases hr : root s
    ·have h2 := hj1 true
     rw [show chk s (D + 1) 0 = aft s (D + 1) 0 by unfold chk; rw [if_neg (fun h => h.2 hr)], aft_succ]
     have e2 : 0 ≤ (rd_T56 s (0 : Nat)).f2 ∧ (rd_T56 s (0 : Nat)).f2 ≤ 2 := by
      have : (rd_T56 s (0 : Nat)).f2 = 0 := hr.2.1
      omega
     have e : (0 < s.length ∧ cok s 0) ↔ (true = true ∧ ((rd_T56 s (0 : Nat)).f1 = 7 ∧ 0 < (rd_T56 s (0 : Nat)).f3 ∨ ((rd_T56 s (0 : Nat)).f1 = 0 ∨ (rd_T56 s (0 : Nat)).f1 = 1 ∨ (rd_T56 s (0 : Nat)).f1 = 2 ∨ (rd_T56 s (0 : Nat)).f1 = 5 ∨ (rd_T56 s (0 : Nat)).f1 = 6) ∧ (rd_T56 s (0 : Nat)).f3 = 0)) :=
      ⟨fun h => ⟨rfl, h.2.1⟩, fun h => ⟨hlt, h.2, e2, fun h => absurd h (by omega)⟩⟩
     rw [ifc e]
     refine Ev.step (fun k => ?_) h2
     simp only [spec_l5Check.j0]
     obtain ⟨r1, r2, r3⟩ := hr
     rw [if_neg (by simp), if_pos (by omega), if_pos (by omega), if_pos (show ((0 : Nat) : Int) = 0 from rfl), if_pos (show (rd_T56 s ((0 : Nat) : Int)).f0.toList = [] from r3), if_pos (show (rd_T56 s ((0 : Nat) : Int)).f2 = 0 from r2), if_pos (show (rd_T56 s ((0 : Nat) : Int)).f1 = 7 from r1), if_neg (by omega), spec_l1In_ev, decide_eq_true e2]
     rfl
    ·rw [show chk s (D + 1) 0 = none by unfold chk; rw [if_pos ⟨rfl, hr⟩]]
     refine Ev.step (fun k => ?_) (bad1 0 d (rd_T56 s (0 : Nat)).f0 (rd_T56 s (0 : Nat)).f1 (rd_T56 s (0 : Nat)).f2 (rd_T56 s (0 : Nat)).f3)
     simp only [spec_l5Check.j0]
     rw [if_neg (by simp), if_pos (by omega), if_pos (by omega), if_pos (show ((0 : Nat) : Int) = 0 from rfl)]
     by_cases r3 : (rd_T56 s ((0 : Nat) : Int)).f0.toList = []
     ·by_cases r2 : (rd_T56 s ((0 : Nat) : Int)).f2 = 0
      ·by_cases r1 : (rd_T56 s ((0 : Nat) : Int)).f1 = 7
       ·exact absurd ⟨r1, r2, r3⟩ hr
       ·rw [if_pos r3, if_pos r2, if_neg r1]
      ·rw [if_pos r3, if_neg r2]
     ·rw [if_neg r3]
   ·rw [show chk s (D + 1) a = aft s (D + 1) a by unfold chk; rw [if_neg (fun h => h0 h.1)], aft_succ]
    refine Ev.step (f := fun k => (spec_l5Name.f k (rd_T56 s a).f0).bind fun t => if t = true then (spec_l1In.f (rd_T56 s a).f2 0 2).bind fun t => spec_l5Check.j1 k s a d (!t) (rd_T56 s a).f0 (rd_T56 s a).f1 (rd_T56 s a).f2 (rd_T56 s a).f3 else spec_l5Check.j1 k s a d true (rd_T56 s a).f0 (rd_T56 s a).f1 (rd_T56 s a).f2 (rd_T56 s a).f3) (fun k => ?_) ?_
    ·simp only [spec_l5Check.j0]
     rw [if_neg (by simp), if_pos (by omega), if_pos (by omega), if_neg (by omega), if_pos (by omega)]
    refine Ev.bind (spec_l5Name_ev _ hcs.1) ?_
    by_cases hn : nameOk (rd_T56 s a).f0
    ·simp only [decide_eq_true hn, if_true, spec_l1In_ev, Option.bind_some]
     have h2 := hj1 (decide (0 ≤ (rd_T56 s a).f2 ∧ (rd_T56 s a).f2 ≤ 2))
     rw [show ofO (if a < s.length ∧ cok s a then parts s (aft s D) (rd_T56 s a).f3.toNat (a + 1) [] else none) = ofO (if decide (0 ≤ (rd_T56 s a).f2 ∧ (rd_T56 s a).f2 ≤ 2) = true ∧ ((rd_T56 s a).f1 = 7 ∧ 0 < (rd_T56 s a).f3 ∨ ((rd_T56 s a).f1 = 0 ∨ (rd_T56 s a).f1 = 1 ∨ (rd_T56 s a).f1 = 2 ∨ (rd_T56 s a).f1 = 5 ∨ (rd_T56 s a).f1 = 6) ∧ (rd_T56 s a).f3 = 0) then parts s (aft s D) (rd_T56 s a).f3.toNat (a + 1) [] else none) from congrArg ofO (ifc ⟨fun h => ⟨decide_eq_true h.2.2.1, h.2.1⟩, fun h => ⟨hlt, h.2, of_decide_eq_true h.1, fun _ => hn⟩⟩ _ _)]
     exact h2
    ·simp only [decide_eq_false hn, Bool.false_eq_true, if_false]
     rw [if_neg (fun h => hn (h.2.2.2 (by omega)))]
     exact bad1 _ _ _ _ _ _
  ·rw [show chk s (D + 1) a = none by
    unfold chk; split
    ·rfl
    ·rw [aft_succ, if_neg (fun h => hlt h.1)]]
   refine Ev.step (fun k => ?_) (bad a d)
   simp only [spec_l5Check.f]
   rw [if_pos (by omega)]
theorem spec_SchemaOk_ev (s : List C) (hs : s.length ≤ 1000000000) (hc : colsOk s) : Ev (fun k => spec_SchemaOk.f k s) (decide (sok s)) := by
 unfold spec_SchemaOk.f
 simp only [spec_l1In_ev, Option.bind_some]
 by_cases h1 : 2 ≤ s.length ∧ s.length ≤ 20
 ·simp only [decide_eq_true (show (2 : Int) ≤ s.length ∧ (s.length : Int) ≤ 20 by omega), if_true]
  refine Ev.bind (spec_l5Check_ev s hs hc 6 1 0 (by omega)) ?_
  have e : (ofO (chk s 6 0) == (s.length : Int)) = decide (sok s) := by
   unfold chk
   by_cases hr : root s
   ·rw [if_neg (fun h => h.2 hr)]
    by_cases ha : aft s 6 0 = some s.length
    ·rw [decide_eq_true (show sok s from ⟨h1, hr, ha⟩), ha]; simp [ofO]
    ·rw [decide_eq_false (fun h => ha h.2.2), beq_eq_false_iff_ne]
     intro he
     cases hq : aft s 6 0 with
     | none => rw [hq] at he; simp only [ofO] at he; omega
     | some n => rw [hq] at he ha; simp only [ofO] at he; exact ha (congrArg some (by omega))
   ·rw [if_pos ⟨rfl, hr⟩, decide_eq_false (fun h => hr h.2.1), beq_eq_false_iff_ne]; simp only [ofO]; omega
  rw [e]; exact Ev.now _
 ·simp only [decide_eq_false (show ¬ ((2 : Int) ≤ s.length ∧ (s.length : Int) ≤ 20) by omega), Bool.false_eq_true, if_false]
  rw [decide_eq_false (fun h => h1 h.1)]; exact Ev.now _

theorem spec_l1Byte_ev (l : List Int) (i h : Int) (hl : ∀ x ∈ l, (Lit.int .u8 x).wf = true) (hlen : l.length ≤ 1000000000000) (h0 : 0 ≤ i) (h1 : i ≤ l.length) :
  ∃ v i' h', spec_l1Byte.f l i h = some (v, i', h') ∧ 0 ≤ v ∧ v < 256 ∧ 0 ≤ i' ∧ i' ≤ l.length := by
 have m : ∀ x, Go.bits .and .i64 x 255 = x % 256 := fun x => and_mask x 8 (by decide)
 unfold spec_l1Byte.f
 by_cases hi : i < l.length
 ·rw [if_pos hi, if_pos h0, m, m, wrap_id (n := i + 1) (by omega) (by omega)]
  exact ⟨_, _, _, rfl, by omega, by omega, by omega, by omega⟩
 ·rw [if_neg hi, m]
  exact ⟨_, _, _, rfl, by omega, by omega, by omega, by omega⟩
theorem spec_l1Below_ev (l : List Int) (i h n : Int) (hl : ∀ x ∈ l, (Lit.int .u8 x).wf = true) (hlen : l.length ≤ 1000000000000) (h0 : 0 ≤ i) (h1 : i ≤ l.length) :
  ∃ v i' h', spec_l1Below.f l i h n = some (v, i', h') ∧ 0 ≤ v ∧ (0 < n → v < n) ∧ (n ≤ 0 → v = 0) ∧ 0 ≤ i' ∧ i' ≤ l.length := by
 unfold spec_l1Below.f
 by_cases hn : n ≤ 0
 ·rw [if_pos hn]; exact ⟨_, _, _, rfl, by omega, by omega, by omega, h0, h1⟩
 ·rw [if_neg hn]
  obtain ⟨v, i1, h2, e, a, b, c, d⟩ := spec_l1Byte_ev l i h hl hlen h0 h1
  by_cases hb : n ≤ 256
  ·rw [if_pos hb]
   simp only [e, Option.bind_some]
   rw [if_neg (by omega)]
   refine ⟨_, _, _, rfl, ?_⟩
   rw [Int.tmod_eq_emod_of_nonneg a]
   exact ⟨Int.emod_nonneg _ (by omega), fun _ => Int.emod_lt_of_pos _ (by omega), by omega, c, d⟩
  ·rw [if_neg hb]
   obtain ⟨v2, i2, h3, e2, a2, b2, c2, d2⟩ := spec_l1Byte_ev l i1 h2 hl hlen c d
   obtain ⟨v3, i3, h4, e3, a3, b3, c3, d3⟩ := spec_l1Byte_ev l i2 h3 hl hlen c2 d2
   obtain ⟨v4, i4, h5, e4, a4, b4, c4, d4⟩ := spec_l1Byte_ev l i3 h4 hl hlen c3 d3
   simp only [e, e2, e3, e4, Option.bind_some]
   rw [if_neg (by omega), wrap_id (n := v * 16777216) (by omega) (by omega), wrap_id (n := v2 * 65536) (by omega) (by omega), wrap_id (n := v3 * 256) (by omega) (by omega), wrap_id (n := v * 16777216 + v2 * 65536) (by omega) (by omega), wrap_id (n := v * 16777216 + v2 * 65536 + v3 * 256) (by omega) (by omega), wrap_id (by omega) (by omega)]
   refine ⟨_, _, _, rfl, ?_⟩
   rw [Int.tmod_eq_emod_of_nonneg (by omega)]
   exact ⟨Int.emod_nonneg _ (by omega), fun _ => Int.emod_lt_of_pos _ (by omega), by omega, c4, d4⟩
theorem spec_l1New_ev (l : List Int) (hlen : l.length ≤ 1000000000000) : ∃ h, Ev (fun k => spec_l1New.f k l) (l, 0, h) := by
 have key : ∀ (d : Nat) (i x : Int), 0 ≤ i → i ≤ l.length → (l.length : Int) - i = d → ∃ h, Ev (fun k => spec_l1New.l0 k l x i) (l, 0, h) := by
  intro d
  induction d with
  | zero =>
   intro i x h0 h1 hd
   refine ⟨x, Ev.step (f := fun _ => some (l, 0, x)) (fun k => ?_) (Ev.now _)⟩
   simp only [spec_l1New.l0]; rw [if_neg (by omega)]
  | succ d ih =>
   intro i x h0 h1 hd
   by_cases h4 : i < 4000
   ·obtain ⟨h, e⟩ := ih (i + 1) (Go.bits .and .i64 (wrap64 ((wrap64 ((wrap64 (x * 131)) + (wrap64 (rd l i)))) + 7)) 1073741823) (by omega) (by omega) (by omega)
    refine ⟨h, Ev.step (fun k => ?_) e⟩
    simp only [spec_l1New.l0]; rw [if_pos (by omega), if_pos h4, if_pos h0, wrap_id (n := i + 1) (by omega) (by omega)]
   ·refine ⟨x, Ev.step (f := fun _ => some (l, 0, x)) (fun k => ?_) (Ev.now _)⟩
    simp only [spec_l1New.l0]; rw [if_pos (by omega), if_neg h4]
 obtain ⟨h, e⟩ := key l.length 0 (wrap64 (11443 + (l.length : Int))) (by omega) (by omega) (by omega)
 exact ⟨h, e⟩
theorem laws_big_ev (l : List Int) : laws_big.f l = some (decide ((l.length : Int) > 1048576)) := rfl

theorem spec_l1PickInt_ev (l : List Int) (i h : Int) (p : List Int) (hl : ∀ x ∈ l, (Lit.int .u8 x).wf = true) (hlen : l.length ≤ 1000000000000) (h0 : 0 ≤ i) (h1 : i ≤ l.length) (hp : 0 < p.length) :
  ∃ v i' h', spec_l1PickInt.f l i h p = some (v, i', h') ∧ v ∈ p ∧ 0 ≤ i' ∧ i' ≤ l.length := by
 unfold spec_l1PickInt.f
 obtain ⟨v, i1, h2, e, a, b, _, c, d⟩ := spec_l1Below_ev l i h p.length hl hlen h0 h1
 have b := b (by omega)
 simp only [e, Option.bind_some]
 rw [if_pos a, if_pos b]
 refine ⟨_, _, _, rfl, ?_, c, d⟩
 rw [rd_eq' _ _ a (by omega)]; exact List.getElem_mem _

theorem spec_l1Once_ev (l : List Int) (i h n : Int) (hl : ∀ x ∈ l, (Lit.int .u8 x).wf = true) (hlen : l.length ≤ 1000000000000) (h0 : 0 ≤ i) (h1 : i ≤ l.length) :
  ∃ v i' h', spec_l1Once.f l i h n = some (v, i', h') ∧ 0 ≤ i' ∧ i' ≤ l.length := by
 unfold spec_l1Once.f
 obtain ⟨v, i1, g1, e, _, _, _, c, d⟩ := spec_l1Below_ev l i h n hl hlen h0 h1
 simp only [e, Option.bind_some]
 exact ⟨_, _, _, rfl, c, d⟩

theorem ev_if {α : Type} {c : Prop} [Decidable c] {g f : Nat → Option α} {R : α} (hc : c) (h : Ev g R) : Ev (fun k => if c then g k else f k) R := by
 simp only [if_pos hc]; exact h

theorem ev_succ' {α : Type} {g : Nat → Option α} {r : α} (h : Ev (fun k => g (k + 1)) r) : Ev g r := Ev.step (fun _ => rfl) h

def gcb (s : List C) (b : Int) : Prop := ∀ x ∈ s, x.f0.size ≤ 1000 ∧ -b ≤ x.f3 ∧ x.f3 ≤ b
theorem gcb_app {s r : List C} {b : Int} (h : gcb s b) (k : gcb r b) : gcb (s ++ r) b := by
 intro x hx
 rcases List.mem_append.1 hx with hx | hx
 ·exact h x hx
 ·exact k x hx
theorem gcb_one {x : C} {b : Int} (h : x.f0.size ≤ 1000 ∧ -b ≤ x.f3 ∧ x.f3 ≤ b) : gcb [x] b := by
 intro y hy
 rw [List.mem_singleton] at hy; subst hy; exact h
theorem gcb_up {s : List C} {b c : Int} (h : gcb s b) (hb : b ≤ c) : gcb s c := by
 intro x hx
 have := h x hx
 omega
theorem gcb_rd {s : List C} {b : Int} (h : gcb s b) (i : Int) (h0 : 0 ≤ i) (h1 : i < s.length) : (rd_T56 s i).f0.size ≤ 1000 ∧ -b ≤ (rd_T56 s i).f3 ∧ (rd_T56 s i).f3 ≤ b := by
 unfold rd_T56
 rw [List.getD_eq_getElem?_getD, List.getElem?_eq_getElem (by omega)]
 exact h _ (List.getElem_mem _)
theorem gcb_set {s : List C} {b : Int} (h : gcb s b) (i : Nat) {x : C} (k : x.f0.size ≤ 1000 ∧ -b ≤ x.f3 ∧ x.f3 ≤ b) : gcb (s.set i x) b := by
 intro y hy
 rcases List.mem_or_eq_of_mem_set hy with hy | rfl
 ·exact h y hy
 ·exact k
theorem gcb_ok {s : List C} {b : Int} (h : gcb s b) (hb : b ≤ 1000000) : colsOk s := by
 intro i hi
 have := gcb_rd h i (by omega) (by omega)
 omega
theorem rdc_last (x : List C) (v : C) : rd_T56 (x ++ [v]) ((x.length : Nat) : Int) = v := by
 unfold rd_T56; simp
theorem setc_last (x : List C) (v u : C) : (x ++ [v]).set ((x.length : Int)).toNat u = x ++ [u] := by
 rw [Int.toNat_natCast, set_mid _ _ _ _ rfl (by simp)]; simp
def bnd : Nat → Nat
 | 0 => 1
 | d + 1 => 1 + 3 * bnd d
theorem two_bytes (a b : Int) : (strOfNums [a, b]).toList ≠ [] ∧ (strOfNums [a, b]).size ≤ 1000 := by
 refine ⟨fun h => ?_, by rw [strOfNums_size]; simp⟩
 have := (Go.toList_nil_iff_emptyBytes _).1 h
 have h2 := congrArg ByteArray.size this
 rw [strOfNums_size] at h2
 exact absurd (show (2 : Nat) = 0 from h2) (by decide)
theorem spec_l5DrawCol_ev (l : List Int) (hl : ∀ x ∈ l, (Lit.int .u8 x).wf = true) (hlen : l.length ≤ 1000000000000) : ∀ (D : Nat) (i h : Int) (nm : ByteArray) (s : List C), D ≤ 10 → nm.size ≤ 1000 → (nm.toList = [] → 0 < D) → gcb s 10 → s.length + bnd D ≤ 1000000 → 0 ≤ i → i ≤ l.length →
  ∃ r i' h', Ev (fun k => spec_l5DrawCol.f k l i h nm D s) (r, i', h') ∧ gcb r 10 ∧ s.length < r.length ∧ r.length ≤ s.length + bnd D ∧ 0 ≤ i' ∧ i' ≤ l.length := by
 intro D
 induction D with
 | zero =>
  intro i h nm s hD hz hn hg hs h0 h1
  obtain ⟨t, i1, g1, e1, m1, c1, d1⟩ := spec_l1PickInt_ev l i h [0, 1, 2, 5, 6] hl hlen h0 h1 (by simp)
  obtain ⟨v, i2, g2, e2, v0, v1, _, c2, d2⟩ := spec_l1Below_ev l i1 g1 3 hl hlen c1 d1
  have ht : ¬ t = 7 := by simp only [List.mem_cons, List.not_mem_nil, or_false] at m1; omega
  have hne : ¬ nm.toList = [] := fun h => absurd (hn h) (by omega)
  refine ⟨s ++ [⟨nm, t, v, 0⟩], i2, g2, ev_succ' ?_, gcb_app hg (gcb_one ⟨hz, by show (-10 : Int) ≤ 0; decide, by show (0 : Int) ≤ 10; decide⟩), by simp, by simp [bnd], c2, d2⟩
  simp only [spec_l5DrawCol.f, e1, Option.bind_some]
  simp only [e2, Option.bind_some, if_neg hne, if_neg (show ¬ ((0 : Nat) : Int) > 0 by decide)]
  refine ev_succ' ?_
  simp only [spec_l5DrawCol.j0, Bool.false_eq_true, if_false]
  refine ev_succ' ?_
  simp only [spec_l5DrawCol.j1]
  refine ev_if (show s.length < 3518437208883 by omega) ?_
  simp only [Option.bind_some, if_neg ht]; exact Ev.now _
 | succ D ih =>
  intro i h nm s hD hz hn hg hs h0 h1
  have hs' : s.length + (1 + 3 * bnd D) ≤ 1000000 := hs
  obtain ⟨t, i1, g1, e1, m1, c1, d1⟩ := spec_l1PickInt_ev l i h [0, 1, 2, 5, 6] hl hlen h0 h1 (by simp)
  obtain ⟨v, i2, g2, e2, v0, v1, _, c2, d2⟩ := spec_l1Below_ev l i1 g1 3 hl hlen c1 d1
  have ht : ¬ t = 7 := by simp only [List.mem_cons, List.not_mem_nil, or_false] at m1; omega
  -- a leaf
  have leaf : ∀ i h : Int, 0 ≤ i → i ≤ l.length → ∃ r i' h', Ev (fun k => spec_l5DrawCol.j0 k nm ((D + 1 : Nat) : Int) s false l i h nm t v 0) (r, i', h') ∧ gcb r 10 ∧ s.length < r.length ∧ r.length ≤ s.length + bnd (D + 1) ∧ 0 ≤ i' ∧ i' ≤ l.length := by
   intro i h h0 h1
   refine ⟨s ++ [⟨nm, t, v, 0⟩], i, h, ev_succ' ?_, gcb_app hg (gcb_one ⟨hz, by show (-10 : Int) ≤ 0; decide, by show (0 : Int) ≤ 10; decide⟩), by simp, by simp [bnd], h0, h1⟩
   simp only [spec_l5DrawCol.j0, Bool.false_eq_true, if_false]
   refine ev_succ' ?_
   simp only [spec_l5DrawCol.j1]
   refine ev_if (show s.length < 3518437208883 by omega) ?_
   simp only [Option.bind_some, if_neg ht]; exact Ev.now _
  -- a group
  have loop : ∀ (d : Nat) (c many : Int) (x : List C) (i h : Int), many - c = d → 0 ≤ c → many ≤ 3 → gcb x 10 → s.length < x.length → (x.length : Int) ≤ s.length + 1 + c * bnd D → 0 ≤ i → i ≤ l.length →
    ∃ r i' h', Ev (fun k => spec_l5DrawCol.l0 k ((D + 1 : Nat) : Int) x many c l i h) (r, i', h') ∧ gcb r 10 ∧ s.length < r.length ∧ r.length ≤ s.length + bnd (D + 1) ∧ 0 ≤ i' ∧ i' ≤ l.length := by
   intro d
   induction d with
   | zero =>
    intro c many x i h hd hc hm hgx hxl hxb h0 h1
    have hcb : c * bnd D ≤ 3 * bnd D := Int.mul_le_mul_of_nonneg_right (by omega) (by omega)
    refine ⟨x, i, h, ev_succ' ?_, hgx, hxl, by simp only [bnd]; omega, h0, h1⟩
    simp only [spec_l5DrawCol.l0, if_neg (show ¬ c < many by omega)]; exact Ev.now _
   | succ d ihd =>
    intro c many x i h hd hc hm hgx hxl hxb h0 h1
    obtain ⟨z, i3, g3, e3, z0, z1, _, c3, d3⟩ := spec_l1Below_ev l i h 4 hl hlen h0 h1
    have hcb : (c + 1) * bnd D ≤ 3 * bnd D := Int.mul_le_mul_of_nonneg_right (by omega) (by omega)
    rw [Int.add_mul, Int.one_mul] at hcb
    obtain ⟨r, i4, g4, e4, r1, r2, r3, c4, d4⟩ := ih i3 g3 (strOfNums [(wrap64 (97 + c)) % 256, (wrap64 (97 + z)) % 256]) x (by omega) (two_bytes _ _).2 (fun h => absurd h (two_bytes _ _).1) hgx (by omega) c3 d3
    obtain ⟨q, i5, g5, e5, q1, q2, q3, c5, d5⟩ := ihd (c + 1) many r i4 g4 (by omega) (by omega) hm r1 (by omega) (by rw [Int.add_mul, Int.one_mul]; omega) c4 d4
    refine ⟨q, i5, g5, ev_succ' ?_, q1, q2, q3, c5, d5⟩
    simp only [spec_l5DrawCol.l0]
    refine ev_if (show c < many by omega) ?_
    simp only [e3, Option.bind_some]
    rw [wrap_id (n := ((D + 1 : Nat) : Int) - 1) (by omega) (by omega), show ((D + 1 : Nat) : Int) - 1 = (D : Int) by omega, wrap_id (n := c + 1) (by omega) (by omega)]
    exact Ev.bind e4 e5
  have group : ∀ i h : Int, 0 ≤ i → i ≤ l.length → ∃ r i' h', Ev (fun k => spec_l5DrawCol.j0 k nm ((D + 1 : Nat) : Int) s true l i h nm t v 0) (r, i', h') ∧ gcb r 10 ∧ s.length < r.length ∧ r.length ≤ s.length + bnd (D + 1) ∧ 0 ≤ i' ∧ i' ≤ l.length := by
   intro i h h0 h1
   obtain ⟨z, i3, g3, e3, z0, z1, _, c3, d3⟩ := spec_l1Below_ev l i h 3 hl hlen h0 h1
   have z1 := z1 (by decide)
   have fin : ∀ rep : Int, ∃ r i' h', Ev (fun k => spec_l5DrawCol.j2 k ((D + 1 : Nat) : Int) (s ++ [⟨nm, 7, rep, 1 + z⟩]) (1 + z) l i3 g3) (r, i', h') ∧ gcb r 10 ∧ s.length < r.length ∧ r.length ≤ s.length + bnd (D + 1) ∧ 0 ≤ i' ∧ i' ≤ l.length := by
    intro rep
    obtain ⟨r, i4, g4, e4, r1, r2, r3, c4, d4⟩ := loop (1 + z).toNat 0 (1 + z) (s ++ [⟨nm, 7, rep, 1 + z⟩]) i3 g3 (by omega) (by omega) (by omega) (gcb_app hg (gcb_one ⟨hz, by show -10 ≤ 1 + z; omega, by show 1 + z ≤ 10; omega⟩)) (by simp) (by simp) c3 d3
    refine ⟨r, i4, g4, ev_succ' ?_, r1, r2, r3, c4, d4⟩
    simp only [spec_l5DrawCol.j2]; exact e4
   by_cases hn0 : nm.toList = []
   ·obtain ⟨r, i4, g4, e4, r1, r2, r3, c4, d4⟩ := fin 0
    refine ⟨r, i4, g4, ev_succ' ?_, r1, r2, r3, c4, d4⟩
    simp only [spec_l5DrawCol.j0, if_true]
    refine ev_succ' ?_
    simp only [spec_l5DrawCol.j1]
    refine ev_if (show s.length < 3518437208883 by omega) ?_
    simp only [Option.bind_some, if_true, e3]
    rw [wrap_id (n := 1 + z) (by omega) (by omega)]
    refine ev_if (show (0 : Int) ≤ s.length by omega) ?_
    refine ev_if (show (s.length : Int) < ((s ++ [(⟨nm, 7, v, 0⟩ : C)]).length : Int) by rw [List.length_append]; simp only [List.length_cons, List.length_nil]; omega) ?_
    simp only [rdc_last, setc_last, if_pos hn0]
    exact e4
   ·obtain ⟨r, i4, g4, e4, r1, r2, r3, c4, d4⟩ := fin v
    refine ⟨r, i4, g4, ev_succ' ?_, r1, r2, r3, c4, d4⟩
    simp only [spec_l5DrawCol.j0, if_true]
    refine ev_succ' ?_
    simp only [spec_l5DrawCol.j1]
    refine ev_if (show s.length < 3518437208883 by omega) ?_
    simp only [Option.bind_some, if_true, e3]
    rw [wrap_id (n := 1 + z) (by omega) (by omega)]
    refine ev_if (show (0 : Int) ≤ s.length by omega) ?_
    refine ev_if (show (s.length : Int) < ((s ++ [(⟨nm, 7, v, 0⟩ : C)]).length : Int) by rw [List.length_append]; simp only [List.length_cons, List.length_nil]; omega) ?_
    simp only [rdc_last, setc_last, if_neg hn0]
    exact e4
  by_cases hn0 : nm.toList = []
  ·obtain ⟨r, i4, g4, e4, rest⟩ := group i2 g2 c2 d2
   refine ⟨r, i4, g4, ev_succ' ?_, rest⟩
   simp only [spec_l5DrawCol.f, e1, Option.bind_some]
   simp only [e2, Option.bind_some, if_pos hn0]
   exact e4
  ·obtain ⟨o, i3, g3, e3, c3, d3⟩ := spec_l1Once_ev l i2 g2 3 hl hlen c2 d2
   cases o with
   | true =>
    obtain ⟨r, i4, g4, e4, rest⟩ := group i3 g3 c3 d3
    refine ⟨r, i4, g4, ev_succ' ?_, rest⟩
    simp only [spec_l5DrawCol.f, e1, Option.bind_some]
    simp only [e2, Option.bind_some, if_neg hn0, if_pos (show ((D + 1 : Nat) : Int) > 0 by omega)]
    simp only [e3, Option.bind_some]
    exact e4
   | false =>
    obtain ⟨r, i4, g4, e4, rest⟩ := leaf i3 g3 c3 d3
    refine ⟨r, i4, g4, ev_succ' ?_, rest⟩
    simp only [spec_l5DrawCol.f, e1, Option.bind_some]
    simp only [e2, Option.bind_some, if_neg hn0, if_pos (show ((D + 1 : Nat) : Int) > 0 by omega)]
    simp only [e3, Option.bind_some]
    exact e4
theorem spec_l5DrawRight_ev (l : List Int) (hl : ∀ x ∈ l, (Lit.int .u8 x).wf = true) (hlen : l.length ≤ 1000000000000) (i h : Int) (h0 : 0 ≤ i) (h1 : i ≤ l.length) :
  ∃ r i' h', Ev (fun k => spec_l5DrawRight.f k l i h) (r, i', h') ∧ gcb r 10 ∧ 0 < r.length ∧ r.length ≤ 1000 ∧ 0 ≤ i' ∧ i' ≤ l.length := by
 have key : ∀ (d : Nat) (c i h : Int), 9 - c = d → 0 ≤ c → 0 ≤ i → i ≤ l.length → ∃ r i' h', Ev (fun k => spec_l5DrawRight.l0 k c l i h) (r, i', h') ∧ gcb r 10 ∧ 0 < r.length ∧ r.length ≤ 1000 ∧ 0 ≤ i' ∧ i' ≤ l.length := by
  intro d
  induction d with
  | zero =>
   intro c i h hd hc0 h0 h1
   refine ⟨[⟨⟨#[]⟩, 7, 0, 1⟩, ⟨⟨#[97]⟩, 2, 1, 0⟩], i, h, ev_succ' ?_, ?_, ?_, ?_, h0, h1⟩
   ·simp only [spec_l5DrawRight.l0, if_neg (show ¬ c < 9 by omega)]; exact Ev.now _
   ·intro x hx
    simp only [List.mem_cons, List.not_mem_nil, or_false] at hx
    rcases hx with rfl | rfl
    ·exact ⟨by decide, by decide, by decide⟩
    ·exact ⟨by decide, by decide, by decide⟩
   ·simp
   ·simp
  | succ d ih =>
   intro c i h hd hc0 h0 h1
   obtain ⟨z, i3, g3, e3, z0, z1, _, c3, d3⟩ := spec_l1Below_ev l i h 3 hl hlen h0 h1
   have z1 := z1 (by decide)
   obtain ⟨D, hD⟩ := Int.eq_ofNat_of_zero_le (show 0 ≤ 1 + z by omega)
   obtain ⟨r, i4, g4, e4, r1, r2, r3, c4, d4⟩ := spec_l5DrawCol_ev l hl hlen D i3 g3 ⟨#[]⟩ [] (by omega) (by decide) (fun _ => by omega) (fun x hx => by cases hx) (by
    have : D = 1 ∨ D = 2 ∨ D = 3 := by omega
    rcases this with h | h | h <;> subst h <;> decide) c3 d3
   have hb : bnd D ≤ 100 := by
    have : D = 1 ∨ D = 2 ∨ D = 3 := by omega
    rcases this with h | h | h <;> subst h <;> decide
   have hrl : r.length ≤ 1000 := by simp at r3; omega
   by_cases hok : sok r
   ·refine ⟨r, i4, g4, ev_succ' ?_, r1, by simp at r2; omega, hrl, c4, d4⟩
    simp only [spec_l5DrawRight.l0]
    refine ev_if (show c < 9 by omega) ?_
    simp only [e3, Option.bind_some]
    rw [wrap_id (n := 1 + z) (by omega) (by omega), hD]
    refine Ev.bind e4 ?_
    refine Ev.bind (spec_SchemaOk_ev r (by omega) (gcb_ok r1 (by decide))) ?_
    simp only [decide_eq_true hok, if_true]; exact Ev.now _
   ·obtain ⟨q, i5, g5, e5, rest⟩ := ih (c + 1) i4 g4 (by omega) (by omega) c4 d4
    refine ⟨q, i5, g5, ev_succ' ?_, rest⟩
    simp only [spec_l5DrawRight.l0]
    refine ev_if (show c < 9 by omega) ?_
    simp only [e3, Option.bind_some]
    rw [wrap_id (n := 1 + z) (by omega) (by omega), hD]
    refine Ev.bind e4 ?_
    refine Ev.bind (spec_SchemaOk_ev r (by omega) (gcb_ok r1 (by decide))) ?_
    simp only [decide_eq_false hok, Bool.false_eq_true, if_false]
    rw [wrap_id (n := c + 1) (by omega) (by omega)]
    exact e5
 unfold spec_l5DrawRight.f
 exact key 9 0 i h (by decide) (by decide) h0 h1
theorem spec_l1Pick_ev' (l : List Int) (i h : Int) (p : List ByteArray) (hl : ∀ x ∈ l, (Lit.int .u8 x).wf = true) (hlen : l.length ≤ 1000000000000) (h0 : 0 ≤ i) (h1 : i ≤ l.length) (hp : 0 < p.length) (hs : ∀ s ∈ p, s.size ≤ 1000) :
  ∃ v i' h', spec_l1Pick.f l i h p = some (v, i', h') ∧ v.size ≤ 1000 ∧ 0 ≤ i' ∧ i' ≤ l.length := by
 unfold spec_l1Pick.f
 obtain ⟨v, i1, h2, e, a, b, _, c, d⟩ := spec_l1Below_ev l i h p.length hl hlen h0 h1
 have b := b (by omega)
 simp only [e, Option.bind_some]
 rw [if_pos a, if_pos b]
 refine ⟨_, _, _, rfl, ?_, c, d⟩
 unfold rdOf
 rw [List.getD_eq_getElem?_getD, List.getElem?_eq_getElem (by omega)]
 exact hs _ (List.getElem_mem _)
theorem l5Deep_l (l : List Int) (n : Int) (hn : n ≤ 100) (i h : Int) : ∀ (d : Nat) (c : Int) (x : List C), n - c = d → 0 ≤ c → x.length ≤ 1000 + c → gcb x 100 →
  ∃ r, Ev (fun k => spec_l5DrawSchema.l0 k x n c l i h) (r, i, h) ∧ gcb r 100 ∧ r.length ≤ 2000 := by
 intro d
 induction d with
 | zero =>
  intro c x hd hc hx hg
  refine ⟨x ++ [⟨⟨#[120]⟩, 0, 0, 0⟩], ev_succ' ?_, gcb_app hg (gcb_one ⟨by decide, by decide, by decide⟩), by simp; omega⟩
  simp only [spec_l5DrawSchema.l0, if_neg (show ¬ c < n by omega)]
  refine ev_if (show x.length < 3518437208883 by omega) ?_
  exact Ev.now _
 | succ d ih =>
  intro c x hd hc hx hg
  obtain ⟨r, e, rest⟩ := ih (c + 1) (x ++ [⟨⟨#[103]⟩, 7, Int.tmod c 3, 1⟩]) (by omega) (by omega) (by simp; omega) (gcb_app hg (gcb_one ⟨by show (⟨#[103]⟩ : ByteArray).size ≤ 1000; decide, by show (-100 : Int) ≤ 1; decide, by show (1 : Int) ≤ 100; decide⟩))
  refine ⟨r, ev_succ' ?_, rest⟩
  simp only [spec_l5DrawSchema.l0]
  refine ev_if (show c < n by omega) ?_
  refine ev_if (show x.length < 3518437208883 by omega) ?_
  rw [wrap_id (n := c + 1) (by omega) (by omega)]
  exact e
theorem spec_l5DrawSchema_ev (l : List Int) (hl : ∀ x ∈ l, (Lit.int .u8 x).wf = true) (hlen : l.length ≤ 1000000000000) (i h : Int) (h0 : 0 ≤ i) (h1 : i ≤ l.length) :
  ∃ r i' h', Ev (fun k => spec_l5DrawSchema.f k l i h) (r, i', h') ∧ gcb r 100 ∧ r.length ≤ 2000 := by
 obtain ⟨s, i1, g1, e1, s1, s2, s3, c1, d1⟩ := spec_l5DrawRight_ev l hl hlen i h h0 h1
 obtain ⟨p, i2, g2, e2, p0, p1, _, c2, d2⟩ := spec_l1Below_ev l i1 g1 s.length hl hlen c1 d1
 have p1 := p1 (by omega)
 obtain ⟨w, i3, g3, e3, w0, w1, _, c3, d3⟩ := spec_l1Below_ev l i2 g2 25 hl hlen c2 d2
 have hgs := gcb_up s1 (show (10 : Int) ≤ 100 by decide)
 have hrd := gcb_rd s1 p p0 p1
 have start : ∀ (R : List C × Int × Int), Ev (fun k => if w = 0 then ((spec_l1Below.f l i3 g3 9).bind fun bt284 => (if 0 ≤ p then (if p < (s.length : Int) then (some ((s.set (p : Int).toNat (⟨(rd_T56 s p).f0, bt284.1, (rd_T56 s p).f2, (rd_T56 s p).f3⟩ : C)), bt284.2.1, bt284.2.2)) else (none)) else (none))) else (if w = 1 then ((spec_l1Below.f l i3 g3 5).bind fun bt288 => (if 0 ≤ p then (if p < (s.length : Int) then (some ((s.set (p : Int).toNat (⟨(rd_T56 s p).f0, (rd_T56 s p).f1, wrap64 (bt288.1 - 1), (rd_T56 s p).f3⟩ : C)), bt288.2.1, bt288.2.2)) else (none)) else (none))) else (if w = 2 then (if 0 ≤ p then (if p < (s.length : Int) then ((spec_l1Below.f l i3 g3 3).bind fun bt293 => (some ((s.set (p : Int).toNat (⟨(rd_T56 s p).f0, (rd_T56 s p).f1, (rd_T56 s p).f2, wrap64 ((wrap64 (((rd_T56 s p).f3) + 1)) - bt293.1)⟩ : C)), bt293.2.1, bt293.2.2))) else (none)) else (none)) else (if w = 3 then ((spec_l1Pick.f l i3 g3 (([(⟨#[]⟩ : ByteArray), (⟨#[65]⟩ : ByteArray), (⟨#[97, 98]⟩ : ByteArray), (⟨#[97, 98, 99, 100, 101, 102, 103, 104, 105, 106, 107, 108, 109, 110, 111, 112, 113, 114, 115, 116]⟩ : ByteArray), (⟨#[97, 98, 99, 100, 101, 102, 103, 104, 105, 106, 107, 108, 109, 110, 111, 112, 113, 114, 115, 116, 117]⟩ : ByteArray)] : List ByteArray))).bind fun bt300 => (if 0 ≤ p then (if p < (s.length : Int) then (some ((s.set (p : Int).toNat (⟨bt300.1, (rd_T56 s p).f1, (rd_T56 s p).f2, (rd_T56 s p).f3⟩ : C)), bt300.2.1, bt300.2.2)) else (none)) else (none))) else (if w = 4 then (if s.length < 3518437208883 then (some ((s ++ [(⟨(⟨#[122]⟩ : ByteArray), 0, 0, 0⟩ : C)]), i3, g3)) else (none)) else (if w = 5 then ((spec_l1Below.f l i3 g3 2).bind fun bt310 => (spec_l5DrawSchema.l0 k (([(⟨(⟨#[]⟩ : ByteArray), 7, 0, 1⟩ : C)] : List C)) (wrap64 (4 + bt310.1)) 0 l bt310.2.1 bt310.2.2)) else (some (s, i3, g3)))))))) R → Ev (fun k => spec_l5DrawSchema.f k l i h) R := by
  intro R e
  unfold spec_l5DrawSchema.f
  refine Ev.bind e1 ?_
  simp only [e2, Option.bind_some]
  simp only [e3, Option.bind_some]
  exact e
 by_cases h0' : w = 0
 ·obtain ⟨z, i4, g4, e4, _, _, _, _, _⟩ := spec_l1Below_ev l i3 g3 9 hl hlen c3 d3
  refine ⟨_, i4, g4, start _ ?_, gcb_set hgs p.toNat (x := ⟨(rd_T56 s p).f0, z, (rd_T56 s p).f2, (rd_T56 s p).f3⟩) ⟨hrd.1, by show -100 ≤ (rd_T56 s p).f3; omega, by show (rd_T56 s p).f3 ≤ 100; omega⟩, by simp; omega⟩
  simp only [if_pos h0', e4, Option.bind_some, if_pos p0, if_pos p1]; exact Ev.now _
 by_cases h1' : w = 1
 ·obtain ⟨z, i4, g4, e4, _, _, _, _, _⟩ := spec_l1Below_ev l i3 g3 5 hl hlen c3 d3
  refine ⟨_, i4, g4, start _ ?_, gcb_set hgs p.toNat (x := ⟨(rd_T56 s p).f0, (rd_T56 s p).f1, wrap64 (z - 1), (rd_T56 s p).f3⟩) ⟨hrd.1, by show -100 ≤ (rd_T56 s p).f3; omega, by show (rd_T56 s p).f3 ≤ 100; omega⟩, by simp; omega⟩
  simp only [if_neg h0', if_pos h1', e4, Option.bind_some, if_pos p0, if_pos p1]; exact Ev.now _
 by_cases h2' : w = 2
 ·obtain ⟨z, i4, g4, e4, z0, z1, _, _, _⟩ := spec_l1Below_ev l i3 g3 3 hl hlen c3 d3
  have z1 := z1 (by decide)
  have ew : wrap64 ((wrap64 (((rd_T56 s p).f3) + 1)) - z) = (rd_T56 s p).f3 + 1 - z := by
   rw [wrap_id (n := (rd_T56 s p).f3 + 1) (by omega) (by omega), wrap_id (by omega) (by omega)]
  refine ⟨_, i4, g4, start _ ?_, gcb_set hgs p.toNat (x := ⟨(rd_T56 s p).f0, (rd_T56 s p).f1, (rd_T56 s p).f2, (rd_T56 s p).f3 + 1 - z⟩) ⟨hrd.1, by show -100 ≤ (rd_T56 s p).f3 + 1 - z; omega, by show (rd_T56 s p).f3 + 1 - z ≤ 100; omega⟩, by simp; omega⟩
  simp only [if_neg h0', if_neg h1', if_pos h2', e4, Option.bind_some, if_pos p0, if_pos p1, ew]; exact Ev.now _
 by_cases h3' : w = 3
 ·obtain ⟨z, i4, g4, e4, hz, _, _⟩ := spec_l1Pick_ev' l i3 g3 [(⟨#[]⟩ : ByteArray), (⟨#[65]⟩ : ByteArray), (⟨#[97, 98]⟩ : ByteArray), (⟨#[97, 98, 99, 100, 101, 102, 103, 104, 105, 106, 107, 108, 109, 110, 111, 112, 113, 114, 115, 116]⟩ : ByteArray), (⟨#[97, 98, 99, 100, 101, 102, 103, 104, 105, 106, 107, 108, 109, 110, 111, 112, 113, 114, 115, 116, 117]⟩ : ByteArray)] hl hlen c3 d3 (by simp) (fun s hs => by
   simp only [List.mem_cons, List.not_mem_nil, or_false] at hs
   rcases hs with rfl | rfl | rfl | rfl | rfl <;> decide)
  refine ⟨_, i4, g4, start _ ?_, gcb_set hgs p.toNat (x := ⟨z, (rd_T56 s p).f1, (rd_T56 s p).f2, (rd_T56 s p).f3⟩) ⟨hz, by show -100 ≤ (rd_T56 s p).f3; omega, by show (rd_T56 s p).f3 ≤ 100; omega⟩, by simp; omega⟩
  simp only [if_neg h0', if_neg h1', if_neg h2', if_pos h3', e4, Option.bind_some, if_pos p0, if_pos p1]; exact Ev.now _
 by_cases h4' : w = 4
 ·refine ⟨_, i3, g3, start _ ?_, gcb_app hgs (gcb_one (x := ⟨⟨#[122]⟩, 0, 0, 0⟩) ⟨by decide, by decide, by decide⟩), by simp; omega⟩
  simp only [if_neg h0', if_neg h1', if_neg h2', if_neg h3', if_pos h4', if_pos (show s.length < 3518437208883 by omega)]; exact Ev.now _
 by_cases h5' : w = 5
 ·obtain ⟨z, i4, g4, e4, z0, z1, _, _, _⟩ := spec_l1Below_ev l i3 g3 2 hl hlen c3 d3
  have z1 := z1 (by decide)
  obtain ⟨r, e5, r1, r2⟩ := l5Deep_l l (4 + z) (by omega) i4 g4 (4 + z).toNat 0 [⟨⟨#[]⟩, 7, 0, 1⟩] (by omega) (by decide) (by simp) (gcb_one ⟨by decide, by decide, by decide⟩)
  refine ⟨r, i4, g4, start _ ?_, r1, r2⟩
  simp only [if_neg h0', if_neg h1', if_neg h2', if_neg h3', if_neg h4', if_pos h5', e4, Option.bind_some]
  rw [wrap_id (n := 4 + z) (by omega) (by omega)]
  exact e5
 ·refine ⟨s, i3, g3, start _ ?_, hgs, by omega⟩
  simp only [if_neg h0', if_neg h1', if_neg h2', if_neg h3', if_neg h4', if_neg h5']; exact Ev.now _
theorem spec_DrawSchemaLeaves_ev (l : List Int) (hl : ∀ x ∈ l, (Lit.int .u8 x).wf = true) (hlen : l.length ≤ 1000000000000) :
  ∃ r, Ev (fun k => spec_DrawSchemaLeaves.f k l) r ∧ gcb r 100 ∧ r.length ≤ 2000 := by
 obtain ⟨g0, e0⟩ := spec_l1New_ev l hlen
 obtain ⟨r, i1, g1, e1, r1, r2⟩ := spec_l5DrawSchema_ev l hl hlen 0 g0 (by omega) (by omega)
 refine ⟨r, ?_, r1, r2⟩
 unfold spec_DrawSchemaLeaves.f
 refine Ev.bind e0 ?_
 refine Ev.bind e1 ?_
 exact Ev.now _

def lvTo (s : List C) (n : Nat) : List Nat := (List.range n).filter fun i : Nat => decide (¬ (rd_T56 s i).f1 = 7)
def ints (l : List Nat) : List Int := l.map fun i : Nat => (i : Int)
theorem ints_len (l : List Nat) : (ints l).length = l.length := by simp [ints]
theorem ints_snoc (l : List Nat) (i : Nat) : ints (l ++ [i]) = ints l ++ [(i : Int)] := by simp [ints]
theorem rd_ints (l : List Nat) (i : Nat) (h : i < l.length) : rd (ints l) (i : Int) = (l[i] : Int) := by
 rw [rd_eq _ _ (by simp [ints]; exact h)]; simp [ints]
theorem lvTo_len (s : List C) (n : Nat) : (lvTo s n).length ≤ n := by
 unfold lvTo
 exact Nat.le_trans (List.length_filter_le _ _) (by simp)
theorem lvTo_succ (s : List C) (n : Nat) : lvTo s (n + 1) = if (rd_T56 s n).f1 = 7 then lvTo s n else lvTo s n ++ [n] := by
 unfold lvTo
 rw [List.range_succ, List.filter_append]
 by_cases h : (rd_T56 s n).f1 = 7
 ·rw [if_pos h]; simp [h]
 ·rw [if_neg h]; simp [h]
theorem spec_l5Leaves_ev (s : List C) (hs : s.length ≤ 1000000000) : Ev (fun k => spec_l5Leaves.f k s) (ints (lvTo s s.length)) := by
 have key : ∀ (d i : Nat), i + d = s.length → Ev (fun k => spec_l5Leaves.l0 k s (ints (lvTo s i)) i) (ints (lvTo s s.length)) := by
  intro d
  induction d with
  | zero =>
   intro i hd
   refine Ev.step (f := fun _ => some (ints (lvTo s s.length))) (fun k => ?_) (Ev.now _)
   simp only [spec_l5Leaves.l0]; rw [if_neg (by omega), show i = s.length by omega]
  | succ d ih =>
   intro i hd
   have h := ih (i + 1) (by omega)
   have hl := lvTo_len s i
   rw [lvTo_succ] at h
   by_cases h7 : (rd_T56 s i).f1 = 7
   ·rw [if_pos h7] at h
    refine Ev.step (fun k => ?_) h
    simp only [spec_l5Leaves.l0]
    rw [if_pos (by omega), if_pos (by omega), if_pos h7, wrap_id (n := (i : Int) + 1) (by omega) (by omega)]; push_cast; rfl
   ·rw [if_neg h7, ints_snoc] at h
    refine Ev.step (fun k => ?_) h
    simp only [spec_l5Leaves.l0]
    rw [if_pos (by omega), if_pos (by omega), if_neg h7, if_pos (by rw [ints_len]; omega), wrap_id (n := (i : Int) + 1) (by omega) (by omega)]; push_cast; rfl
 have h := key s.length 0 (by omega)
 unfold spec_l5Leaves.f
 simpa [lvTo, ints] using h
theorem impl_leavesOf_ev (s : List C) (hs : s.length ≤ 1000000000) : Ev (fun k => impl_leavesOf.f k s) (ints (lvTo s s.length)) := by
 have key : ∀ (d i : Nat), i + d = s.length → Ev (fun k => impl_leavesOf.l0 k (ints (lvTo s i)) s s.length i) (ints (lvTo s s.length)) := by
  intro d
  induction d with
  | zero =>
   intro i hd
   refine Ev.step (f := fun _ => some (ints (lvTo s s.length))) (fun k => ?_) (Ev.now _)
   simp only [impl_leavesOf.l0]; rw [if_neg (by omega), show i = s.length by omega]
  | succ d ih =>
   intro i hd
   have h := ih (i + 1) (by omega)
   have hl := lvTo_len s i
   rw [lvTo_succ] at h
   by_cases h7 : (rd_T56 s i).f1 = 7
   ·rw [if_pos h7] at h
    refine Ev.step (fun k => ?_) h
    simp only [impl_leavesOf.l0]
    rw [if_pos (by omega), if_pos (by omega), if_pos (by omega), if_pos h7, wrap_id (n := (i : Int) + 1) (by omega) (by omega)]; push_cast; rfl
   ·rw [if_neg h7, ints_snoc] at h
    refine Ev.step (fun k => ?_) h
    simp only [impl_leavesOf.l0]
    rw [if_pos (by omega), if_pos (by omega), if_pos (by omega), if_neg h7, if_pos (by rw [ints_len]; omega), wrap_id (n := (i : Int) + 1) (by omega) (by omega)]; push_cast; rfl
 have h := key s.length 0 (by omega)
 unfold impl_leavesOf.f
 simpa [lvTo, ints] using h
def lvs (s : List C) : List Nat := if sok s then lvTo s s.length else []
theorem lvs_len (s : List C) : (lvs s).length ≤ s.length := by
 unfold lvs; split
 ·exact lvTo_len _ _
 ·simp
theorem spec_SchemaLeaves_ev (s : List C) (hs : s.length ≤ 1000000000) (hc : colsOk s) : Ev (fun k => spec_SchemaLeaves.f k s) (ints (lvs s)) := by
 unfold spec_SchemaLeaves.f lvs
 refine Ev.bind (spec_SchemaOk_ev s hs hc) ?_
 by_cases h : sok s
 ·simp only [decide_eq_true h, if_true]; rw [if_pos h]; exact Ev.bind (spec_l5Leaves_ev s hs) (Ev.now _)
 ·simp only [decide_eq_false h, Bool.false_eq_true, if_false]; rw [if_neg h]; exact Ev.now _
theorem impl_SchemaLeaves_ev (s : List C) (hs : s.length ≤ 1000000000) (hc : colsOk s) : Ev (fun k => impl_SchemaLeaves.f k s) (ints (lvs s)) := by
 unfold impl_SchemaLeaves.f lvs
 refine Ev.bind (impl_SchemaOk_ev s hs hc) ?_
 by_cases h : sok s
 ·simp only [decide_eq_true h, if_true]; rw [if_pos h]; exact Ev.bind (impl_leavesOf_ev s hs) (Ev.now _)
 ·simp only [decide_eq_false h, Bool.false_eq_true, if_false]; rw [if_neg h]; exact Ev.now _

def wayF (s : List C) (p : Nat) : Nat → Nat → List Nat
 | 0, _ => []
 | f + 1, a => if a ≤ p then (if p < af s a then a :: wayF s p f (a + 1) else wayF s p f (af s a)) else []
theorem wayF_succ (s : List C) (p f a : Nat) : wayF s p (f + 1) a = if a ≤ p then (if p < af s a then a :: wayF s p f (a + 1) else wayF s p f (af s a)) else [] := rfl
theorem way_filter (s : List C) (h : sok s) (p : Nat) (hp : p < s.length) : ∀ (f a : Nat), p < a + f → wayF s p f a = ((List.range (p + 1)).drop a).filter fun i => decide (p < af s i) := by
 have dropc : ∀ a, a ≤ p → (List.range (p + 1)).drop a = a :: (List.range (p + 1)).drop (a + 1) := by
  intro a ha
  rw [List.drop_eq_getElem_cons (by simp; omega)]; simp
 have skip : ∀ n a : Nat, (∀ i, a ≤ i → i < a + n → i ≤ p → ¬ p < af s i) → ((List.range (p + 1)).drop a).filter (fun i => decide (p < af s i)) = ((List.range (p + 1)).drop (a + n)).filter fun i => decide (p < af s i) := by
  intro n
  induction n with
  | zero => intro a _; rfl
  | succ n ih =>
   intro a hn
   by_cases ha : a ≤ p
   ·rw [dropc a ha, List.filter_cons_of_neg (by simpa using hn a (Nat.le_refl _) (by omega) ha), ih (a + 1) (fun i h1 h2 h3 => hn i (by omega) (by omega) h3), show a + 1 + n = a + (n + 1) by omega]
   ·rw [List.drop_of_length_le (by simp; omega), List.drop_of_length_le (by simp; omega)]
 intro f
 induction f with
 | zero => intro a ha; rw [List.drop_of_length_le (by simp; omega)]; rfl
 | succ f ih =>
  intro a ha
  rw [wayF_succ]
  by_cases hap : a ≤ p
  ·have hs := af_some s h a (by omega)
   rw [if_pos hap]
   by_cases hq : p < af s a
   ·rw [if_pos hq, dropc a hap, List.filter_cons_of_pos (by simpa using hq), ih (a + 1) (by omega)]
   ·rw [if_neg hq, ih (af s a) (by omega), skip (af s a - a) a (fun i h1 h2 h3 => by
     have := af_nest s h a i (by omega) h1 (by omega)
     omega), show a + (af s a - a) = af s a by omega]
  ·rw [if_neg hap, List.drop_of_length_le (by simp; omega)]; rfl
theorem way_len (s : List C) (p : Nat) : ∀ (f a : Nat), (wayF s p f a).length ≤ f := by
 intro f
 induction f with
 | zero => intro a; simp [wayF]
 | succ f ih =>
  intro a; rw [wayF_succ]
  split
  ·split
   ·have := ih (a + 1); simp; omega
   ·have := ih (af s a); omega
  ·simp
theorem way_mem (s : List C) (p : Nat) : ∀ (f a : Nat), ∀ x ∈ wayF s p f a, x ≤ p := by
 intro f
 induction f with
 | zero => intro a x hx; cases hx
 | succ f ih =>
  intro a x hx; rw [wayF_succ] at hx
  split at hx
  ·split at hx
   ·rcases List.mem_cons.1 hx with rfl | hx
    ·assumption
    ·exact ih _ x hx
   ·exact ih _ x hx
  ·cases hx
def way (s : List C) (p : Nat) : List Nat := wayF s p (p + 1) 1
def wayN (s : List C) (n : Int) : List Nat := if 0 ≤ n ∧ n < (lvs s).length then way s ((lvs s).getD n.toNat 0) else []
theorem lvs_ok (s : List C) (n : Nat) (hn : n < (lvs s).length) : sok s ∧ (lvs s)[n] < s.length ∧ ¬ (rd_T56 s (lvs s)[n]).f1 = 7 := by
 have hm := List.getElem_mem hn
 have hs : sok s := by
  unfold lvs at hn
  by_cases h : sok s
  ·exact h
  ·rw [if_neg h] at hn; simp at hn
 refine ⟨hs, ?_⟩
 generalize (lvs s)[n] = x at hm
 unfold lvs at hm
 rw [if_pos hs] at hm
 unfold lvTo at hm
 simp only [List.mem_filter, List.mem_range, decide_eq_true_eq] at hm
 exact hm
theorem impl_wayTo_ev (s : List C) (hs : s.length ≤ 1000000000) (hc : colsOk s) (n : Int) : Ev (fun k => impl_wayTo.f k s n) (ints (wayN s n)) := by
 unfold impl_wayTo.f wayN
 refine Ev.bind (impl_SchemaLeaves_ev s hs hc) ?_
 have hll := lvs_len s
 simp only [impl_within_ev, Option.bind_some, ints_len]
 rw [wrap_id (n := ((lvs s).length : Int) - 1) (by omega) (by omega)]
 by_cases hn : 0 ≤ n ∧ n < (lvs s).length
 ·simp only [decide_eq_true (show 0 ≤ n ∧ n ≤ ((lvs s).length : Int) - 1 by omega), if_true]
  rw [if_pos hn]
  obtain ⟨n, rfl⟩ := Int.eq_ofNat_of_zero_le hn.1
  have hn' : n < (lvs s).length := by omega
  obtain ⟨hok, hp, _⟩ := lvs_ok s n hn'
  have hrd := rd_ints (lvs s) n hn'
  rw [show (lvs s).getD ((n : Int)).toNat 0 = (lvs s)[n] by simp [hn']]
  generalize (lvs s)[n] = p at hp hrd
  have key : ∀ (f a : Nat) (acc : List Nat), p < a + f → acc.length ≤ a → a ≤ s.length → Ev (fun k => impl_wayTo.l0 k s n (ints (lvs s)) (ints acc) a) (ints (acc ++ wayF s p f a)) := by
   intro f
   induction f with
   | zero =>
    intro a acc h1 h2 h3
    refine Ev.step (f := fun _ => some (ints (acc ++ wayF s p 0 a))) (fun k => ?_) (Ev.now _)
    simp only [impl_wayTo.l0]
    rw [if_pos (by omega), if_pos (by rw [ints_len]; omega), hrd, if_neg (by omega)]; simp [wayF]
   | succ f ih =>
    intro a acc h1 h2 h3
    rw [wayF_succ]
    by_cases hap : a ≤ p
    ·have ha := af_some s hok a (by omega)
     have e := impl_colAfter_ev s hs hc 6 1 a (by omega)
     rw [ha.1] at e
     rw [if_pos hap]
     refine ev_succ' ?_
     simp only [impl_wayTo.l0]
     simp only [if_pos (show (0 : Int) ≤ (n : Int) by omega), if_pos (show (n : Int) < ((ints (lvs s)).length : Int) by rw [ints_len]; omega), hrd, if_pos (show (a : Int) ≤ (p : Int) by omega)]
     refine Ev.bind e ?_
     show Ev (fun n_ => if (af s a : Int) > p then _ else _) _
     by_cases hq : p < af s a
     ·simp only [if_pos (show (af s a : Int) > p by omega), if_pos (show (ints acc).length < 17592186044416 by rw [ints_len]; omega)]
      rw [if_pos hq, wrap_id (n := (a : Int) + 1) (by omega) (by omega), ← ints_snoc]
      have := ih (a + 1) (acc ++ [a]) (by omega) (by simp; omega) (by omega)
      simpa using this
     ·simp only [if_neg (show ¬ (af s a : Int) > p by omega)]
      rw [if_neg hq]
      exact ih (af s a) acc (by omega) (by omega) (by omega)
    ·rw [if_neg hap]
     refine Ev.step (f := fun _ => some (ints (acc ++ []))) (fun k => ?_) (Ev.now _)
     simp only [impl_wayTo.l0]
     rw [if_pos (by omega), if_pos (by rw [ints_len]; omega), hrd, if_neg (by omega)]; simp
  have := key (p + 1) 1 [] (by omega) (by simp) (by omega)
  exact this
 ·simp only [decide_eq_false (show ¬ (0 ≤ n ∧ n ≤ ((lvs s).length : Int) - 1) by omega), Bool.false_eq_true, if_false]
  rw [if_neg hn]; exact Ev.now _
theorem wayN_mem (s : List C) (n : Int) : ∀ x ∈ wayN s n, x < s.length := by
 intro x hx
 unfold wayN at hx
 split at hx
 ·rename_i hn
  have hn' : n.toNat < (lvs s).length := by omega
  obtain ⟨_, hp, _⟩ := lvs_ok s n.toNat hn'
  rw [show (lvs s).getD n.toNat 0 = (lvs s)[n.toNat] by simp [hn']] at hx
  have := way_mem s _ _ _ x hx
  omega
 ·cases hx
theorem wayN_len (s : List C) (n : Int) : (wayN s n).length ≤ s.length + 1 := by
 unfold wayN; split
 ·rename_i hn
  have hn' : n.toNat < (lvs s).length := by omega
  obtain ⟨_, hp, _⟩ := lvs_ok s n.toNat hn'
  rw [show (lvs s).getD n.toNat 0 = (lvs s)[n.toNat] by simp [hn']]
  have := way_len s (lvs s)[n.toNat] ((lvs s)[n.toNat] + 1) 1
  unfold way; omega
 ·simp

def namesOf (s : List C) (l : List Nat) : List ByteArray := l.map fun i : Nat => (rd_T56 s i).f0
theorem namesOf_len (s : List C) (l : List Nat) : (namesOf s l).length = l.length := by simp [namesOf]
theorem namesOf_snoc (s : List C) (l : List Nat) (i : Nat) : namesOf s (l ++ [i]) = namesOf s l ++ [(rd_T56 s i).f0] := by simp [namesOf]
theorem impl_LeafPath_ev (s : List C) (hs : s.length ≤ 1000000000) (hc : colsOk s) (n : Int) : Ev (fun k => impl_LeafPath.f k s n) (namesOf s (wayN s n)) := by
 unfold impl_LeafPath.f
 refine Ev.bind (impl_wayTo_ev s hs hc n) ?_
 have hm := wayN_mem s n
 have hl := wayN_len s n
 generalize wayN s n = w at hm hl
 have key : ∀ (d i : Nat), i + d = w.length → Ev (fun k => impl_LeafPath.l0 k s (namesOf s (w.take i)) (ints w) (ints w).length i) (namesOf s w) := by
  intro d
  induction d with
  | zero =>
   intro i hd
   refine Ev.step (f := fun _ => some (namesOf s w)) (fun k => ?_) (Ev.now _)
   simp only [impl_LeafPath.l0]
   rw [if_neg (by rw [ints_len]; omega), List.take_of_length_le (by omega)]
  | succ d ih =>
   intro i hd
   have hi := ih (i + 1) (by omega)
   have hw := hm _ (List.getElem_mem (show i < w.length by omega))
   rw [List.take_succ_eq_append_getElem (by omega), namesOf_snoc] at hi
   refine Ev.step (fun k => ?_) hi
   simp only [impl_LeafPath.l0]
   rw [if_pos (by rw [ints_len]; omega), if_pos (by omega), if_pos (by rw [ints_len]; omega), rd_ints w i (by omega), if_pos (by omega), if_pos (by omega), if_pos (by rw [namesOf_len]; simp; omega), wrap_id (n := (i : Int) + 1) (by omega) (by omega)]
   push_cast; rfl
 have := key w.length 0 (by omega)
 simpa [namesOf] using this

def W (s : List C) (p a : Nat) : List Nat := ((List.range (p + 1)).drop a).filter fun i => decide (p < af s i)
theorem W_eq (s : List C) (h : sok s) (p a : Nat) (hp : p < s.length) : W s p a = if a ≤ p then (if p < af s a then a :: W s p (a + 1) else W s p (af s a)) else [] := by
 have h0 := way_filter s h p hp (p + 2) a (by omega)
 unfold W
 rw [← h0, wayF_succ]
 by_cases ha : a ≤ p
 ·have hf := af_some s h a (by omega)
  rw [if_pos ha, if_pos ha, way_filter s h p hp (p + 1) (a + 1) (by omega), way_filter s h p hp (p + 1) (af s a) (by omega)]
 ·rw [if_neg ha, if_neg ha]
theorem way_W (s : List C) (h : sok s) (p : Nat) (hp : p < s.length) : way s p = W s p 1 := way_filter s h p hp (p + 1) 1 (by omega)
def nmL (s : List C) (i : Nat) : List UInt8 := (rd_T56 s i).f0.toList
theorem af_of (s : List C) (d i e : Nat) (hd : d ≤ 6) (h : aft s d i = some e) : af s i = e := by
 unfold af; rw [aft_mono s d 6 hd i e h]; rfl
theorem apart_parts (s : List C) (h : sok s) (d : Nat) (hd : d ≤ 6)
  (ih : ∀ a e, aft s d a = some e → ∀ p q, a ≤ p → p < e → a ≤ q → q < e → p ≠ q → ¬ (rd_T56 s p).f1 = 7 → ¬ (rd_T56 s q).f1 = 7 → (W s p (a + 1)).map (nmL s) ≠ (W s q (a + 1)).map (nmL s)) :
  ∀ (m n : Nat) (ns : List ByteArray) (e : Nat), parts s (aft s d) m n ns = some e → e ≤ s.length →
   (∀ p, n ≤ p → p < e → ∃ c r, W s p n = c :: r ∧ ∀ x ∈ ns, ¬ x.toList = nmL s c) ∧
   (∀ p q, n ≤ p → p < e → n ≤ q → q < e → p ≠ q → ¬ (rd_T56 s p).f1 = 7 → ¬ (rd_T56 s q).f1 = 7 → (W s p n).map (nmL s) ≠ (W s q n).map (nmL s)) := by
 intro m
 induction m with
 | zero =>
  intro n ns e he hl
  cases he
  exact ⟨fun p h1 h2 => by omega, fun p q h1 h2 => by omega⟩
 | succ m ihm =>
  intro n ns e he hl
  rw [parts_succ] at he
  by_cases hc : n < s.length ∧ ∀ x ∈ ns, ¬ x.toList = (rd_T56 s n).f0.toList
  ·rw [if_pos hc] at he
   cases hq : aft s d n with
   | none => rw [hq] at he; cases he
   | some n' =>
    rw [hq] at he
    have hlt := aft_lt s d n n' hq
    have haf := af_of s d n n' hd hq
    obtain ⟨ih1, ih2⟩ := ihm n' _ e he hl
    have inn : ∀ p, n ≤ p → p < n' → W s p n = n :: W s p (n + 1) := by
     intro p h1 h2
     rw [W_eq s h p n (by omega), if_pos h1, haf, if_pos h2]
    have out : ∀ p, n' ≤ p → p < e → W s p n = W s p n' := by
     intro p h1 h2
     rw [W_eq s h p n (by omega), if_pos (by omega), haf, if_neg (by omega)]
    refine ⟨fun p h1 h2 => ?_, fun p q h1 h2 h3 h4 hne l1 l2 => ?_⟩
    ·by_cases hp : p < n'
     ·exact ⟨n, _, inn p h1 hp, hc.2⟩
     ·obtain ⟨c, r, e1, e2⟩ := ih1 p (by omega) h2
      exact ⟨c, r, by rw [out p (by omega) h2, e1], fun x hx => e2 x (by simp [hx])⟩
    ·by_cases hp : p < n'
     ·by_cases hq' : q < n'
      ·rw [inn p h1 hp, inn q h3 hq', List.map_cons, List.map_cons]
       intro he'
       exact ih n n' hq p q h1 hp h3 hq' hne l1 l2 (List.cons.inj he').2
      ·obtain ⟨c, r, e1, e2⟩ := ih1 q (by omega) h4
       rw [inn p h1 hp, out q (by omega) h4, e1, List.map_cons, List.map_cons]
       intro he'
       exact e2 _ (List.mem_append_right _ (List.mem_singleton.2 rfl)) (List.cons.inj he').1
     ·by_cases hq' : q < n'
      ·obtain ⟨c, r, e1, e2⟩ := ih1 p (by omega) h2
       rw [inn q h3 hq', out p (by omega) h2, e1, List.map_cons, List.map_cons]
       intro he'
       exact e2 _ (List.mem_append_right _ (List.mem_singleton.2 rfl)) (List.cons.inj he').1.symm
      ·rw [out p (by omega) h2, out q (by omega) h4]
       exact ih2 p q (by omega) h2 (by omega) h4 hne l1 l2
  ·rw [if_neg hc] at he; cases he
theorem apart_aft (s : List C) (h : sok s) : ∀ d, d ≤ 6 → ∀ a e, aft s d a = some e → ∀ p q, a ≤ p → p < e → a ≤ q → q < e → p ≠ q → ¬ (rd_T56 s p).f1 = 7 → ¬ (rd_T56 s q).f1 = 7 → (W s p (a + 1)).map (nmL s) ≠ (W s q (a + 1)).map (nmL s) := by
 intro d
 induction d with
 | zero => intro _ a e he; cases he
 | succ d ih =>
  intro hd a e he p q h1 h2 h3 h4 hne l1 l2
  have hlt := aft_lt s (d + 1) a e he
  rw [aft_succ] at he
  by_cases hc : a < s.length ∧ cok s a
  ·rw [if_pos hc] at he
   by_cases h7 : (rd_T56 s a).f1 = 7
   ·have hpa : p ≠ a := fun h => l1 (by rw [h]; exact h7)
    have hqa : q ≠ a := fun h => l2 (by rw [h]; exact h7)
    exact (apart_parts s h d (by omega) (ih (by omega)) _ _ _ e he hlt.2).2 p q (by omega) h2 (by omega) h4 hne l1 l2
   ·have hm : (rd_T56 s a).f3 = 0 := by
     rcases hc.2.1 with h | h
     ·exact absurd h.1 h7
     ·exact h.2
    rw [hm] at he
    have he : some (a + 1) = some e := he
    cases he
    omega
  ·rw [if_neg hc] at he; cases he
theorem path_apart (s : List C) (h : sok s) (p q : Nat) (hp : p < s.length) (hq : q < s.length) (hp0 : 0 < p) (hq0 : 0 < q) (hne : p ≠ q) (l1 : ¬ (rd_T56 s p).f1 = 7) (l2 : ¬ (rd_T56 s q).f1 = 7) :
  (namesOf s (way s p)).map (·.toList) ≠ (namesOf s (way s q)).map (·.toList) := by
 have := apart_aft s h 6 (Nat.le_refl _) 0 s.length h.2.2 p q (by omega) hp (by omega) hq hne l1 l2
 rw [way_W s h p hp, way_W s h q hq]
 unfold namesOf
 rw [List.map_map, List.map_map]
 exact this
theorem lvs_inj (s : List C) (j k : Nat) (hj : j < (lvs s).length) (hk : k < (lvs s).length) (h : j ≠ k) : (lvs s)[j] ≠ (lvs s)[k] := by
 have hn : (lvs s).Pairwise (· < ·) := by
  unfold lvs; split
  ·unfold lvTo; exact List.Pairwise.filter _ List.pairwise_lt_range
  ·exact List.Pairwise.nil
 have hp := List.pairwise_iff_getElem.1 hn
 by_cases hjk : j < k
 ·have := hp j k hj hk hjk; omega
 ·have := hp k j hk hj (by omega); omega

def defOf (s : List C) (l : List Nat) : Nat := (l.filter fun i : Nat => decide (¬ (rd_T56 s i).f2 = 0)).length
def repOf (s : List C) (l : List Nat) : Nat := (l.filter fun i : Nat => decide ((rd_T56 s i).f2 = 2)).length
theorem defOf_snoc (s : List C) (l : List Nat) (i : Nat) : defOf s (l ++ [i]) = if (rd_T56 s i).f2 = 0 then defOf s l else defOf s l + 1 := by
 unfold defOf
 rw [List.filter_append]
 by_cases h : (rd_T56 s i).f2 = 0
 ·rw [if_pos h]; simp [h]
 ·rw [if_neg h]; simp [h]
theorem repOf_snoc (s : List C) (l : List Nat) (i : Nat) : repOf s (l ++ [i]) = if (rd_T56 s i).f2 = 2 then repOf s l + 1 else repOf s l := by
 unfold repOf
 rw [List.filter_append]
 by_cases h : (rd_T56 s i).f2 = 2
 ·rw [if_pos h]; simp [h]
 ·rw [if_neg h]; simp [h]
theorem defOf_le (s : List C) (l : List Nat) : defOf s l ≤ l.length := List.length_filter_le _ _
theorem repOf_le (s : List C) (l : List Nat) : repOf s l ≤ defOf s l := by
 induction l with
 | nil => simp [repOf, defOf]
 | cons i l ih =>
  unfold repOf defOf at *
  by_cases h2 : (rd_T56 s i).f2 = 2
  ·rw [List.filter_cons_of_pos (by simpa using h2), List.filter_cons_of_pos (by simp [h2])]; simp only [List.length_cons]; omega
  ·rw [List.filter_cons_of_neg (by simpa using h2)]
   by_cases h0 : (rd_T56 s i).f2 = 0
   ·rw [List.filter_cons_of_neg (by simp [h0])]; exact ih
   ·rw [List.filter_cons_of_pos (by simp [h0])]; simp only [List.length_cons]; omega
def lmax (s : List C) (n : Int) : Int × Int := if 0 ≤ n ∧ n < (lvs s).length then ((defOf s (wayN s n) : Int), (repOf s (wayN s n) : Int)) else (-1, -1)
theorem way_last (s : List C) (h : sok s) (p : Nat) (hp : p < s.length) (hp0 : 0 < p) (h7 : ¬ (rd_T56 s p).f1 = 7) : ∃ w, way s p = w ++ [p] := by
 have e := way_filter s h p hp (p + 1) 1 (by omega)
 have ha := af_some s h p hp
 refine ⟨((((List.range p).drop 1)).filter fun i => decide (p < af s i)), ?_⟩
 unfold way
 rw [e, List.range_succ, List.drop_append_of_le_length (by simp; omega), List.filter_append, List.filter_cons_of_pos (by simpa using ha.2.1)]
 simp
theorem wayN_ne (s : List C) (n : Int) (hn : 0 ≤ n ∧ n < (lvs s).length) : ∃ w, wayN s n = w ++ [(lvs s).getD n.toNat 0] := by
 unfold wayN
 rw [if_pos hn]
 have hn' : n.toNat < (lvs s).length := by omega
 obtain ⟨hok, hp, h7⟩ := lvs_ok s n.toNat hn'
 rw [show (lvs s).getD n.toNat 0 = (lvs s)[n.toNat] by simp [hn']]
 refine way_last s hok _ hp ?_ h7
 by_cases h0 : (lvs s)[n.toNat] = 0
 ·rw [h0] at h7; exact absurd hok.2.1.1 h7
 ·omega
theorem impl_LeafMax_ev (s : List C) (hs : s.length ≤ 1000000000) (hc : colsOk s) (n : Int) : Ev (fun k => impl_LeafMax.f k s n) (lmax s n) := by
 unfold impl_LeafMax.f lmax
 refine Ev.bind (impl_wayTo_ev s hs hc n) ?_
 simp only [ints_len]
 by_cases hn : 0 ≤ n ∧ n < (lvs s).length
 ·obtain ⟨w0, hw0⟩ := wayN_ne s n hn
  have hne : ¬ ((wayN s n).length : Int) = 0 := by rw [hw0]; simp; omega
  simp only [if_neg hne]
  rw [if_pos hn]
  have hm := wayN_mem s n
  have hl := wayN_len s n
  generalize wayN s n = w at hm hl
  have key : ∀ (d i : Nat), i + d = w.length → Ev (fun k => impl_LeafMax.l0 k s (defOf s (w.take i)) (repOf s (w.take i)) (ints w) w.length i) ((defOf s w : Int), (repOf s w : Int)) := by
   intro d
   induction d with
   | zero =>
    intro i hd
    refine Ev.step (f := fun _ => some ((defOf s w : Int), (repOf s w : Int))) (fun k => ?_) (Ev.now _)
    simp only [impl_LeafMax.l0]
    rw [if_neg (by omega), List.take_of_length_le (by omega)]
   | succ d ih =>
    intro i hd
    have hi := ih (i + 1) (by omega)
    have hw := hm _ (List.getElem_mem (show i < w.length by omega))
    have b1 := defOf_le s (w.take i)
    have b2 := repOf_le s (w.take i)
    rw [List.length_take] at b1
    rw [List.take_succ_eq_append_getElem (by omega), defOf_snoc, repOf_snoc] at hi
    refine Ev.step (fun k => ?_) hi
    simp only [impl_LeafMax.l0]
    rw [if_pos (by omega), if_pos (by omega), if_pos (by rw [ints_len]; omega), rd_ints w i (by omega), if_pos (by omega), if_pos (by omega), wrap_id (n := (i : Int) + 1) (by omega) (by omega), wrap_id (n := (defOf s (w.take i) : Int) + 1) (by omega) (by omega), wrap_id (n := (repOf s (w.take i) : Int) + 1) (by omega) (by omega)]
    by_cases h0 : (rd_T56 s (w[i] : Nat)).f2 = 0
    ·by_cases h2 : (rd_T56 s (w[i] : Nat)).f2 = 2
     ·omega
     ·simp only [if_pos h0, if_neg h2]; push_cast; rfl
    ·by_cases h2 : (rd_T56 s (w[i] : Nat)).f2 = 2
     ·simp only [if_neg h0, if_pos h2]; push_cast; rfl
     ·simp only [if_neg h0, if_neg h2]; push_cast; rfl
  have := key w.length 0 (by omega)
  simpa [defOf, repOf] using this
 ·have he : wayN s n = [] := by unfold wayN; rw [if_neg hn]
  rw [he, if_neg hn]
  simp only [List.length_nil, if_pos (show ((0 : Nat) : Int) = 0 from rfl)]; exact Ev.now _

theorem sameInts_self (a : List Int) (hn : a.length ≤ 1000000000000000000) : Ev (fun k => laws_sameInts.f k a a) true := by
 have key : ∀ (d : Nat) (i : Int), 0 ≤ i → i ≤ a.length → (a.length : Int) - i = d → Ev (fun k => laws_sameInts.l0 k a a i) true := by
  intro d
  induction d with
  | zero =>
   intro i h0 h1 hd
   refine Ev.step (f := fun _ => some true) (fun k => ?_) (Ev.now _)
   simp only [laws_sameInts.l0]; rw [if_neg (by omega)]
  | succ d ih =>
   intro i h0 h1 hd
   refine Ev.step (f := fun k => laws_sameInts.l0 k a a (i + 1)) (fun k => ?_) (ih (i + 1) (by omega) (by omega) (by omega))
   simp only [laws_sameInts.l0]; rw [if_pos (by omega), if_pos h0, if_pos (by omega), if_pos trivial, wrap_id (by omega) (by omega)]
 have h := key a.length 0 (by omega) (by omega) (by omega)
 unfold laws_sameInts.f
 simpa using h

theorem wayN_at (s : List C) (n : Nat) (hn : n < (lvs s).length) : wayN s n = way s (lvs s)[n] := by
 unfold wayN
 rw [if_pos (by omega), show (lvs s).getD ((n : Int)).toNat 0 = (lvs s)[n] by simp [hn]]
theorem FnLeaves_l2 (s : List C) (L : List Int) (k' : Int) (a b : List ByteArray) (x9 : Int) (hal : a.length ≤ 1000000000) (hbl : b.length ≤ 1000000000) (hne : a.map (·.toList) ≠ b.map (·.toList)) (R : Bool)
  (h : Ev (fun k => laws_FnLeaves.l1 k s L k' b (wrap64 (x9 + 1))) R) : Ev (fun k => laws_FnLeaves.l2 k s L k' b x9 a ((a.length : Int) == (b.length : Int)) 0) R := by
 have stop : ∀ i : Int, Ev (fun k => laws_FnLeaves.l2 k s L k' b x9 a false i) R := fun i => Ev.step (fun k => by simp only [laws_FnLeaves.l2]; rw [if_neg (by simp)]) h
 by_cases hl : a.length = b.length
 ·rw [show ((a.length : Int) == (b.length : Int)) = true by rw [hl]; simp]
  have key : ∀ (d i : Nat), i + d = b.length → (∀ j, j < i → ∀ (h1 : j < a.length) (h2 : j < b.length), a[j].toList = b[j].toList) → Ev (fun k => laws_FnLeaves.l2 k s L k' b x9 a true i) R := by
   intro d
   induction d with
   | zero =>
    intro i hi hj
    exfalso
    refine hne (List.ext_getElem (by simp [hl]) (fun j h1 h2 => ?_))
    simp only [List.getElem_map]
    exact hj j (by simp at h2; omega) (by simpa using h1) (by simpa using h2)
   | succ d ih =>
    intro i hi hj
    have e1 : rdOf ByteArray.empty a (i : Int) = a[i] := by unfold rdOf; simp [show i < a.length by omega]
    have e2 : rdOf ByteArray.empty b (i : Int) = b[i] := by unfold rdOf; simp [show i < b.length by omega]
    by_cases he : a[i].toList = b[i].toList
    ·refine Ev.step (fun k => ?_) (ih (i + 1) (by omega) (fun j h1 h2 h3 => by
      by_cases hji : j = i
      ·subst hji; exact he
      ·exact hj j (by omega) h2 h3))
     simp only [laws_FnLeaves.l2]
     rw [if_pos trivial, if_pos (by omega), if_pos (by omega), if_pos (by omega), e1, e2, he, beq_self_eq_true, wrap_id (n := (i : Int) + 1) (by omega) (by omega)]; push_cast; rfl
    ·refine Ev.step (fun k => ?_) (stop ((i + 1 : Nat) : Int))
     simp only [laws_FnLeaves.l2]
     rw [if_pos trivial, if_pos (by omega), if_pos (by omega), if_pos (by omega), e1, e2, beq_eq_false_iff_ne.2 he, wrap_id (n := (i : Int) + 1) (by omega) (by omega)]; push_cast; rfl
  exact key b.length 0 (by omega) (by omega)
 ·rw [show ((a.length : Int) == (b.length : Int)) = false from beq_eq_false_iff_ne.2 (by omega)]
  exact stop 0
theorem FnLeaves : laws_FnLeaves.Pure := by
 intro l hlen hsz hl
 refine Ev.rounds (g := fun k => laws_FnLeaves.f k l) ?_
 unfold laws_FnLeaves.f
 simp only [laws_big_ev, Option.bind_some]
 by_cases hbig : (l.length : Int) > 1048576
 ·simp only [decide_eq_true hbig, if_true]; exact Ev.now _
 simp only [decide_eq_false hbig, Bool.false_eq_true, if_false]
 obtain ⟨s, e, hg, hsl⟩ := spec_DrawSchemaLeaves_ev l hl (by omega)
 have hc : colsOk s := gcb_ok hg (by decide)
 have hs : s.length ≤ 1000000000 := by omega
 refine Ev.bind e ?_
 refine Ev.bind (impl_SchemaLeaves_ev s hs hc) ?_
 refine Ev.bind (spec_SchemaLeaves_ev s hs hc) ?_
 have hll := lvs_len s
 refine Ev.bind (sameInts_self _ (by rw [ints_len]; omega)) ?_
 simp only [if_true]
 have key : ∀ (d n : Nat), n + d = (lvs s).length → Ev (fun k => laws_FnLeaves.l0 k s (ints (lvs s)) n) true := by
  intro d
  induction d with
  | zero =>
   intro n hn
   refine ev_succ' ?_
   simp only [laws_FnLeaves.l0, ints_len]
   simp only [if_neg (show ¬ (n : Int) < ((lvs s).length : Int) by omega)]
   refine Ev.bind (impl_LeafMax_ev s hs hc _) ?_
   rw [show lmax s ((lvs s).length : Int) = (-1, -1) by unfold lmax; rw [if_neg (by omega)]]
   simp only [if_true, beq_self_eq_true]; exact Ev.now _
  | succ d ih =>
   intro n hn
   have hn' : n < (lvs s).length := by omega
   obtain ⟨hok, hp, h7⟩ := lvs_ok s n hn'
   obtain ⟨w, hw⟩ := wayN_ne s n (by omega)
   rw [show (lvs s).getD ((n : Int)).toNat 0 = (lvs s)[n] by simp [hn']] at hw
   have hwl := wayN_len s n
   have hrd := rd_ints (lvs s) n hn'
   have hmax : lmax s n = ((defOf s (wayN s n) : Int), (repOf s (wayN s n) : Int)) := by unfold lmax; rw [if_pos (by omega)]
   have h1 := repOf_le s (wayN s n)
   have h2 := defOf_le s (wayN s n)
   have hnl : (namesOf s (wayN s n)).length = (wayN s n).length := namesOf_len _ _
   have hwn : (wayN s n).length = w.length + 1 := by rw [hw]; simp
   have hlast : rdOf ByteArray.empty (namesOf s (wayN s n)) (((wayN s n).length : Int) - 1) = (rd_T56 s ((lvs s)[n] : Nat)).f0 := by
    rw [hwn, show (((w.length + 1 : Nat) : Int) - 1) = ((w.length : Nat) : Int) by omega, hw, namesOf_snoc]
    unfold rdOf
    rw [List.getD_eq_getElem?_getD, List.getElem?_eq_getElem (by simp [namesOf]), List.getElem_append_right (by simp [namesOf])]
    simp [namesOf]
   have hrep : (rd_T56 s ((lvs s)[n] : Nat)).f2 = 2 → ¬ repOf s (wayN s n) = 0 := by
    intro h; rw [hw, repOf_snoc, if_pos h]; omega
   have hdef : ¬ (rd_T56 s ((lvs s)[n] : Nat)).f2 = 0 → ¬ defOf s (wayN s n) = 0 := by
    intro h; rw [hw, defOf_snoc, if_neg h]; omega
   have hnext := ih (n + 1) (by omega)
   have inner : ∀ (d j : Nat), j + d = n → Ev (fun k => laws_FnLeaves.l1 k s (ints (lvs s)) n (namesOf s (wayN s n)) j) true := by
    intro d
    induction d with
    | zero =>
     intro j hj
     refine Ev.step (fun k => ?_) hnext
     simp only [laws_FnLeaves.l1]
     rw [if_neg (by omega), wrap_id (n := (n : Int) + 1) (by omega) (by omega)]; push_cast; rfl
    | succ d ihd =>
     intro j hj
     have hj' : j < (lvs s).length := by omega
     obtain ⟨_, hpj, h7j⟩ := lvs_ok s j hj'
     refine ev_succ' ?_
     simp only [laws_FnLeaves.l1]
     simp only [if_pos (show (j : Int) < (n : Int) by omega)]
     refine Ev.bind (impl_LeafPath_ev s hs hc j) ?_
     have hjl := wayN_len s j
     refine FnLeaves_l2 s _ _ _ _ _ (by rw [namesOf_len]; omega) (by rw [namesOf_len]; omega) ?_ true ?_
     ·rw [wayN_at s j hj', wayN_at s n hn']
      have z : ∀ m (hm : m < (lvs s).length), 0 < (lvs s)[m] := by
       intro m hm
       obtain ⟨_, _, h7m⟩ := lvs_ok s m hm
       by_cases h0 : (lvs s)[m] = 0
       ·rw [h0] at h7m; exact absurd hok.2.1.1 h7m
       ·omega
      exact path_apart s hok _ _ hpj hp (z j hj') (z n hn') (lvs_inj s j n hj' hn' (by omega)) h7j h7
     ·rw [wrap_id (n := (j : Int) + 1) (by omega) (by omega)]
      exact ihd (j + 1) (by omega)
   have j2 : Ev (fun k => laws_FnLeaves.j2 k s (ints (lvs s)) n (namesOf s (wayN s n)) false) true :=
    Ev.step (fun k => by simp only [laws_FnLeaves.j2]; rw [if_neg (by simp)]; rfl) (inner n 0 (by omega))
   have j1 : Ev (fun k => laws_FnLeaves.j1 k s (ints (lvs s)) n (namesOf s (wayN s n)) (defOf s (wayN s n)) (repOf s (wayN s n)) false) true := by
    refine ev_succ' ?_
    simp only [laws_FnLeaves.j1, Bool.false_eq_true, if_false, ints_len]
    rw [hrd]
    refine ev_if (show (0 : Int) ≤ n by omega) ?_
    refine ev_if (show (n : Int) < (lvs s).length by omega) ?_
    refine ev_if (show (0 : Int) ≤ ((lvs s)[n] : Nat) by omega) ?_
    refine ev_if (show (((lvs s)[n] : Nat) : Int) < s.length by omega) ?_
    by_cases q2 : (rd_T56 s ((lvs s)[n] : Nat)).f2 = 2
    ·have := hrep q2
     simp only [if_pos q2, if_neg (show ¬ (repOf s (wayN s n) : Int) = 0 by omega), if_neg (show ¬ (rd_T56 s ((lvs s)[n] : Nat)).f2 = 0 by omega)]
     have hd := hdef (by omega)
     rw [show ((defOf s (wayN s n) : Int) == 0) = false from beq_eq_false_iff_ne.2 (by omega)]
     exact j2
    ·simp only [if_neg q2]
     by_cases q0 : (rd_T56 s ((lvs s)[n] : Nat)).f2 = 0
     ·simp only [if_pos q0]; exact j2
     ·have hd := hdef q0
      simp only [if_neg q0]
      rw [show ((defOf s (wayN s n) : Int) == 0) = false from beq_eq_false_iff_ne.2 (by omega)]
      exact j2
   refine ev_succ' ?_
   simp only [laws_FnLeaves.l0]
   refine ev_if (show (n : Int) < ((ints (lvs s)).length : Int) by rw [ints_len]; omega) ?_
   refine Ev.bind (impl_LeafPath_ev s hs hc n) ?_
   refine Ev.bind (impl_LeafMax_ev s hs hc n) ?_
   rw [hmax, hnl, hrd, wrap_id (n := ((wayN s n).length : Int) - 1) (by omega) (by omega), hlast]
   simp only [if_neg (show ¬ ((wayN s n).length : Int) < 1 by omega), if_pos (show (0 : Int) ≤ ((wayN s n).length : Int) - 1 by omega), if_pos (show ((wayN s n).length : Int) - 1 < ((wayN s n).length : Int) by omega), if_pos (show (0 : Int) ≤ (n : Int) by omega), if_pos (show (0 : Int) ≤ (((lvs s)[n] : Nat) : Int) by omega), if_pos (show (((lvs s)[n] : Nat) : Int) < (s.length : Int) by omega), if_true, if_neg (show ¬ (repOf s (wayN s n) : Int) < 0 by omega), if_neg (show ¬ (repOf s (wayN s n) : Int) > (defOf s (wayN s n) : Int) by omega), if_neg (show ¬ (defOf s (wayN s n) : Int) > ((wayN s n).length : Int) by omega)]
   rw [show ((rd_T56 s ((lvs s)[n] : Nat)).f1 == 7) = false from beq_eq_false_iff_ne.2 h7]
   exact j1
 exact key (lvs s).length 0 (by omega)

end Go.Proofs.Ytjbghmdbceekiaa.Pure
