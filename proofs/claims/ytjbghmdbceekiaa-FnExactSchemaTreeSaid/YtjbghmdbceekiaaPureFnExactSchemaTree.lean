/- SchemaTree answers as the reference does, for all cols. -/
import Derived.Test.YtjbghmdbceekiaaPFnExactSchemaTreex9
import Derived.Test.YtjbghmdbceekiaaCom
namespace Go.Proofs.Ytjbghmdbceekiaa.Pure
open Go Go.RowKit Go.Proofs.Ytjbghmdbceekiaa.PFnExactSchemaTree Go.Proofs.YtjbghmdbceekiaaW.PrintWords Go.Proofs.YtjbghmdbceekiaaW.PrintLast Go.Proofs.YtjbghmdbceekiaaW.PrintMore Go.Proofs.Ytjbghmdbceekiaa.Com
set_option linter.unusedVariables false
set_option linter.unusedSimpArgs false

theorem ifc {α : Type} {p q : Prop} [Decidable p] [Decidable q] (h : p ↔ q) (a b : α) : (if p then a else b) = if q then a else b := by
 by_cases hp : p
 ·rw [if_pos hp, if_pos (h.1 hp)]
 ·rw [if_neg hp, if_neg (fun hq => hp (h.2 hq))]
def nameOk (s : ByteArray) : Prop := (1 ≤ s.size ∧ s.size ≤ 20) ∧ ∀ i : Nat, i < s.size → 97 ≤ bt s i ∧ bt s i ≤ 122
instance (s : ByteArray) : Decidable (nameOk s) := by unfold nameOk; infer_instance
abbrev C := S56
def cok (s : List C) (a : Nat) : Prop :=
 ((rd_T56 s a).f1 = 7 ∧ 0 < (rd_T56 s a).f3 ∨ ((rd_T56 s a).f1 = 0 ∨ (rd_T56 s a).f1 = 1 ∨ (rd_T56 s a).f1 = 2 ∨ (rd_T56 s a).f1 = 5 ∨ (rd_T56 s a).f1 = 6) ∧ (rd_T56 s a).f3 = 0) ∧ (0 ≤ (rd_T56 s a).f2 ∧ (rd_T56 s a).f2 ≤ 2) ∧ (0 < a → nameOk (rd_T56 s a).f0)
instance (s : List C) (a : Nat) : Decidable (cok s a) := by unfold cok; infer_instance
def parts (s : List C) (g : Nat → Option Nat) : Nat → Nat → List ByteArray → Option Nat
 | 0, n, _ => some n
 | m + 1, n, ns => if n < s.length ∧ ∀ x ∈ ns, ¬ x.toList = (rd_T56 s n).f0.toList then (g n).bind fun n' => parts s g m n' (ns ++ [(rd_T56 s n).f0]) else none
def aft (s : List C) : Nat → Nat → Option Nat
 | 0, _ => none
 | d + 1, a => if a < s.length ∧ cok s a then parts s (aft s d) (rd_T56 s a).f3.toNat (a + 1) [] else none
def ofO : Option Nat → Int
 | none => -1
 | some n => n
theorem parts_succ (s : List C) (g : Nat → Option Nat) (m n : Nat) (ns : List ByteArray) : parts s g (m + 1) n ns = if n < s.length ∧ ∀ x ∈ ns, ¬ x.toList = (rd_T56 s n).f0.toList then (g n).bind fun n' => parts s g m n' (ns ++ [(rd_T56 s n).f0]) else none := rfl
theorem aft_succ (s : List C) (d a : Nat) : aft s (d + 1) a = if a < s.length ∧ cok s a then parts s (aft s d) (rd_T56 s a).f3.toNat (a + 1) [] else none := rfl
theorem parts_ge (s : List C) (g : Nat → Option Nat) (hg : ∀ n n', g n = some n' → n < n' ∧ n' ≤ s.length) : ∀ (m n : Nat) (ns : List ByteArray) (e : Nat), n ≤ s.length → parts s g m n ns = some e → n ≤ e ∧ e ≤ s.length := by
 intro m
 induction m with
 | zero => intro n ns e hn h; cases h; exact ⟨Nat.le_refl _, hn⟩
 | succ m ih =>
  intro n ns e hn h
  rw [parts_succ] at h
  split at h
  ·cases hq : g n with
   | none => rw [hq] at h; cases h
   | some n' =>
    rw [hq] at h
    have h1 := hg n n' hq
    have h2 := ih n' _ e h1.2 h
    omega
  ·cases h
theorem aft_lt (s : List C) : ∀ d a e, aft s d a = some e → a < e ∧ e ≤ s.length := by
 intro d
 induction d with
 | zero => intro a e h; cases h
 | succ d ih =>
  intro a e h
  rw [aft_succ] at h
  split at h
  ·rename_i hc
   have := parts_ge s (aft s d) ih _ _ _ _ (by omega) h
   omega
  ·cases h
def root (s : List C) : Prop := (rd_T56 s 0).f1 = 7 ∧ (rd_T56 s 0).f2 = 0 ∧ (rd_T56 s 0).f0.toList = []
instance (s : List C) : Decidable (root s) := by unfold root; infer_instance
def sok (s : List C) : Prop := (2 ≤ s.length ∧ s.length ≤ 20) ∧ root s ∧ aft s 6 0 = some s.length
instance (s : List C) : Decidable (sok s) := by unfold sok; infer_instance
theorem impl_within_ev (x a b : Int) : impl_within.f x a b = some (decide (a ≤ x ∧ x ≤ b)) := by
 unfold impl_within.f
 by_cases h : x ≥ a
 ·rw [if_pos h]; congr 1; simp [show a ≤ x from h]
 ·rw [if_neg h]; congr 1; simp [show ¬ a ≤ x from h]

theorem impl_TypeOk_ev (t : Int) : impl_TypeOk.f t = some (decide (t = 0 ∨ t = 1 ∨ t = 2 ∨ t = 5 ∨ t = 6)) := by
 unfold impl_TypeOk.f
 simp only [impl_within_ev, Option.bind_some]
 by_cases h : 0 ≤ t ∧ t ≤ 2
 ·simp only [decide_eq_true h, if_true]; rw [decide_eq_true (by omega)]
 ·simp only [decide_eq_false h, Bool.false_eq_true, if_false]
  by_cases h5 : t = 5
  ·rw [if_pos h5, decide_eq_true (by omega)]
  ·rw [if_neg h5]; congr 1
   by_cases h6 : t = 6
   ·subst h6; rfl
   ·rw [decide_eq_false (by omega)]; simpa using h6

theorem isColName_l (s : ByteArray) (hs : s.size ≤ 9223372036854775807) : ∀ (d i : Nat), i + d = s.size → Ev (fun k => impl_isColName.l0 k s s.size i) (decide ((1 ≤ s.size ∧ s.size ≤ 20) ∧ ∀ j : Nat, j < s.size → i ≤ j → 97 ≤ bt s j ∧ bt s j ≤ 122)) := by
 intro d
 induction d with
 | zero =>
  intro i hd
  refine Ev.step (f := fun _ => some (decide ((1 ≤ s.size ∧ s.size ≤ 20) ∧ ∀ j : Nat, j < s.size → i ≤ j → 97 ≤ bt s j ∧ bt s j ≤ 122))) (fun k => ?_) (Ev.now _)
  simp only [impl_isColName.l0]
  rw [if_neg (by omega), impl_within_ev]
  simp only [Option.bind_some]
  congr 1
  rw [decide_eq_decide]
  constructor
  ·intro h; exact ⟨by omega, fun j h1 h2 => by omega⟩
  ·intro h; omega
 | succ d ih =>
  intro i hd
  have hb := bt_range s i
  by_cases hc : 97 ≤ bt s i ∧ bt s i ≤ 122
  ·have e : decide ((1 ≤ s.size ∧ s.size ≤ 20) ∧ ∀ j : Nat, j < s.size → i ≤ j → 97 ≤ bt s j ∧ bt s j ≤ 122) = decide ((1 ≤ s.size ∧ s.size ≤ 20) ∧ ∀ j : Nat, j < s.size → i + 1 ≤ j → 97 ≤ bt s j ∧ bt s j ≤ 122) := by
    rw [decide_eq_decide]
    constructor
    ·intro h; exact ⟨h.1, fun j h1 h2 => h.2 j h1 (by omega)⟩
    ·intro h; refine ⟨h.1, fun j h1 h2 => ?_⟩
     by_cases hj : j = i
     ·subst hj; exact hc
     ·exact h.2 j h1 (by omega)
   rw [e]
   refine Ev.step (fun k => ?_) (ih (i + 1) (by omega))
   simp only [impl_isColName.l0]
   rw [if_pos (by omega), if_pos (by omega), if_pos (by omega), wrap_id (n := bt s i) (by omega) (by omega), impl_within_ev, decide_eq_true hc, wrap_id (n := (i : Int) + 1) (by omega) (by omega)]
   simp only [Option.bind_some, if_true]; push_cast; rfl
  ·rw [decide_eq_false (fun h => hc (h.2 i (by omega) (Nat.le_refl _)))]
   refine Ev.step (f := fun _ => some false) (fun k => ?_) (Ev.now _)
   simp only [impl_isColName.l0]
   rw [if_pos (by omega), if_pos (by omega), if_pos (by omega), wrap_id (n := bt s i) (by omega) (by omega), impl_within_ev, decide_eq_false hc]
   rfl
theorem impl_isColName_ev (s : ByteArray) (hs : s.size ≤ 9223372036854775807) : Ev (fun k => impl_isColName.f k s) (decide (nameOk s)) := by
 have h := isColName_l s hs s.size 0 (by omega)
 unfold impl_isColName.f
 rw [show decide (nameOk s) = decide ((1 ≤ s.size ∧ s.size ≤ 20) ∧ ∀ j : Nat, j < s.size → 0 ≤ j → 97 ≤ bt s j ∧ bt s j ≤ 122) from by
  rw [decide_eq_decide]; unfold nameOk
  exact ⟨fun h => ⟨h.1, fun j h1 _ => h.2 j h1⟩, fun h => ⟨h.1, fun j h1 => h.2 j h1 (Nat.zero_le _)⟩⟩]
 exact h
theorem impl_colOk_ev (a : ByteArray) (t r m : Int) : impl_colOk.f a t r m = some (decide ((t = 7 ∧ 0 < m ∨ (t = 0 ∨ t = 1 ∨ t = 2 ∨ t = 5 ∨ t = 6) ∧ m = 0) ∧ (0 ≤ r ∧ r ≤ 2))) := by
 unfold impl_colOk.f
 simp only [impl_TypeOk_ev, impl_within_ev, Option.bind_some]
 by_cases h7 : t = 7
 ·subst h7
  rw [if_pos rfl, if_neg (by decide)]
  by_cases hm : m > 0
  ·rw [if_pos hm]; congr 1; rw [decide_eq_decide]; omega
  ·rw [if_neg hm]; congr 1; symm; rw [decide_eq_false_iff_not]; omega
 ·rw [if_neg h7]
  by_cases ht : t = 0 ∨ t = 1 ∨ t = 2 ∨ t = 5 ∨ t = 6
  ·rw [decide_eq_true ht, if_pos rfl]
   by_cases hm : m = 0
   ·rw [if_pos hm]; congr 1; rw [decide_eq_decide]; omega
   ·rw [if_neg hm]; congr 1; symm; rw [decide_eq_false_iff_not]; omega
  ·rw [decide_eq_false ht, if_neg (by decide)]; congr 1; symm; rw [decide_eq_false_iff_not]; omega
theorem rdOf_mem (ns : List ByteArray) (i : Nat) (h : i < ns.length) : rdOf ByteArray.empty ns i = ns[i] := by
 unfold rdOf; simp [h]
theorem colAfter_names (s : List C) (d n : Nat) (ns : List ByteArray) (many j : Int) (hn : n < s.length) (hns : ns.length ≤ 1000000000) (R : Int)
  (hR : ¬ (∀ x ∈ ns, ¬ x.toList = (rd_T56 s n).f0.toList) → R = -1)
  (h : (∀ x ∈ ns, ¬ x.toList = (rd_T56 s n).f0.toList) → Ev (fun k => (impl_colAfter.f k s n (wrap64 ((d : Int) + 1))).bind fun t => if t < 0 then some (-1) else impl_colAfter.l0 k s d t (ns ++ [(rd_T56 s n).f0]) many (wrap64 (j + 1))) R) :
  ∀ (c i : Nat), i + c = ns.length → (∀ q, q < i → ∀ hq : q < ns.length, ¬ ns[q].toList = (rd_T56 s n).f0.toList) → Ev (fun k => impl_colAfter.l1 k s d n ns many j ns ns.length i) R := by
 intro c
 induction c with
 | zero =>
  intro i hc hq
  refine Ev.step (fun k => ?_) (h (fun x hx => by
   obtain ⟨q, hql, rfl⟩ := List.getElem_of_mem hx
   exact hq q (by omega) hql))
  simp only [impl_colAfter.l1]
  rw [if_neg (by omega), if_pos (by omega), if_pos (by omega), if_pos (by omega)]
 | succ c ih =>
  intro i hc hq
  by_cases he : ns[i].toList = (rd_T56 s n).f0.toList
  ·rw [hR (fun hx => hx _ (List.getElem_mem (by omega)) he)]
   refine Ev.step (f := fun _ => some (-1)) (fun k => ?_) (Ev.now _)
   simp only [impl_colAfter.l1]
   rw [if_pos (by omega), if_pos (by omega), if_pos (by omega), if_pos (by omega), if_pos (by omega), rdOf_mem _ _ (by omega), if_pos he]
  ·refine Ev.step (fun k => ?_) (ih (i + 1) (by omega) (fun q h1 h2 => by
    by_cases hqi : q = i
    ·subst hqi; exact he
    ·exact hq q (by omega) h2))
   simp only [impl_colAfter.l1]
   rw [if_pos (by omega), if_pos (by omega), if_pos (by omega), if_pos (by omega), if_pos (by omega), rdOf_mem _ _ (by omega), if_neg he, wrap_id (n := (i : Int) + 1) (by omega) (by omega)]; push_cast; rfl
theorem colAfter_parts (s : List C) (hs : s.length ≤ 1000000000) (d D : Nat) (hd : d ≤ 100) (ih : ∀ n : Nat, Ev (fun k => impl_colAfter.f k s n ((d + 1 : Nat) : Int)) (ofO (aft s D n))) :
  ∀ (m n : Nat) (ns : List ByteArray) (many j : Int), ns.length ≤ n → n ≤ s.length → 0 ≤ j → many < 9223372036854775808 → (many - j).toNat = m → Ev (fun k => impl_colAfter.l0 k s d n ns many j) (ofO (parts s (aft s D) m n ns)) := by
 intro m
 induction m with
 | zero =>
  intro n ns many j hns hn h0 h9 hm
  refine Ev.step (f := fun _ => some (n : Int)) (fun k => ?_) (Ev.now _)
  simp only [impl_colAfter.l0]
  rw [if_neg (by omega)]
 | succ m ihm =>
  intro n ns many j hns hn h0 h9 hm
  rw [parts_succ]
  by_cases hlt : n < s.length
  ·refine Ev.step (f := fun k => impl_colAfter.l1 k s d n ns many j ns ns.length (0 : Nat)) (fun k => ?_) ?_
   ·simp only [impl_colAfter.l0]
    rw [if_pos (by omega), if_neg (by omega)]; rfl
   refine colAfter_names s d n ns many j hlt (by omega) _ ?_ ?_ ns.length 0 (by omega) (by omega)
   ·intro hx; rw [if_neg (fun h => hx h.2)]; rfl
   ·intro hx
    rw [if_pos ⟨hlt, hx⟩, wrap_id (n := (d : Int) + 1) (by omega) (by omega), wrap_id (n := j + 1) (by omega) (by omega)]
    refine Ev.bind (ih n) ?_
    cases hq : aft s D n with
    | none =>
     simp only [ofO, Option.bind_none, if_pos (show (-1 : Int) < 0 by decide)]; exact Ev.now _
    | some n' =>
     have hl := aft_lt s D n n' hq
     simp only [ofO, Option.bind_some, if_neg (show ¬ (n' : Int) < 0 by omega)]
     exact ihm n' _ many (j + 1) (by simp; omega) hl.2 (by omega) h9 (by omega)
  ·rw [if_neg (fun h => hlt h.1)]
   refine Ev.step (f := fun _ => some (-1)) (fun k => ?_) (Ev.now _)
   simp only [impl_colAfter.l0]
   rw [if_pos (by omega), if_pos (by omega)]
def colsOk (s : List C) : Prop := ∀ i : Nat, i < s.length → (rd_T56 s i).f0.size ≤ 9223372036854775807 ∧ (rd_T56 s i).f3 < 9223372036854775808
theorem impl_colAfter_ev (s : List C) (hs : s.length ≤ 1000000000) (hc : colsOk s) : ∀ (D d a : Nat), d + D = 7 → Ev (fun k => impl_colAfter.f k s a d) (ofO (aft s D a)) := by
 have bad : ∀ (a d : Nat), Ev (fun k => impl_colAfter.j0 k s a d true) (-1) := fun a d => Ev.step (f := fun _ => some (-1)) (fun k => by simp only [impl_colAfter.j0]; rw [if_pos trivial]) (Ev.now _)
 intro D
 induction D with
 | zero =>
  intro d a hd
  refine Ev.step (fun k => ?_) (bad a d)
  simp only [impl_colAfter.f]
  by_cases h : (a : Int) ≥ s.length
  ·rw [if_pos h]
  ·rw [if_neg h, if_pos (by omega)]
 | succ D ih =>
  intro d a hd
  rw [aft_succ]
  by_cases hlt : a < s.length
  ·have hcs := hc a hlt
   have hg : Ev (fun k => impl_colAfter.j0 k s a d false) (ofO (parts s (aft s D) (rd_T56 s a).f3.toNat (a + 1) [])) := by
    refine Ev.step (fun k => ?_) (colAfter_parts s hs d D (by omega) (fun n => ih (d + 1) n (by omega)) (rd_T56 s a).f3.toNat (a + 1) [] (rd_T56 s a).f3 0 (by simp) (by omega) (by omega) hcs.2 (by simp))
    simp only [impl_colAfter.j0]
    rw [if_neg (by simp), if_pos (by omega), if_pos (by omega), wrap_id (n := (a : Int) + 1) (by omega) (by omega)]; push_cast; rfl
   by_cases h1 : ((rd_T56 s a).f1 = 7 ∧ 0 < (rd_T56 s a).f3 ∨ ((rd_T56 s a).f1 = 0 ∨ (rd_T56 s a).f1 = 1 ∨ (rd_T56 s a).f1 = 2 ∨ (rd_T56 s a).f1 = 5 ∨ (rd_T56 s a).f1 = 6) ∧ (rd_T56 s a).f3 = 0) ∧ (0 ≤ (rd_T56 s a).f2 ∧ (rd_T56 s a).f2 ≤ 2)
   ·by_cases h0 : 0 < a
    ·by_cases hn : nameOk (rd_T56 s a).f0
     ·rw [if_pos ⟨hlt, h1.1, h1.2, fun _ => hn⟩]
      refine Ev.step (f := fun k => (impl_isColName.f k (rd_T56 s a).f0).bind fun t => impl_colAfter.j0 k s a d (!t)) (fun k => ?_) ?_
      ·simp only [impl_colAfter.f]
       rw [if_neg (by omega), if_neg (by omega), if_pos (by omega), if_pos (by omega), impl_colOk_ev, decide_eq_true h1]
       simp only [Option.bind_some, if_true]
       rw [if_pos (by omega)]
      ·refine Ev.bind (impl_isColName_ev _ hcs.1) ?_
       simp only [decide_eq_true hn, Bool.not_true]; exact hg
     ·rw [if_neg (fun h => hn (h.2.2.2 h0))]
      refine Ev.step (f := fun k => (impl_isColName.f k (rd_T56 s a).f0).bind fun t => impl_colAfter.j0 k s a d (!t)) (fun k => ?_) ?_
      ·simp only [impl_colAfter.f]
       rw [if_neg (by omega), if_neg (by omega), if_pos (by omega), if_pos (by omega), impl_colOk_ev, decide_eq_true h1]
       simp only [Option.bind_some, if_true]
       rw [if_pos (by omega)]
      ·refine Ev.bind (impl_isColName_ev _ hcs.1) ?_
       simp only [decide_eq_false hn, Bool.not_false]; exact bad a d
    ·rw [if_pos ⟨hlt, h1.1, h1.2, fun h => absurd h h0⟩]
     refine Ev.step (fun k => ?_) hg
     simp only [impl_colAfter.f]
     rw [if_neg (by omega), if_neg (by omega), if_pos (by omega), if_pos (by omega), impl_colOk_ev, decide_eq_true h1]
     simp only [Option.bind_some, if_true]
     rw [if_neg (by omega)]
   ·rw [if_neg (fun h => h1 ⟨h.2.1, h.2.2.1⟩)]
    refine Ev.step (fun k => ?_) (bad a d)
    simp only [impl_colAfter.f]
    rw [if_neg (by omega), if_neg (by omega), if_pos (by omega), if_pos (by omega), impl_colOk_ev, decide_eq_false h1]
    simp only [Option.bind_some, Bool.false_eq_true, if_false]
  ·rw [if_neg (fun h => hlt h.1)]
   refine Ev.step (fun k => ?_) (bad a d)
   simp only [impl_colAfter.f]
   rw [if_pos (by omega)]
theorem impl_SchemaOk_ev (s : List C) (hs : s.length ≤ 1000000000) (hc : colsOk s) : Ev (fun k => impl_SchemaOk.f k s) (decide (sok s)) := by
 unfold impl_SchemaOk.f
 simp only [impl_within_ev, Option.bind_some]
 by_cases h1 : 2 ≤ s.length ∧ s.length ≤ 20
 ·simp only [decide_eq_true (show (2 : Int) ≤ s.length ∧ (s.length : Int) ≤ 20 by omega), if_true, if_pos (show (0 : Int) < s.length by omega)]
  by_cases h7 : (rd_T56 s 0).f1 = 7
  ·by_cases h0 : (rd_T56 s 0).f2 = 0
   ·by_cases hn : (rd_T56 s 0).f0.toList = []
    ·simp only [if_pos h7, if_pos h0, if_pos hn]
     refine Ev.bind (impl_colAfter_ev s hs hc 6 1 0 (by omega)) ?_
     have e : (ofO (aft s 6 0) == (s.length : Int)) = decide (sok s) := by
      by_cases ha : aft s 6 0 = some s.length
      ·rw [decide_eq_true (show sok s from ⟨h1, ⟨h7, h0, hn⟩, ha⟩), ha]; simp [ofO]
      ·rw [decide_eq_false (fun h => ha h.2.2), beq_eq_false_iff_ne]
       intro he
       cases hq : aft s 6 0 with
       | none => rw [hq] at he; simp only [ofO] at he; omega
       | some n => rw [hq] at he ha; simp only [ofO] at he; exact ha (congrArg some (by omega))
     rw [e]; exact Ev.now _
    ·simp only [if_pos h7, if_pos h0, if_neg hn]
     rw [decide_eq_false (fun h => hn h.2.1.2.2)]; exact Ev.now _
   ·simp only [if_pos h7, if_neg h0]
    rw [decide_eq_false (fun h => h0 h.2.1.2.1)]; exact Ev.now _
  ·simp only [if_neg h7]
   rw [decide_eq_false (fun h => h7 h.2.1.1)]; exact Ev.now _
 ·simp only [decide_eq_false (show ¬ ((2 : Int) ≤ s.length ∧ (s.length : Int) ≤ 20) by omega), Bool.false_eq_true, if_false]
  rw [decide_eq_false (fun h => h1 h.1)]; exact Ev.now _

theorem spec_l1In_ev (x a b : Int) : spec_l1In.f x a b = some (decide (a ≤ x ∧ x ≤ b)) := by
 unfold spec_l1In.f
 by_cases h : x ≥ a
 ·rw [if_pos h]; congr 1; simp [show a ≤ x from h]
 ·rw [if_neg h]; congr 1; simp [show ¬ a ≤ x from h]

theorem spec_l5Type_ev (t : Int) : spec_l5Type.f t = some (decide (t = 0 ∨ t = 1 ∨ t = 2 ∨ t = 5 ∨ t = 6)) := by
 unfold spec_l5Type.f
 by_cases h0 : t = 0
 ·rw [if_pos h0, decide_eq_true (by omega)]
 rw [if_neg h0]
 by_cases h1 : t = 1
 ·rw [if_pos h1, decide_eq_true (by omega)]
 rw [if_neg h1]
 by_cases h2 : t = 2
 ·rw [if_pos h2, decide_eq_true (by omega)]
 rw [if_neg h2]
 by_cases h5 : t = 5
 ·rw [if_pos h5, decide_eq_true (by omega)]
 rw [if_neg h5]
 by_cases h6 : t = 6
 ·rw [if_pos h6, decide_eq_true (by omega)]
 rw [if_neg h6, decide_eq_false (by omega)]

theorem l5Name_l (s : ByteArray) (hs : s.size ≤ 9223372036854775807) : ∀ (d i : Nat), i + d = s.size → Ev (fun k => spec_l5Name.l0 k s i) (decide (∀ j : Nat, j < s.size → i ≤ j → 97 ≤ bt s j ∧ bt s j ≤ 122)) := by
 intro d
 induction d with
 | zero =>
  intro i hd
  rw [decide_eq_true (fun j h1 h2 => by omega)]
  refine Ev.step (f := fun _ => some true) (fun k => ?_) (Ev.now _)
  simp only [spec_l5Name.l0]
  rw [if_neg (by omega)]
 | succ d ih =>
  intro i hd
  by_cases hc : 97 ≤ bt s i ∧ bt s i ≤ 122
  ·have e : decide (∀ j : Nat, j < s.size → i ≤ j → 97 ≤ bt s j ∧ bt s j ≤ 122) = decide (∀ j : Nat, j < s.size → i + 1 ≤ j → 97 ≤ bt s j ∧ bt s j ≤ 122) := by
    rw [decide_eq_decide]
    constructor
    ·intro h j h1 h2; exact h j h1 (by omega)
    ·intro h j h1 h2
     by_cases hj : j = i
     ·subst hj; exact hc
     ·exact h j h1 (by omega)
   rw [e]
   refine Ev.step (fun k => ?_) (ih (i + 1) (by omega))
   simp only [spec_l5Name.l0]
   rw [if_pos (by omega), if_pos (by omega), if_neg (by omega), if_neg (by omega), wrap_id (n := (i : Int) + 1) (by omega) (by omega)]; push_cast; rfl
  ·rw [decide_eq_false (fun h => hc (h i (by omega) (Nat.le_refl _)))]
   refine Ev.step (f := fun _ => some false) (fun k => ?_) (Ev.now _)
   simp only [spec_l5Name.l0]
   rw [if_pos (by omega), if_pos (by omega)]
   by_cases h1 : bt s i < 97
   ·rw [if_pos h1]
   ·rw [if_neg h1, if_pos (by omega)]
theorem spec_l5Name_ev (s : ByteArray) (hs : s.size ≤ 9223372036854775807) : Ev (fun k => spec_l5Name.f k s) (decide (nameOk s)) := by
 unfold spec_l5Name.f
 simp only [spec_l1In_ev, Option.bind_some]
 by_cases h : 1 ≤ s.size ∧ s.size ≤ 20
 ·simp only [decide_eq_true (show (1 : Int) ≤ s.size ∧ (s.size : Int) ≤ 20 by omega), if_true]
  rw [show decide (nameOk s) = decide (∀ j : Nat, j < s.size → 0 ≤ j → 97 ≤ bt s j ∧ bt s j ≤ 122) from by
   rw [decide_eq_decide]; unfold nameOk
   exact ⟨fun h j h1 _ => h.2 j h1, fun h' => ⟨h, fun j h1 => h' j h1 (Nat.zero_le _)⟩⟩]
  exact l5Name_l s hs s.size 0 (by omega)
 ·simp only [decide_eq_false (show ¬ ((1 : Int) ≤ s.size ∧ (s.size : Int) ≤ 20) by omega), Bool.false_eq_true, if_false]
  rw [decide_eq_false (fun h' => h h'.1)]; exact Ev.now _
theorem l5Check_names (s : List C) (d n : Nat) (ns : List ByteArray) (j : Int) (x : ByteArray) (t r many : Int) (hn : n < s.length) (hns : ns.length ≤ 1000000000) (R : Int)
  (hR : ¬ (∀ x ∈ ns, ¬ x.toList = (rd_T56 s n).f0.toList) → R = -1)
  (h : (∀ x ∈ ns, ¬ x.toList = (rd_T56 s n).f0.toList) → Ev (fun k => (spec_l5Check.f k s n (wrap64 ((d : Int) + 1))).bind fun t' => if t' < 0 then some (-1) else spec_l5Check.l0 k s d t' (ns ++ [(rd_T56 s n).f0]) (wrap64 (j + 1)) x t r many) R) :
  ∀ (c i : Nat), i + c = ns.length → (∀ q, q < i → ∀ hq : q < ns.length, ¬ ns[q].toList = (rd_T56 s n).f0.toList) → Ev (fun k => spec_l5Check.l1 k s d n ns j i x t r many) R := by
 intro c
 induction c with
 | zero =>
  intro i hc hq
  refine Ev.step (fun k => ?_) (h (fun x hx => by
   obtain ⟨q, hql, rfl⟩ := List.getElem_of_mem hx
   exact hq q (by omega) hql))
  simp only [spec_l5Check.l1]
  rw [if_neg (by omega), if_pos (by omega), if_pos (by omega), if_pos (by omega)]
 | succ c ih =>
  intro i hc hq
  by_cases he : ns[i].toList = (rd_T56 s n).f0.toList
  ·rw [hR (fun hx => hx _ (List.getElem_mem (by omega)) he)]
   refine Ev.step (f := fun _ => some (-1)) (fun k => ?_) (Ev.now _)
   simp only [spec_l5Check.l1]
   rw [if_pos (by omega), if_pos (by omega), if_pos (by omega), if_pos (by omega), rdOf_mem _ _ (by omega), if_pos he]
  ·refine Ev.step (fun k => ?_) (ih (i + 1) (by omega) (fun q h1 h2 => by
    by_cases hqi : q = i
    ·subst hqi; exact he
    ·exact hq q (by omega) h2))
   simp only [spec_l5Check.l1]
   rw [if_pos (by omega), if_pos (by omega), if_pos (by omega), if_pos (by omega), rdOf_mem _ _ (by omega), if_neg he, wrap_id (n := (i : Int) + 1) (by omega) (by omega)]; push_cast; rfl
theorem l5Check_parts (s : List C) (hs : s.length ≤ 1000000000) (d D : Nat) (hd : d ≤ 100) (x : ByteArray) (t r : Int) (ih : ∀ n : Nat, 0 < n → Ev (fun k => spec_l5Check.f k s n ((d + 1 : Nat) : Int)) (ofO (aft s D n))) :
  ∀ (m n : Nat) (ns : List ByteArray) (many j : Int), 0 < n → ns.length ≤ n → n ≤ s.length → 0 ≤ j → many < 9223372036854775808 → (many - j).toNat = m → Ev (fun k => spec_l5Check.l0 k s d n ns j x t r many) (ofO (parts s (aft s D) m n ns)) := by
 intro m
 induction m with
 | zero =>
  intro n ns many j hp hns hn h0 h9 hm
  refine Ev.step (f := fun _ => some (n : Int)) (fun k => ?_) (Ev.now _)
  simp only [spec_l5Check.l0]
  rw [if_neg (by omega)]
 | succ m ihm =>
  intro n ns many j hp hns hn h0 h9 hm
  rw [parts_succ]
  by_cases hlt : n < s.length
  ·refine Ev.step (f := fun k => spec_l5Check.l1 k s d n ns j (0 : Nat) x t r many) (fun k => ?_) ?_
   ·simp only [spec_l5Check.l0]
    rw [if_pos (by omega), if_neg (by omega)]; rfl
   refine l5Check_names s d n ns j x t r many hlt (by omega) _ ?_ ?_ ns.length 0 (by omega) (by omega)
   ·intro hx; rw [if_neg (fun h => hx h.2)]; rfl
   ·intro hx
    rw [if_pos ⟨hlt, hx⟩, wrap_id (n := (d : Int) + 1) (by omega) (by omega), wrap_id (n := j + 1) (by omega) (by omega)]
    refine Ev.bind (ih n hp) ?_
    cases hq : aft s D n with
    | none =>
     simp only [ofO, Option.bind_none, if_pos (show (-1 : Int) < 0 by decide)]; exact Ev.now _
    | some n' =>
     have hl := aft_lt s D n n' hq
     simp only [ofO, Option.bind_some, if_neg (show ¬ (n' : Int) < 0 by omega)]
     exact ihm n' _ many (j + 1) (by omega) (by simp; omega) hl.2 (by omega) h9 (by omega)
  ·rw [if_neg (fun h => hlt h.1)]
   refine Ev.step (f := fun _ => some (-1)) (fun k => ?_) (Ev.now _)
   simp only [spec_l5Check.l0]
   rw [if_pos (by omega), if_pos (by omega)]
def chk (s : List C) (D a : Nat) : Option Nat := if a = 0 ∧ ¬ root s then none else aft s D a
theorem spec_l5Check_ev (s : List C) (hs : s.length ≤ 1000000000) (hc : colsOk s) : ∀ (D d a : Nat), d + D = 7 → Ev (fun k => spec_l5Check.f k s a d) (ofO (chk s D a)) := by
 have bad : ∀ (a d : Nat), Ev (fun k => spec_l5Check.j0 k s a d true) (-1) := fun a d => Ev.step (f := fun _ => some (-1)) (fun k => by simp only [spec_l5Check.j0]; rw [if_pos trivial]) (Ev.now _)
 have bad1 : ∀ (a d : Nat) x t r m, Ev (fun k => spec_l5Check.j1 k s a d true x t r m) (-1) := fun a d x t r m => Ev.step (f := fun _ => some (-1)) (fun k => by simp only [spec_l5Check.j1]; rw [if_pos trivial]) (Ev.now _)
 intro D
 induction D with
 | zero =>
  intro d a hd
  rw [show chk s 0 a = none by unfold chk; split <;> rfl]
  refine Ev.step (fun k => ?_) (bad a d)
  simp only [spec_l5Check.f]
  by_cases h : (a : Int) ≥ s.length
  ·rw [if_pos h]
  ·rw [if_neg h, decide_eq_true (by omega)]
 | succ D ih =>
  intro d a hd
  have ih' : ∀ n : Nat, 0 < n → Ev (fun k => spec_l5Check.f k s n ((d + 1 : Nat) : Int)) (ofO (aft s D n)) := by
   intro n hn
   have h := ih (d + 1) n (by omega)
   rwa [show chk s D n = aft s D n by unfold chk; rw [if_neg (by omega)]] at h
  by_cases hlt : a < s.length
  ·have hcs := hc a hlt
   have hj1 : ∀ ok : Bool, Ev (fun k => spec_l5Check.j1 k s a d (!ok) (rd_T56 s a).f0 (rd_T56 s a).f1 (rd_T56 s a).f2 (rd_T56 s a).f3) (ofO (if ok = true ∧ ((rd_T56 s a).f1 = 7 ∧ 0 < (rd_T56 s a).f3 ∨ ((rd_T56 s a).f1 = 0 ∨ (rd_T56 s a).f1 = 1 ∨ (rd_T56 s a).f1 = 2 ∨ (rd_T56 s a).f1 = 5 ∨ (rd_T56 s a).f1 = 6) ∧ (rd_T56 s a).f3 = 0) then parts s (aft s D) (rd_T56 s a).f3.toNat (a + 1) [] else none)) := by
    intro ok
    cases ok with
    | false => rw [if_neg (by simp)]; exact bad1 _ _ _ _ _ _
    | true =>
     by_cases h7 : (rd_T56 s a).f1 = 7
     ·by_cases hm : (rd_T56 s a).f3 < 1
      ·rw [if_neg (by omega)]
       refine Ev.step (f := fun _ => some (-1)) (fun k => ?_) (Ev.now _)
       simp only [spec_l5Check.j1]
       rw [if_neg (by simp), if_pos h7, if_pos hm]
      ·rw [if_pos ⟨rfl, Or.inl ⟨h7, by omega⟩⟩]
       refine Ev.step (fun k => ?_) (l5Check_parts s hs d D (by omega) (rd_T56 s a).f0 (rd_T56 s a).f1 (rd_T56 s a).f2 ih' (rd_T56 s a).f3.toNat (a + 1) [] (rd_T56 s a).f3 0 (by omega) (by simp) (by omega) (by omega) hcs.2 (by simp))
       simp only [spec_l5Check.j1]
       rw [if_neg (by simp), if_pos h7, if_neg hm, wrap_id (n := (a : Int) + 1) (by omega) (by omega)]; push_cast; rfl
     ·by_cases ht : (rd_T56 s a).f1 = 0 ∨ (rd_T56 s a).f1 = 1 ∨ (rd_T56 s a).f1 = 2 ∨ (rd_T56 s a).f1 = 5 ∨ (rd_T56 s a).f1 = 6
      ·by_cases hm : (rd_T56 s a).f3 = 0
       ·rw [if_pos ⟨rfl, Or.inr ⟨ht, hm⟩⟩, hm]
        refine Ev.step (f := fun _ => some ((a : Int) + 1)) (fun k => ?_) (Ev.now _)
        simp only [spec_l5Check.j1]
        rw [if_neg (by simp), if_neg h7, spec_l5Type_ev, decide_eq_true ht, wrap_id (n := (a : Int) + 1) (by omega) (by omega)]
        simp only [Option.bind_some, if_true, if_pos hm]
       ·rw [if_neg (fun h => by rcases h.2 with h | h; exact h7 h.1; exact hm h.2)]
        refine Ev.step (f := fun _ => some (-1)) (fun k => ?_) (Ev.now _)
        simp only [spec_l5Check.j1]
        rw [if_neg (by simp), if_neg h7, spec_l5Type_ev, decide_eq_true ht]
        simp only [Option.bind_some, if_true, if_neg hm]
      ·rw [if_neg (fun h => by rcases h.2 with h | h; exact h7 h.1; exact ht h.1)]
       refine Ev.step (f := fun _ => some (-1)) (fun k => ?_) (Ev.now _)
       simp only [spec_l5Check.j1]
       rw [if_neg (by simp), if_neg h7, spec_l5Type_ev, decide_eq_false ht]
       simp only [Option.bind_some, Bool.false_eq_true, if_false]
   refine Ev.step (f := fun k => spec_l5Check.j0 k s a d false) (fun k => ?_) ?_
   ·simp only [spec_l5Check.f]
    rw [if_neg (by omega), decide_eq_false (by omega)]
   by_cases h0 : a = 0
   ·subst h0
    by_cases hr : root s
    ·have h2 := hj1 true
     rw [show chk s (D + 1) 0 = aft s (D + 1) 0 by unfold chk; rw [if_neg (fun h => h.2 hr)], aft_succ]
     have e2 : 0 ≤ (rd_T56 s (0 : Nat)).f2 ∧ (rd_T56 s (0 : Nat)).f2 ≤ 2 := by
      have : (rd_T56 s (0 : Nat)).f2 = 0 := hr.2.1
      omega
     have e : (0 < s.length ∧ cok s 0) ↔ (true = true ∧ ((rd_T56 s (0 : Nat)).f1 = 7 ∧ 0 < (rd_T56 s (0 : Nat)).f3 ∨ ((rd_T56 s (0 : Nat)).f1 = 0 ∨ (rd_T56 s (0 : Nat)).f1 = 1 ∨ (rd_T56 s (0 : Nat)).f1 = 2 ∨ (rd_T56 s (0 : Nat)).f1 = 5 ∨ (rd_T56 s (0 : Nat)).f1 = 6) ∧ (rd_T56 s (0 : Nat)).f3 = 0)) :=
      ⟨fun h => ⟨rfl, h.2.1⟩, fun h => ⟨hlt, h.2, e2, fun h => absurd h (by omega)⟩⟩
     rw [ifc e]
     refine Ev.step (fun k => ?_) h2
     simp only [spec_l5Check.j0]
     obtain ⟨r1, r2, r3⟩ := hr
     rw [if_neg (by simp), if_pos (by omega), if_pos (by omega), if_pos (show ((0 : Nat) : Int) = 0 from rfl), if_pos (show (rd_T56 s ((0 : Nat) : Int)).f0.toList = [] from r3), if_pos (show (rd_T56 s ((0 : Nat) : Int)).f2 = 0 from r2), if_pos (show (rd_T56 s ((0 : Nat) : Int)).f1 = 7 from r1), if_neg (by omega), spec_l1In_ev, decide_eq_true e2]
     rfl
    ·rw [show chk s (D + 1) 0 = none by unfold chk; rw [if_pos ⟨rfl, hr⟩]]
     refine Ev.step (fun k => ?_) (bad1 0 d (rd_T56 s (0 : Nat)).f0 (rd_T56 s (0 : Nat)).f1 (rd_T56 s (0 : Nat)).f2 (rd_T56 s (0 : Nat)).f3)
     simp only [spec_l5Check.j0]
     rw [if_neg (by simp), if_pos (by omega), if_pos (by omega), if_pos (show ((0 : Nat) : Int) = 0 from rfl)]
     by_cases r3 : (rd_T56 s ((0 : Nat) : Int)).f0.toList = []
     ·by_cases r2 : (rd_T56 s ((0 : Nat) : Int)).f2 = 0
      ·by_cases r1 : (rd_T56 s ((0 : Nat) : Int)).f1 = 7
       ·exact absurd ⟨r1, r2, r3⟩ hr
       ·rw [if_pos r3, if_pos r2, if_neg r1]
      ·rw [if_pos r3, if_neg r2]
     ·rw [if_neg r3]
   ·rw [show chk s (D + 1) a = aft s (D + 1) a by unfold chk; rw [if_neg (fun h => h0 h.1)], aft_succ]
    refine Ev.step (f := fun k => (spec_l5Name.f k (rd_T56 s a).f0).bind fun t => if t = true then (spec_l1In.f (rd_T56 s a).f2 0 2).bind fun t => spec_l5Check.j1 k s a d (!t) (rd_T56 s a).f0 (rd_T56 s a).f1 (rd_T56 s a).f2 (rd_T56 s a).f3 else spec_l5Check.j1 k s a d true (rd_T56 s a).f0 (rd_T56 s a).f1 (rd_T56 s a).f2 (rd_T56 s a).f3) (fun k => ?_) ?_
    ·simp only [spec_l5Check.j0]
     rw [if_neg (by simp), if_pos (by omega), if_pos (by omega), if_neg (by omega), if_pos (by omega)]
    refine Ev.bind (spec_l5Name_ev _ hcs.1) ?_
    by_cases hn : nameOk (rd_T56 s a).f0
    ·simp only [decide_eq_true hn, if_true, spec_l1In_ev, Option.bind_some]
     have h2 := hj1 (decide (0 ≤ (rd_T56 s a).f2 ∧ (rd_T56 s a).f2 ≤ 2))
     rw [show ofO (if a < s.length ∧ cok s a then parts s (aft s D) (rd_T56 s a).f3.toNat (a + 1) [] else none) = ofO (if decide (0 ≤ (rd_T56 s a).f2 ∧ (rd_T56 s a).f2 ≤ 2) = true ∧ ((rd_T56 s a).f1 = 7 ∧ 0 < (rd_T56 s a).f3 ∨ ((rd_T56 s a).f1 = 0 ∨ (rd_T56 s a).f1 = 1 ∨ (rd_T56 s a).f1 = 2 ∨ (rd_T56 s a).f1 = 5 ∨ (rd_T56 s a).f1 = 6) ∧ (rd_T56 s a).f3 = 0) then parts s (aft s D) (rd_T56 s a).f3.toNat (a + 1) [] else none) from congrArg ofO (ifc ⟨fun h => ⟨decide_eq_true h.2.2.1, h.2.1⟩, fun h => ⟨hlt, h.2, of_decide_eq_true h.1, fun _ => hn⟩⟩ _ _)]
     exact h2
    ·simp only [decide_eq_false hn, Bool.false_eq_true, if_false]
     rw [if_neg (fun h => hn (h.2.2.2 (by omega)))]
     exact bad1 _ _ _ _ _ _
  ·rw [show chk s (D + 1) a = none by
    unfold chk; split
    ·rfl
    ·rw [aft_succ, if_neg (fun h => hlt h.1)]]
   refine Ev.step (fun k => ?_) (bad a d)
   simp only [spec_l5Check.f]
   rw [if_pos (by omega)]
theorem spec_SchemaOk_ev (s : List C) (hs : s.length ≤ 1000000000) (hc : colsOk s) : Ev (fun k => spec_SchemaOk.f k s) (decide (sok s)) := by
 unfold spec_SchemaOk.f
 simp only [spec_l1In_ev, Option.bind_some]
 by_cases h1 : 2 ≤ s.length ∧ s.length ≤ 20
 ·simp only [decide_eq_true (show (2 : Int) ≤ s.length ∧ (s.length : Int) ≤ 20 by omega), if_true]
  refine Ev.bind (spec_l5Check_ev s hs hc 6 1 0 (by omega)) ?_
  have e : (ofO (chk s 6 0) == (s.length : Int)) = decide (sok s) := by
   unfold chk
   by_cases hr : root s
   ·rw [if_neg (fun h => h.2 hr)]
    by_cases ha : aft s 6 0 = some s.length
    ·rw [decide_eq_true (show sok s from ⟨h1, hr, ha⟩), ha]; simp [ofO]
    ·rw [decide_eq_false (fun h => ha h.2.2), beq_eq_false_iff_ne]
     intro he
     cases hq : aft s 6 0 with
     | none => rw [hq] at he; simp only [ofO] at he; omega
     | some n => rw [hq] at he ha; simp only [ofO] at he; exact ha (congrArg some (by omega))
   ·rw [if_pos ⟨rfl, hr⟩, decide_eq_false (fun h => hr h.2.1), beq_eq_false_iff_ne]; simp only [ofO]; omega
  rw [e]; exact Ev.now _
 ·simp only [decide_eq_false (show ¬ ((2 : Int) ≤ s.length ∧ (s.length : Int) ≤ 20) by omega), Bool.false_eq_true, if_false]
  rw [decide_eq_false (fun h => h1 h.1)]; exact Ev.now _

abbrev ND := S74
theorem rd_node (l : List ND) (i : Nat) (h : i < l.length) : rd_T74 l i = l[i] := by
 unfold rd_T74; simp [h]
theorem eqNode_refl (a b c : Int) (d : ByteArray) (e : Int) : laws_eqNode.f a b c d e a b c d e = some true := by simp [laws_eqNode.f]
theorem eqNodeS_self (a : List ND) (hn : a.length ≤ 1000000000000000000) : Ev (fun k => laws_eqNodeS.f k a a) true := by
 have key : ∀ (d : Nat) (i : Int), 0 ≤ i → i ≤ a.length → (a.length : Int) - i = d → Ev (fun k => laws_eqNodeS.l0 k a a i) true := by
  intro d
  induction d with
  | zero =>
   intro i h0 h1 hd
   refine Ev.step (f := fun _ => some true) (fun k => ?_) (Ev.now _)
   simp only [laws_eqNodeS.l0]; rw [if_neg (by omega)]
  | succ d ih =>
   intro i h0 h1 hd
   refine Ev.step (f := fun k => laws_eqNodeS.l0 k a a (i + 1)) (fun k => ?_) (ih (i + 1) (by omega) (by omega) (by omega))
   simp only [laws_eqNodeS.l0]; rw [if_pos (by omega), if_pos h0, if_pos (by omega), eqNode_refl]
   simp only [Option.bind_some, if_true]; rw [wrap_id (by omega) (by omega)]
 have h := key a.length 0 (by omega) (by omega) (by omega)
 unfold laws_eqNodeS.f
 simpa using h

theorem ev_succ' {α : Type} {g : Nat → Option α} {r : α} (h : Ev (fun k => g (k + 1)) r) : Ev g r := Ev.step (fun _ => rfl) h

theorem ev_if {α : Type} {c : Prop} [Decidable c] {g f : Nat → Option α} {R : α} (hc : c) (h : Ev g R) : Ev (fun k => if c then g k else f k) R := by
 simp only [if_pos hc]; exact h

def colParts (s : List C) (i : Nat) : List ND :=
 (if (rd_T56 s i).f1 = 7 then [] else [⟨5, 1, (rd_T56 s i).f1, ⟨#[]⟩, 0⟩]) ++ ((if 0 < i then [⟨5, 3, (rd_T56 s i).f2, ⟨#[]⟩, 0⟩] else []) ++ ([⟨8, 4, 0, (rd_T56 s i).f0, 0⟩] ++ (if (rd_T56 s i).f1 = 7 then [⟨5, 5, (rd_T56 s i).f3, ⟨#[]⟩, 0⟩] else [])))
def colNode (s : List C) (i : Nat) : List ND := ⟨12, 0, 0, ⟨#[]⟩, ((colParts s i).length : Int)⟩ :: colParts s i
def colsTo (s : List C) (n : Nat) : List ND := (List.range n).flatMap (colNode s)
theorem colParts_len (s : List C) (i : Nat) : 1 ≤ (colParts s i).length ∧ (colParts s i).length ≤ 4 := by
 unfold colParts
 by_cases h7 : (rd_T56 s i).f1 = 7 <;> by_cases hi : 0 < i <;> simp [h7, hi]
theorem colsTo_succ (s : List C) (n : Nat) : colsTo s (n + 1) = colsTo s n ++ colNode s n := by simp [colsTo, List.range_succ]
theorem colsTo_len (s : List C) (n : Nat) : (colsTo s n).length ≤ 5 * n := by
 induction n with
 | zero => simp [colsTo]
 | succ n ih => rw [colsTo_succ, List.length_append]; have := colParts_len s n; simp only [colNode, List.length_cons]; omega
def sNodes (s : List C) : List ND := ⟨9, 2, 12, ⟨#[]⟩, (s.length : Int)⟩ :: colsTo s s.length
def sTree (s : List C) : List ND × Bool := if sok s then (⟨12, 0, 0, ⟨#[]⟩, 1⟩ :: sNodes s, true) else ([], false)
theorem sTree_len (s : List C) : (sTree s).1.length ≤ 5 * s.length + 2 := by
 unfold sTree sNodes
 split
 ·have := colsTo_len s s.length; simp; omega
 ·simp
theorem rd_last (x y : List ND) (v : ND) (i : Nat) (h : x.length = i) : rd_T74 (x ++ v :: y) (i : Int) = v := by
 rw [rd_node _ _ (by simp; omega)]
 rw [List.getElem_append_right (by omega)]
 simp [h]
theorem set_last (x y : List ND) (v u : ND) (i : Nat) (h : x.length = i) : (x ++ v :: y).set ((i : Int)).toNat u = x ++ u :: y := by
 rw [Int.toNat_natCast, set_mid _ _ _ _ h.symm (by simp)]; simp
theorem spec_l5Nodes_ev (s : List C) (hs : s.length ≤ 20) : Ev (fun k => spec_l5Nodes.f k s 2) (sNodes s) := by
 have fin : ∀ (k : Nat) (acc : List ND) (i : Nat) (q : List ND), acc.length ≤ 200 → q.length ≤ 4 → i < 20 →
   (if 0 ≤ (acc.length : Int) then (if (acc.length : Int) < ((acc ++ (⟨12, 0, 0, ⟨#[]⟩, 0⟩ : ND) :: q).length : Int) then (spec_l5Nodes.l0 k s ((acc ++ (⟨12, 0, 0, ⟨#[]⟩, 0⟩ : ND) :: q).set ((acc.length : Int) : Int).toNat (⟨(rd_T74 (acc ++ (⟨12, 0, 0, ⟨#[]⟩, 0⟩ : ND) :: q) (acc.length : Int)).f0, (rd_T74 (acc ++ (⟨12, 0, 0, ⟨#[]⟩, 0⟩ : ND) :: q) (acc.length : Int)).f1, (rd_T74 (acc ++ (⟨12, 0, 0, ⟨#[]⟩, 0⟩ : ND) :: q) (acc.length : Int)).f2, (rd_T74 (acc ++ (⟨12, 0, 0, ⟨#[]⟩, 0⟩ : ND) :: q) (acc.length : Int)).f3, wrap64 ((wrap64 (((acc ++ (⟨12, 0, 0, ⟨#[]⟩, 0⟩ : ND) :: q).length : Int) - (acc.length : Int))) - 1)⟩ : ND)) (wrap64 ((i : Int) + 1))) else (none)) else (none)) = spec_l5Nodes.l0 k s (acc ++ ⟨12, 0, 0, ⟨#[]⟩, (q.length : Int)⟩ :: q) ((i + 1 : Nat) : Int) := by
  intro k acc i q h1 h2 h3
  rw [if_pos (by omega), if_pos (by simp only [List.length_append, List.length_cons]; omega), rd_last _ _ _ _ rfl, set_last _ _ _ _ _ rfl, wrap_id (n := (((acc ++ (⟨12, 0, 0, ⟨#[]⟩, 0⟩ : ND) :: q).length : Int) - (acc.length : Int))) (by simp only [List.length_append, List.length_cons]; omega) (by simp only [List.length_append, List.length_cons]; omega), wrap_id (by simp only [List.length_append, List.length_cons]; omega) (by simp only [List.length_append, List.length_cons]; omega), wrap_id (n := (i : Int) + 1) (by omega) (by omega)]
  rw [show (((acc ++ (⟨12, 0, 0, ⟨#[]⟩, 0⟩ : ND) :: q).length : Int) - (acc.length : Int)) - 1 = (q.length : Int) by simp only [List.length_append, List.length_cons]; omega]
  push_cast; rfl
 have key : ∀ (d i : Nat), i + d = s.length → Ev (fun k => spec_l5Nodes.l0 k s (⟨9, 2, 12, ⟨#[]⟩, (s.length : Int)⟩ :: colsTo s i) i) (sNodes s) := by
  intro d
  induction d with
  | zero =>
   intro i hd
   refine Ev.step (f := fun _ => some (sNodes s)) (fun k => ?_) (Ev.now _)
   simp only [spec_l5Nodes.l0]
   rw [if_neg (by omega), show i = s.length by omega]; rfl
  | succ d ih =>
   intro i hd
   have h := ih (i + 1) (by omega)
   have hl := colsTo_len s i
   rw [colsTo_succ] at h
   have h : Ev (fun k => spec_l5Nodes.l0 k s ((⟨9, 2, 12, ⟨#[]⟩, (s.length : Int)⟩ :: colsTo s i) ++ ⟨12, 0, 0, ⟨#[]⟩, ((colParts s i).length : Int)⟩ :: colParts s i) ((i + 1 : Nat) : Int)) (sNodes s) := h
   have hacc : ((⟨9, 2, 12, ⟨#[]⟩, (s.length : Int)⟩ :: colsTo s i) : List ND).length ≤ 200 := by simp only [List.length_cons]; omega
   generalize ((⟨9, 2, 12, ⟨#[]⟩, (s.length : Int)⟩ :: colsTo s i) : List ND) = acc at h hacc
   have e := fun k => fin k acc i (colParts s i) hacc (colParts_len s i).2 (by omega)
   by_cases h7 : (rd_T56 s i).f1 = 7
   ·by_cases hi : 0 < i
    ·have hp : colParts s i = [⟨5, 3, (rd_T56 s i).f2, ⟨#[]⟩, 0⟩, ⟨8, 4, 0, (rd_T56 s i).f0, 0⟩, ⟨5, 5, (rd_T56 s i).f3, ⟨#[]⟩, 0⟩] := by unfold colParts; simp [h7, hi]
     rw [hp] at h e
     refine Ev.step (f := fun k => spec_l5Nodes.j1 k s (acc ++ [⟨12, 0, 0, ⟨#[]⟩, 0⟩]) i acc.length (rd_T56 s i).f0 (rd_T56 s i).f1 (rd_T56 s i).f2 (rd_T56 s i).f3) (fun k => ?_) (Ev.step (fun k => ?_) h)
     ·simp only [spec_l5Nodes.l0, Option.bind_some]
      rw [if_pos (by omega), if_pos (by omega), if_pos (by omega), if_pos h7]
     ·simp only [spec_l5Nodes.j1, Option.bind_some]
      rw [if_pos (by omega), if_pos (by simp; omega), if_pos (by simp; omega), if_pos h7, if_pos (by simp; omega)]
      rw [show acc ++ [(⟨12, 0, 0, ⟨#[]⟩, 0⟩ : ND)] ++ [⟨5, 3, (rd_T56 s i).f2, ⟨#[]⟩, 0⟩] ++ [⟨8, 4, 0, (rd_T56 s i).f0, 0⟩] ++ [⟨5, 5, (rd_T56 s i).f3, ⟨#[]⟩, 0⟩] = acc ++ ⟨12, 0, 0, ⟨#[]⟩, 0⟩ :: [⟨5, 3, (rd_T56 s i).f2, ⟨#[]⟩, 0⟩, ⟨8, 4, 0, (rd_T56 s i).f0, 0⟩, ⟨5, 5, (rd_T56 s i).f3, ⟨#[]⟩, 0⟩] by simp]
      exact e k
    ·have hp : colParts s i = [⟨8, 4, 0, (rd_T56 s i).f0, 0⟩, ⟨5, 5, (rd_T56 s i).f3, ⟨#[]⟩, 0⟩] := by unfold colParts; simp [h7, hi]
     rw [hp] at h e
     refine Ev.step (f := fun k => spec_l5Nodes.j1 k s (acc ++ [⟨12, 0, 0, ⟨#[]⟩, 0⟩]) i acc.length (rd_T56 s i).f0 (rd_T56 s i).f1 (rd_T56 s i).f2 (rd_T56 s i).f3) (fun k => ?_) (Ev.step (fun k => ?_) h)
     ·simp only [spec_l5Nodes.l0, Option.bind_some]
      rw [if_pos (by omega), if_pos (by omega), if_pos (by omega), if_pos h7]
     ·simp only [spec_l5Nodes.j1, Option.bind_some]
      rw [if_neg (by omega), if_pos (by simp; omega), if_pos h7, if_pos (by simp; omega)]
      rw [show acc ++ [(⟨12, 0, 0, ⟨#[]⟩, 0⟩ : ND)] ++ [⟨8, 4, 0, (rd_T56 s i).f0, 0⟩] ++ [⟨5, 5, (rd_T56 s i).f3, ⟨#[]⟩, 0⟩] = acc ++ ⟨12, 0, 0, ⟨#[]⟩, 0⟩ :: [⟨8, 4, 0, (rd_T56 s i).f0, 0⟩, ⟨5, 5, (rd_T56 s i).f3, ⟨#[]⟩, 0⟩] by simp]
      exact e k
   ·by_cases hi : 0 < i
    ·have hp : colParts s i = [⟨5, 1, (rd_T56 s i).f1, ⟨#[]⟩, 0⟩, ⟨5, 3, (rd_T56 s i).f2, ⟨#[]⟩, 0⟩, ⟨8, 4, 0, (rd_T56 s i).f0, 0⟩] := by unfold colParts; simp [h7, hi]
     rw [hp] at h e
     refine Ev.step (f := fun k => spec_l5Nodes.j1 k s (acc ++ [⟨12, 0, 0, ⟨#[]⟩, 0⟩] ++ [⟨5, 1, (rd_T56 s i).f1, ⟨#[]⟩, 0⟩]) i acc.length (rd_T56 s i).f0 (rd_T56 s i).f1 (rd_T56 s i).f2 (rd_T56 s i).f3) (fun k => ?_) (Ev.step (fun k => ?_) h)
     ·simp only [spec_l5Nodes.l0, Option.bind_some]
      rw [if_pos (by omega), if_pos (by omega), if_pos (by omega), if_neg h7, if_pos (by simp; omega)]
     ·simp only [spec_l5Nodes.j1, Option.bind_some]
      rw [if_pos (by omega), if_pos (by simp; omega), if_pos (by simp; omega), if_neg h7]
      rw [show acc ++ [(⟨12, 0, 0, ⟨#[]⟩, 0⟩ : ND)] ++ [⟨5, 1, (rd_T56 s i).f1, ⟨#[]⟩, 0⟩] ++ [⟨5, 3, (rd_T56 s i).f2, ⟨#[]⟩, 0⟩] ++ [⟨8, 4, 0, (rd_T56 s i).f0, 0⟩] = acc ++ ⟨12, 0, 0, ⟨#[]⟩, 0⟩ :: [⟨5, 1, (rd_T56 s i).f1, ⟨#[]⟩, 0⟩, ⟨5, 3, (rd_T56 s i).f2, ⟨#[]⟩, 0⟩, ⟨8, 4, 0, (rd_T56 s i).f0, 0⟩] by simp]
      exact e k
    ·have hp : colParts s i = [⟨5, 1, (rd_T56 s i).f1, ⟨#[]⟩, 0⟩, ⟨8, 4, 0, (rd_T56 s i).f0, 0⟩] := by unfold colParts; simp [h7, hi]
     rw [hp] at h e
     refine Ev.step (f := fun k => spec_l5Nodes.j1 k s (acc ++ [⟨12, 0, 0, ⟨#[]⟩, 0⟩] ++ [⟨5, 1, (rd_T56 s i).f1, ⟨#[]⟩, 0⟩]) i acc.length (rd_T56 s i).f0 (rd_T56 s i).f1 (rd_T56 s i).f2 (rd_T56 s i).f3) (fun k => ?_) (Ev.step (fun k => ?_) h)
     ·simp only [spec_l5Nodes.l0, Option.bind_some]
      rw [if_pos (by omega), if_pos (by omega), if_pos (by omega), if_neg h7, if_pos (by simp; omega)]
     ·simp only [spec_l5Nodes.j1, Option.bind_some]
      rw [if_neg (by omega), if_pos (by simp; omega), if_neg h7]
      rw [show acc ++ [(⟨12, 0, 0, ⟨#[]⟩, 0⟩ : ND)] ++ [⟨5, 1, (rd_T56 s i).f1, ⟨#[]⟩, 0⟩] ++ [⟨8, 4, 0, (rd_T56 s i).f0, 0⟩] = acc ++ ⟨12, 0, 0, ⟨#[]⟩, 0⟩ :: [⟨5, 1, (rd_T56 s i).f1, ⟨#[]⟩, 0⟩, ⟨8, 4, 0, (rd_T56 s i).f0, 0⟩] by simp]
      exact e k
 have := key s.length 0 (by omega)
 unfold spec_l5Nodes.f
 simpa [colsTo] using this
theorem spec_SchemaTree_ev (s : List C) (hs : s.length ≤ 1000000000) (hc : colsOk s) : Ev (fun k => spec_SchemaTree.f k s) (sTree s) := by
 unfold spec_SchemaTree.f sTree
 refine Ev.bind (spec_SchemaOk_ev s hs hc) ?_
 by_cases h : sok s
 ·simp only [decide_eq_true h, if_true, Option.bind_some]
  rw [if_pos h]
  refine Ev.bind (spec_l5Nodes_ev s h.1.2) ?_
  have hl := colsTo_len s s.length
  have h2 := h.1.2
  simp only [if_pos (show ([(⟨12, 0, 0, ⟨#[]⟩, 1⟩ : ND)].length + (sNodes s).length < 2932031007402) by unfold sNodes; simp only [List.length_cons, List.length_nil]; omega)]
  exact Ev.now _
 ·simp only [decide_eq_false h, Bool.false_eq_true, if_false]
  rw [if_neg h]; exact Ev.now _
theorem rd_L (l : List (List ND)) (i : Nat) (h : i < l.length) : rd_L6 l i = l[i] := by
 unfold rd_L6; simp [h]
theorem flat_le (l : List (List ND)) (B : Nat) (h : ∀ x ∈ l, x.length ≤ B) : (l.flatten).length ≤ B * l.length := by
 induction l with
 | nil => simp
 | cons x l ih =>
  have h1 := h x (by simp)
  have h2 := ih (fun y hy => h y (by simp [hy]))
  simp only [List.flatten_cons, List.length_append, List.length_cons, Nat.mul_add]; omega
theorem impl_structNode_ev (id : Int) (l : List (List ND)) (hl : l.length ≤ 100) (hb : ∀ x ∈ l, x.length ≤ 1000) : Ev (fun k => impl_structNode.f k id l) (⟨12, id, 0, ⟨#[]⟩, (l.length : Int)⟩ :: l.flatten) := by
 unfold impl_structNode.f
 have key : ∀ (d i : Nat), i + d = l.length → Ev (fun k => impl_structNode.l0 k (⟨12, id, 0, ⟨#[]⟩, (l.length : Int)⟩ :: (l.take i).flatten) l l.length i) (⟨12, id, 0, ⟨#[]⟩, (l.length : Int)⟩ :: l.flatten) := by
  intro d
  induction d with
  | zero =>
   intro i hd
   refine Ev.step (f := fun _ => some (⟨12, id, 0, ⟨#[]⟩, (l.length : Int)⟩ :: l.flatten)) (fun k => ?_) (Ev.now _)
   simp only [impl_structNode.l0]
   rw [if_neg (by omega), List.take_of_length_le (by omega)]
  | succ d ih =>
   intro i hd
   have h := ih (i + 1) (by omega)
   have h1 := flat_le (l.take i) 1000 (fun x hx => hb x (List.mem_of_mem_take hx))
   have h2 := hb _ (List.getElem_mem (show i < l.length by omega))
   rw [List.length_take] at h1
   rw [List.take_succ_eq_append_getElem (by omega), List.flatten_append] at h
   refine Ev.step (fun k => ?_) h
   simp only [impl_structNode.l0]
   rw [if_pos (by omega), if_pos (by omega), if_pos (by omega), rd_L l i (by omega), if_pos (by simp only [List.length_cons]; omega), wrap_id (n := (i : Int) + 1) (by omega) (by omega)]
   simp
 have := key l.length 0 (by omega)
 simpa using this
theorem impl_listNode_ev (id kd : Int) (l : List (List ND)) (hp : 0 < l.length) (hl : l.length ≤ 100) (hb : ∀ x ∈ l, x.length ≤ 1000) : Ev (fun k => impl_listNode.f k id kd l) (⟨9, id, kd, ⟨#[]⟩, (l.length : Int)⟩ :: l.flatten) := by
 unfold impl_listNode.f
 simp only [Option.bind_some, if_neg (show ¬ (l.length : Int) = 0 by omega)]
 refine Ev.step (f := fun k => impl_listNode.l0 k [⟨9, id, kd, ⟨#[]⟩, (l.length : Int)⟩] l l.length 0) (fun k => by simp only [impl_listNode.j0]) ?_
 have key : ∀ (d i : Nat), i + d = l.length → Ev (fun k => impl_listNode.l0 k (⟨9, id, kd, ⟨#[]⟩, (l.length : Int)⟩ :: (l.take i).flatten) l l.length i) (⟨9, id, kd, ⟨#[]⟩, (l.length : Int)⟩ :: l.flatten) := by
  intro d
  induction d with
  | zero =>
   intro i hd
   refine Ev.step (f := fun _ => some (⟨9, id, kd, ⟨#[]⟩, (l.length : Int)⟩ :: l.flatten)) (fun k => ?_) (Ev.now _)
   simp only [impl_listNode.l0]
   rw [if_neg (by omega), List.take_of_length_le (by omega)]
  | succ d ih =>
   intro i hd
   have h := ih (i + 1) (by omega)
   have h1 := flat_le (l.take i) 1000 (fun x hx => hb x (List.mem_of_mem_take hx))
   have h2 := hb _ (List.getElem_mem (show i < l.length by omega))
   rw [List.length_take] at h1
   rw [List.take_succ_eq_append_getElem (by omega), List.flatten_append] at h
   refine Ev.step (fun k => ?_) h
   simp only [impl_listNode.l0]
   rw [if_pos (by omega), if_pos (by omega), if_pos (by omega), rd_L l i (by omega), if_pos (by simp only [List.length_cons]; omega), wrap_id (n := (i : Int) + 1) (by omega) (by omega)]
   simp
 have := key l.length 0 (by omega)
 simpa using this
theorem impl_schemaNodes_ev (s : List C) (h0 : 0 < s.length) (hs : s.length ≤ 20) : Ev (fun k => impl_schemaNodes.f k s) (sNodes s) := by
 have hcn : ∀ i, (colNode s i).length ≤ 5 := fun i => by have := colParts_len s i; simp only [colNode, List.length_cons]; omega
 have key : ∀ (d i : Nat), i + d = s.length → Ev (fun k => impl_schemaNodes.l0 k ((List.range i).map (colNode s)) s s.length i) (sNodes s) := by
  intro d
  induction d with
  | zero =>
   intro i hd
   refine ev_succ' ?_
   simp only [impl_schemaNodes.l0]
   simp only [if_neg (show ¬ (i : Int) < s.length by omega)]
   have e := impl_listNode_ev 2 12 ((List.range i).map (colNode s)) (by simp; omega) (by simp; omega) (fun x hx => by
    simp only [List.mem_map, List.mem_range] at hx
    obtain ⟨j, _, rfl⟩ := hx
    have := hcn j; omega)
   rw [show i = s.length by omega] at e ⊢
   have e2 : (⟨9, 2, 12, ⟨#[]⟩, ((((List.range s.length).map (colNode s)).length : Nat) : Int)⟩ : ND) :: ((List.range s.length).map (colNode s)).flatten = sNodes s := by
    unfold sNodes colsTo
    rw [List.flatMap_def]; simp
   rw [e2] at e
   exact Ev.bind e (Ev.now _)
  | succ d ih =>
   intro i hd
   have h := ih (i + 1) (by omega)
   rw [List.range_succ, List.map_append] at h
   have h : Ev (fun k => impl_schemaNodes.l0 k ((List.range i).map (colNode s) ++ [colNode s i]) s s.length ((i + 1 : Nat) : Int)) (sNodes s) := h
   have hacc : ((List.range i).map (colNode s)).length ≤ 20 := by simp; omega
   generalize (List.range i).map (colNode s) = acc at h hacc
   have last : ∀ q : List (List ND), q.length ≤ 100 → (∀ x ∈ q, x.length ≤ 1000) → (⟨12, 0, 0, ⟨#[]⟩, (q.length : Int)⟩ : ND) :: q.flatten = colNode s i → Ev (fun k => (impl_structNode.f k 0 q).bind fun t => if acc.length < 5864062014805 then impl_schemaNodes.l0 k (acc ++ [t]) s s.length (wrap64 ((i : Int) + 1)) else none) (sNodes s) := by
    intro q h1 h2 h3
    have e := impl_structNode_ev 0 q h1 h2
    rw [h3] at e
    refine Ev.bind e ?_
    simp only [if_pos (show acc.length < 5864062014805 by omega)]
    rw [wrap_id (n := (i : Int) + 1) (by omega) (by omega)]
    exact h
   have j2 : ∀ q : List (List ND), q.length ≤ 5 → (∀ x ∈ q, x.length ≤ 1000) → (⟨12, 0, 0, ⟨#[]⟩, ((q ++ [[(⟨8, 4, 0, (rd_T56 s i).f0, 0⟩ : ND)]] ++ (if (rd_T56 s i).f1 = 7 then [[(⟨5, 5, (rd_T56 s i).f3, ⟨#[]⟩, 0⟩ : ND)]] else [])).length : Int)⟩ : ND) :: (q ++ [[(⟨8, 4, 0, (rd_T56 s i).f0, 0⟩ : ND)]] ++ (if (rd_T56 s i).f1 = 7 then [[(⟨5, 5, (rd_T56 s i).f3, ⟨#[]⟩, 0⟩ : ND)]] else [])).flatten = colNode s i →
     Ev (fun k => impl_schemaNodes.j2 k acc q s s.length i (rd_T56 s i).f0 (rd_T56 s i).f1 (rd_T56 s i).f2 (rd_T56 s i).f3) (sNodes s) := by
    intro q h1 h2 h3
    refine ev_succ' ?_
    simp only [impl_schemaNodes.j2, impl_textNode.f, impl_intNode.f, Option.bind_some]
    refine ev_if (show q.length < 5864062014805 by omega) ?_
    by_cases h7 : (rd_T56 s i).f1 = 7
    ·refine ev_if h7 ?_
     refine ev_if (by simp; omega) ?_
     rw [if_pos h7] at h3
     exact last _ (by simp; omega) (fun x hx => by
      rcases List.mem_append.1 hx with hx | hx
      ·rcases List.mem_append.1 hx with hx | hx
       ·exact h2 x hx
       ·rw [List.mem_singleton] at hx; subst hx; simp
      ·rw [List.mem_singleton] at hx; subst hx; simp) h3
    ·simp only [if_neg h7]
     rw [if_neg h7, List.append_nil] at h3
     exact last _ (by simp; omega) (fun x hx => by
      rcases List.mem_append.1 hx with hx | hx
      ·exact h2 x hx
      ·rw [List.mem_singleton] at hx; subst hx; simp) h3
   have j1 : ∀ q : List (List ND), q.length ≤ 4 → (∀ x ∈ q, x.length ≤ 1000) → q.flatten = (if (rd_T56 s i).f1 = 7 then [] else [⟨5, 1, (rd_T56 s i).f1, ⟨#[]⟩, 0⟩]) → q.length = (if (rd_T56 s i).f1 = 7 then 0 else 1) →
     Ev (fun k => impl_schemaNodes.j1 k acc i q s s.length i (rd_T56 s i).f0 (rd_T56 s i).f1 (rd_T56 s i).f2 (rd_T56 s i).f3) (sNodes s) := by
    intro q h1 h2 h3 h4
    refine ev_succ' ?_
    simp only [impl_schemaNodes.j1, impl_intNode.f, Option.bind_some]
    by_cases hi : (i : Int) > 0
    ·refine ev_if hi ?_
     refine ev_if (show q.length < 5864062014805 by omega) ?_
     refine j2 _ (by simp; omega) (fun x hx => by
      rcases List.mem_append.1 hx with hx | hx
      ·exact h2 x hx
      ·rw [List.mem_singleton] at hx; subst hx; simp) ?_
     unfold colNode colParts
     by_cases h7 : (rd_T56 s i).f1 = 7
     ·rw [if_pos h7] at h3 h4
      simp [h3, h4, h7, show 0 < i by omega]
     ·rw [if_neg h7] at h3 h4
      simp [h3, h4, h7, show 0 < i by omega]
    ·simp only [if_neg hi]
     refine j2 q (by omega) h2 ?_
     unfold colNode colParts
     by_cases h7 : (rd_T56 s i).f1 = 7
     ·rw [if_pos h7] at h3 h4
      simp [h3, h4, h7, show ¬ 0 < i by omega]
     ·rw [if_neg h7] at h3 h4
      simp [h3, h4, h7, show ¬ 0 < i by omega]
   refine ev_succ' ?_
   simp only [impl_schemaNodes.l0, impl_intNode.f, Option.bind_some]
   refine ev_if (show (i : Int) < s.length by omega) ?_
   refine ev_if (show (0 : Int) ≤ i by omega) ?_
   refine ev_if (show (i : Int) < s.length by omega) ?_
   by_cases h7 : (rd_T56 s i).f1 = 7
   ·refine ev_if h7 ?_
    exact j1 [] (by simp) (fun x hx => by cases hx) (by rw [if_pos h7]; rfl) (by rw [if_pos h7]; rfl)
   ·simp only [if_neg h7]
    refine ev_if (show ([] : List (List ND)).length < 5864062014805 by decide) ?_
    exact j1 [[⟨5, 1, (rd_T56 s i).f1, ⟨#[]⟩, 0⟩]] (by simp) (fun x hx => by rw [List.mem_singleton] at hx; subst hx; simp) (by rw [if_neg h7]; rfl) (by rw [if_neg h7]; rfl)
 have := key s.length 0 (by omega)
 unfold impl_schemaNodes.f
 simpa using this
theorem impl_SchemaTree_ev (s : List C) (hs : s.length ≤ 1000000000) (hc : colsOk s) : Ev (fun k => impl_SchemaTree.f k s) (sTree s) := by
 unfold impl_SchemaTree.f sTree
 refine Ev.bind (impl_SchemaOk_ev s hs hc) ?_
 by_cases h : sok s
 ·simp only [decide_eq_true h, if_true]
  rw [if_pos h]
  refine Ev.bind (impl_schemaNodes_ev s (by have := h.1; omega) h.1.2) ?_
  have hl := colsTo_len s s.length
  have h2 := h.1.2
  have e := impl_structNode_ev 0 [sNodes s] (by simp) (fun x hx => by rw [List.mem_singleton] at hx; subst hx; unfold sNodes; simp only [List.length_cons]; omega)
  refine Ev.bind e ?_
  simp only [List.flatten_cons, List.flatten_nil, List.append_nil]
  exact Ev.now _
 ·simp only [decide_eq_false h, Bool.false_eq_true, if_false]
  rw [if_neg h]; exact Ev.now _

def lcolsOk (l : List S66) : Prop := ∀ x ∈ l, x.f0.size ≤ maxLen ∧ (Lit.int .i64 x.f1).wf = true ∧ (Lit.int .i64 x.f2).wf = true ∧ (Lit.int .i64 x.f3).wf = true
theorem rd_lcol (l : List S66) (i : Nat) (h : i < l.length) : rd_T66 l i = l[i] := by
 unfold rd_T66; simp [h]
theorem rd_col (l : List S56) (i : Nat) (h : i < l.length) : rd_T56 l i = l[i] := by
 unfold rd_T56; simp [h]
theorem szColS_ev (l : List S66) (hl : l.length ≤ 1000000000000000) (hs : lcolsOk l) : ∃ t, Ev (fun k => laws_szColS.f k l 1048576) t ∧ (¬ t < 0 → l.length ≤ 1048576) := by
 unfold laws_szColS.f
 rw [wrap_id (n := 1048576 - (l.length : Int)) (by omega) (by omega)]
 by_cases h : 1048576 - (l.length : Int) < 0
 ·simp only [if_pos h]; exact ⟨_, Ev.now _, fun h => absurd (by decide) h⟩
 simp only [if_neg h]
 have key : ∀ (d i : Nat) (x : Int), i + d = l.length → 0 ≤ x → x ≤ 1048576 → ∃ t, Ev (fun k => laws_szColS.l0 k l x i) t := by
  intro d
  induction d with
  | zero =>
   intro i x hd h0 h1
   refine ⟨x, Ev.step (f := fun _ => some x) (fun k => ?_) (Ev.now _)⟩
   simp only [laws_szColS.l0]; rw [if_neg (by omega)]
  | succ d ih =>
   intro i x hd h0 h1
   have hx := (hs l[i] (List.getElem_mem (by omega))).1
   have h3 : maxLen = 9223372036854775807 := by decide
   have e : laws_szCol.f (rd_T66 l i).f0 (rd_T66 l i).f1 (rd_T66 l i).f2 (rd_T66 l i).f3 x = some (if x - (l[i].f0.size : Int) < 0 then -1 else x - (l[i].f0.size : Int)) := by
    unfold laws_szCol.f
    rw [rd_lcol l i (by omega), wrap_id (n := x - (l[i].f0.size : Int)) (by omega) (by omega)]
    split <;> rfl
   by_cases hn : x - (l[i].f0.size : Int) < 0
   ·refine ⟨-1, Ev.step (f := fun _ => some (-1)) (fun k => ?_) (Ev.now _)⟩
    simp only [laws_szColS.l0]
    rw [if_pos (by omega), if_pos (by omega), e, if_pos hn]; rfl
   ·obtain ⟨t, ht⟩ := ih (i + 1) (x - (l[i].f0.size : Int)) (by omega) (by omega) (by omega)
    refine ⟨t, Ev.step (fun k => ?_) ht⟩
    simp only [laws_szColS.l0]
    rw [if_pos (by omega), if_pos (by omega), e, if_neg hn]
    simp only [Option.bind_some]
    rw [if_neg hn, wrap_id (n := (i : Int) + 1) (by omega) (by omega)]; push_cast; rfl
 obtain ⟨t, ht⟩ := key l.length 0 (1048576 - (l.length : Int)) (by omega) (by omega) (by omega)
 exact ⟨t, ht, fun _ => by omega⟩
def conv (x : S66) : S56 := ⟨x.f0, x.f1, x.f2, x.f3⟩
theorem toColS_ev (a : List S66) (hn : a.length ≤ 5864062014805) : Ev (fun k => laws_toColS.f k a) (a.map conv) := by
 have key : ∀ (d : Nat) (i : Nat) (r : List S56), r.length = d → i + d = a.length → Ev (fun k => laws_toColS.l0 k a ((a.map conv).take i ++ r) i) (a.map conv) := by
  intro d
  induction d with
  | zero =>
   intro i r hr hd
   obtain rfl : r = [] := List.length_eq_zero_iff.1 hr
   refine Ev.step (f := fun _ => some (a.map conv)) (fun k => ?_) (Ev.now _)
   simp only [laws_toColS.l0]; rw [if_neg (by omega)]
   rw [List.append_nil, List.take_of_length_le (by simp; omega)]
  | succ d ih =>
   intro i r hr hd
   refine Ev.step (f := fun k => laws_toColS.l0 k a ((a.map conv).take (i + 1) ++ r.tail) (i + 1 : Nat)) (fun k => ?_) (ih (i + 1) r.tail (by simp [hr]) (by omega))
   simp only [laws_toColS.l0, laws_toCol.f, Option.bind_some]
   rw [if_pos (by omega), if_pos (by omega), if_pos (by simp; omega), wrap_id (n := (i : Int) + 1) (by omega) (by omega)]
   rw [set_mid _ _ _ _ (by simp; omega) (by omega), rd_lcol a i (by omega)]
   rw [List.take_succ_eq_append_getElem (i := i) (l := a.map conv) (by simp; omega)]
   simp [conv]
 have h := key a.length 0 (List.replicate a.length z56) (by simp) (by omega)
 unfold laws_toColS.f
 simp only [if_pos (show (0:Int) ≤ a.length by omega), if_pos (show ((a.length : Int)).toNat ≤ 7036874417766 by omega)]
 simpa using h
theorem eqCol_refl (a : ByteArray) (b c d : Int) : laws_eqCol.f a b c d a b c d = some true := by simp [laws_eqCol.f]
theorem eqColS_self (a : List S56) (hn : a.length ≤ 1000000000000000000) : Ev (fun k => laws_eqColS.f k a a) true := by
 have key : ∀ (d : Nat) (i : Int), 0 ≤ i → i ≤ a.length → (a.length : Int) - i = d → Ev (fun k => laws_eqColS.l0 k a a i) true := by
  intro d
  induction d with
  | zero =>
   intro i h0 h1 hd
   refine Ev.step (f := fun _ => some true) (fun k => ?_) (Ev.now _)
   simp only [laws_eqColS.l0]; rw [if_neg (by omega)]
  | succ d ih =>
   intro i h0 h1 hd
   refine Ev.step (f := fun k => laws_eqColS.l0 k a a (i + 1)) (fun k => ?_) (ih (i + 1) (by omega) (by omega) (by omega))
   simp only [laws_eqColS.l0]; rw [if_pos (by omega), if_pos h0, if_pos (by omega), eqCol_refl]
   simp only [Option.bind_some, if_true]; rw [wrap_id (by omega) (by omega)]
 have h := key a.length 0 (by omega) (by omega) (by omega)
 unfold laws_eqColS.f
 simpa using h
theorem conv_ok (l : List S66) (h : lcolsOk l) : ∀ i : Nat, i < (l.map conv).length → (rd_T56 (l.map conv) i).f0.size ≤ 9223372036854775807 ∧ (rd_T56 (l.map conv) i).f3 < 9223372036854775808 := by
 intro i hi
 rw [rd_col _ _ hi]
 simp only [List.getElem_map, conv]
 have hm := h (l[i]'(by simpa using hi)) (List.getElem_mem _)
 have h1 := wf64 hm.2.2.2
 have h2 := hm.1
 have h3 : maxLen = 9223372036854775807 := by decide
 omega

theorem markText_l (d : Nat) : ∀ (n : Int) (acc : ByteArray), 0 ≤ n → n < 9223372036854775808 → n < 10 ^ d → acc.size + d ≤ 100 → ∃ r, Ev (fun k => laws_markText.l0 k n acc) r := by
 induction d with
 | zero =>
  intro n acc h0 h9 h1 ha
  refine ⟨_, Ev.step (f := fun _ => some ((⟨#[109]⟩ : ByteArray) ++ acc)) (fun k => ?_) (Ev.now _)⟩
  simp only [laws_markText.l0]; rw [if_neg (by omega), if_pos (by omega)]
 | succ d ih =>
  intro n acc h0 h9 h1 ha
  by_cases hn : n > 0
  ·rw [Int.pow_succ] at h1
   obtain ⟨r, e⟩ := ih (n / 10) ((strOfNums [(wrap64 (48 + (Int.tmod n 10))) % 256]) ++ acc) (by omega) (by omega) (by omega) (by rw [ByteArray.size_append, strOfNums_size]; simp; omega)
   refine ⟨r, Ev.step (fun k => ?_) e⟩
   simp only [laws_markText.l0, Option.bind_some]
   rw [if_pos hn, if_pos (by rw [strOfNums_size]; simp; omega), Int.tdiv_eq_ediv_of_nonneg (by omega), wrap_id (n := n / 10) (by omega) (by omega)]
  ·refine ⟨_, Ev.step (f := fun _ => some ((⟨#[109]⟩ : ByteArray) ++ acc)) (fun k => ?_) (Ev.now _)⟩
   simp only [laws_markText.l0]; rw [if_neg (by omega), if_pos (by omega)]
theorem markText_ev : ∃ t : Int → ByteArray, ∀ n, -9223372036854775808 ≤ n → n < 9223372036854775808 → Ev (fun k => laws_markText.f k n) (t n) := by
 have h : ∀ n : Int, ∃ t, -9223372036854775808 ≤ n → n < 9223372036854775808 → Ev (fun k => laws_markText.f k n) t := by
  intro n
  by_cases hr : -9223372036854775808 ≤ n ∧ n < 9223372036854775808
  ·by_cases h0 : n ≤ 0
   ·exact ⟨⟨#[109, 48]⟩, fun _ _ => by unfold laws_markText.f; simp only [if_pos h0]; exact Ev.now _⟩
   ·obtain ⟨r, e⟩ := markText_l 19 n ⟨#[]⟩ (by omega) (by omega) (by omega) (by decide)
    refine ⟨r, fun _ _ => ?_⟩
    unfold laws_markText.f; simp only [if_neg h0]; exact e
  ·exact ⟨⟨#[]⟩, fun a b => absurd ⟨a, b⟩ hr⟩
 exact ⟨fun n => Classical.choose (h n), fun n => Classical.choose_spec (h n)⟩

theorem markText_some (n : Int) (h0 : -9223372036854775808 ≤ n) (h1 : n < 9223372036854775808) : ∃ t, Ev (fun k => laws_markText.f k n) t := by
 obtain ⟨t, ht⟩ := markText_ev
 exact ⟨_, ht n h0 h1⟩
theorem ev_succ {α : Type} {g : Nat → Option α} {r : α} (h : Ev (fun k => g (k + 1)) r) : Ev g r := Ev.step (fun _ => rfl) h
def Sm {α β : Type} (g : Nat → Option (α × β)) (c : α) : Prop := ∃ r, Ev g (c, r)
theorem Sm.succ {α β : Type} {g : Nat → Option (α × β)} {c : α} (h : Sm (fun k => g (k + 1)) c) : Sm g c := by
 obtain ⟨r, h⟩ := h
 exact ⟨r, ev_succ h⟩
theorem Sm.bind {α β γ : Type} {g : Nat → Option γ} {f : Nat → γ → Option (α × β)} {a : γ} {c : α} (h : Ev g a) (k : Sm (fun n => f n a) c) : Sm (fun n => (g n).bind (f n)) c := by
 obtain ⟨r, k⟩ := k
 exact ⟨r, Ev.bind h k⟩
theorem Sm.now {α β : Type} (c : α) (r : β) : Sm (fun _ => some (c, r)) c := ⟨r, Ev.now _⟩

theorem markColS_ev (a : List S56) (m : Int) (h0 : 0 ≤ m) (hm : m ≤ 1000000000000) (hn : a.length ≤ 1000000000000) : Sm (fun k => laws_markColS.f k a m) (m + 4 * a.length) := by
 have key : ∀ (d i : Nat) (x : List S56), x.length = a.length → i + d = a.length → Sm (fun k => laws_markColS.l0 k x (m + 4 * i) i) (m + 4 * a.length) := by
  intro d
  induction d with
  | zero =>
   intro i x hx hd
   refine Sm.succ ?_
   simp only [laws_markColS.l0]
   simp only [if_neg (show ¬ ((i : Int) < (x.length : Int)) by omega)]
   rw [show i = a.length by omega]; exact Sm.now _ _
  | succ d ih =>
   intro i x hx hd
   obtain ⟨t, ht⟩ := markText_some (m + 4 * (i : Int)) (by omega) (by omega)
   refine Sm.succ ?_
   simp only [laws_markColS.l0]
   simp only [if_pos (show (i : Int) < (x.length : Int) by omega)]
   refine Sm.bind ht ?_
   simp only [if_pos (show (0 : Int) ≤ i by omega), Option.bind_some]
   rw [wrap_id (n := m + 4 * (i : Int) + 1) (by omega) (by omega), wrap_id (n := m + 4 * (i : Int) + 1 + 1) (by omega) (by omega), wrap_id (n := m + 4 * (i : Int) + 1 + 1 + 1) (by omega) (by omega), wrap_id (n := m + 4 * (i : Int) + 1 + 1 + 1 + 1) (by omega) (by omega), wrap_id (n := (i : Int) + 1) (by omega) (by omega),
    show m + 4 * (i : Int) + 1 + 1 + 1 + 1 = m + 4 * ((i + 1 : Nat) : Int) by push_cast; omega, show (i : Int) + 1 = ((i + 1 : Nat) : Int) by push_cast; rfl]
   exact ih (i + 1) _ (by simp [hx]) (by omega)
 have := key a.length 0 a rfl (by omega)
 unfold laws_markColS.f
 simpa using this

def mkn (t : Int → ByteArray) (n : Nat) (m : Int) : List ND := (List.range n).map fun i : Nat => ⟨m + 5 * i, m + 5 * i + 1, m + 5 * i + 2, t (m + 5 * i + 3), m + 5 * i + 4⟩
theorem mkn_len (t : Int → ByteArray) (n : Nat) (m : Int) : (mkn t n m).length = n := by simp [mkn]
theorem mkn_succ (t : Int → ByteArray) (n : Nat) (m : Int) : mkn t (n + 1) m = mkn t n m ++ [⟨m + 5 * n, m + 5 * n + 1, m + 5 * n + 2, t (m + 5 * n + 3), m + 5 * n + 4⟩] := by simp [mkn, List.range_succ]
theorem rd_at (x r : List ND) (v : ND) (i : Nat) (h : x.length = i) : rd_T74 (x ++ [v] ++ r) (i : Int) = v := by
 rw [rd_node _ _ (by simp; omega)]
 rw [List.getElem_append_left (by simp; omega), List.getElem_append_right (by omega)]
 simp [h]
theorem set_at (x r : List ND) (v u : ND) (i : Nat) (h : x.length = i) : (x ++ [v] ++ r).set ((i : Int)).toNat u = x ++ [u] ++ r := by
 rw [Int.toNat_natCast, List.append_assoc, set_mid _ _ _ _ h.symm (by simp)]; simp
theorem markNodeS_ev (t : Int → ByteArray) (ht : ∀ n, -9223372036854775808 ≤ n → n < 9223372036854775808 → Ev (fun k => laws_markText.f k n) (t n)) (a : List ND) (m : Int) (h0 : 0 ≤ m) (hm : m ≤ 1000000000000) (hn : a.length ≤ 1000000000000) :
  Ev (fun k => laws_markNodeS.f k a m) (m + 5 * a.length, mkn t a.length m) := by
 have key : ∀ (d i : Nat) (r : List ND), r.length = d → i + d = a.length → Ev (fun k => laws_markNodeS.l0 k (mkn t i m ++ r) (m + 5 * i) i) (m + 5 * a.length, mkn t a.length m) := by
  intro d
  induction d with
  | zero =>
   intro i r hr hd
   obtain rfl : r = [] := List.length_eq_zero_iff.1 hr
   refine Ev.step (f := fun _ => some (m + 5 * a.length, mkn t a.length m)) (fun k => ?_) (Ev.now _)
   simp only [laws_markNodeS.l0]; rw [if_neg (by simp [mkn_len])]
   rw [show i = a.length by omega]; simp
  | succ d ih =>
   intro i r hr hd
   have h := ih (i + 1) r.tail (by simp [hr]) (by omega)
   have hl : (mkn t i m).length = i := mkn_len t i m
   refine ev_succ ?_
   simp only [laws_markNodeS.l0]
   simp only [if_pos (show (i : Int) < ((mkn t i m ++ r).length : Int) by simp [mkn_len]; omega), if_pos (show (0 : Int) ≤ i by omega), Option.bind_some]
   rw [set_mid _ _ _ _ (by rw [hl]; omega) (by omega)]
   generalize rd_T74 (mkn t i m ++ r) (i : Int) = v
   simp only [rd_at _ _ _ _ hl, set_at _ _ _ _ _ hl]
   rw [wrap_id (n := m + 5 * (i : Int) + 1) (by omega) (by omega), wrap_id (n := m + 5 * (i : Int) + 1 + 1) (by omega) (by omega), wrap_id (n := m + 5 * (i : Int) + 1 + 1 + 1) (by omega) (by omega), wrap_id (n := m + 5 * (i : Int) + 1 + 1 + 1 + 1) (by omega) (by omega), wrap_id (n := m + 5 * (i : Int) + 1 + 1 + 1 + 1 + 1) (by omega) (by omega), wrap_id (n := (i : Int) + 1) (by omega) (by omega)]
   refine Ev.bind (ht _ (by omega) (by omega)) ?_
   try simp only [rd_at _ _ _ _ hl, set_at _ _ _ _ _ hl]
   rw [mkn_succ, show m + 5 * ((i + 1 : Nat) : Int) = m + 5 * (i : Int) + 1 + 1 + 1 + 1 + 1 by push_cast; omega, show m + 5 * (i : Int) + 2 = m + 5 * (i : Int) + 1 + 1 by omega, show m + 5 * (i : Int) + 3 = m + 5 * (i : Int) + 1 + 1 + 1 by omega, show m + 5 * (i : Int) + 4 = m + 5 * (i : Int) + 1 + 1 + 1 + 1 by omega, show ((i + 1 : Nat) : Int) = (i : Int) + 1 by push_cast; rfl] at h
   exact h
 have h := key a.length 0 a rfl (by omega)
 unfold laws_markNodeS.f
 simpa [mkn] using h
theorem heldNodeS_ev (t : Int → ByteArray) (ht : ∀ n, -9223372036854775808 ≤ n → n < 9223372036854775808 → Ev (fun k => laws_markText.f k n) (t n)) (n : Nat) (m : Int) (h0 : 0 ≤ m) (hm : m ≤ 1000000000000) (hn : n ≤ 1000000000000) :
  Ev (fun k => laws_heldNodeS.f k (mkn t n m) m) (m + 5 * n) := by
 have key : ∀ (d i : Nat), i + d = n → Ev (fun k => laws_heldNodeS.l0 k (mkn t n m) (m + 5 * i) i) (m + 5 * n) := by
  intro d
  induction d with
  | zero =>
   intro i hd
   refine Ev.step (f := fun _ => some (m + 5 * n)) (fun k => ?_) (Ev.now _)
   simp only [laws_heldNodeS.l0]; rw [if_neg (by simp [mkn_len]; omega)]
   rw [show i = n by omega]
  | succ d ih =>
   intro i hd
   have hrd : rd_T74 (mkn t n m) (i : Int) = ⟨m + 5 * (i : Int), m + 5 * (i : Int) + 1, m + 5 * (i : Int) + 2, t (m + 5 * (i : Int) + 3), m + 5 * (i : Int) + 4⟩ := by
    rw [rd_node _ _ (by rw [mkn_len]; omega)]; simp [mkn]
   have h := ih (i + 1) (by omega)
   refine ev_succ ?_
   simp only [laws_heldNodeS.l0]
   rw [hrd]
   simp only [if_pos (show (i : Int) < ((mkn t n m).length : Int) by rw [mkn_len]; omega), if_pos (show (0 : Int) ≤ i by omega), if_true]
   rw [wrap_id (n := m + 5 * (i : Int) + 1) (by omega) (by omega), wrap_id (n := m + 5 * (i : Int) + 1 + 1) (by omega) (by omega), wrap_id (n := m + 5 * (i : Int) + 1 + 1 + 1) (by omega) (by omega), wrap_id (n := m + 5 * (i : Int) + 1 + 1 + 1 + 1) (by omega) (by omega), wrap_id (n := m + 5 * (i : Int) + 1 + 1 + 1 + 1 + 1) (by omega) (by omega), wrap_id (n := (i : Int) + 1) (by omega) (by omega)]
   rw [show m + 5 * (i : Int) + 2 = m + 5 * (i : Int) + 1 + 1 by omega, show m + 5 * (i : Int) + 3 = m + 5 * (i : Int) + 1 + 1 + 1 by omega, show m + 5 * (i : Int) + 4 = m + 5 * (i : Int) + 1 + 1 + 1 + 1 by omega]
   simp only [if_true]
   refine Ev.bind (ht _ (by omega) (by omega)) ?_
   simp only [if_true]
   rw [show m + 5 * ((i + 1 : Nat) : Int) = m + 5 * (i : Int) + 1 + 1 + 1 + 1 + 1 by push_cast; omega, show ((i + 1 : Nat) : Int) = (i : Int) + 1 by push_cast; rfl] at h
   exact h
 have h := key n 0 (by omega)
 unfold laws_heldNodeS.f
 simpa using h

theorem FnExactSchemaTree (l : List S66) (hlen : l.length ≤ 5864062014805) (hl : lcolsOk l) : ∃ k, laws_FnExactSchemaTree.f k l = some true := by
 refine Ev.rounds (g := fun k => laws_FnExactSchemaTree.f k l) ?_
 unfold laws_FnExactSchemaTree.f
 obtain ⟨t, ht, hsz⟩ := szColS_ev l (by omega) hl
 obtain ⟨tx, htx⟩ := markText_ev
 refine Ev.bind ht ?_
 by_cases h : t < 0
 ·simp only [if_pos h]; exact Ev.now _
 simp only [if_neg h]
 have hs := hsz h
 have hc : colsOk (l.map conv) := conv_ok l hl
 have hs' : (l.map conv).length ≤ 1000000000 := by simp; omega
 have e1 := spec_SchemaTree_ev _ hs' hc
 have e2 := impl_SchemaTree_ev _ hs' hc
 have hln : (sTree (l.map conv)).1.length ≤ 1000000000000 := by have := sTree_len (l.map conv); omega
 generalize sTree (l.map conv) = q at e1 e2 hln
 obtain ⟨R, ok⟩ := q
 have hr : R.length ≤ 1000000000000 := hln
 refine Ev.bind (toColS_ev l hlen) ?_
 refine Ev.bind e1 ?_
 refine Ev.bind (toColS_ev l hlen) ?_
 refine Ev.bind e2 ?_
 refine Ev.bind (eqNodeS_self R (by omega)) ?_
 simp only [if_true, bne_self_eq_false]
 refine Ev.step (fun k => by simp only [laws_FnExactSchemaTree.j0]; rw [if_neg (by simp)]) ?_
 refine Ev.bind (toColS_ev l hlen) ?_
 refine Ev.bind (eqColS_self _ (by omega)) ?_
 simp only [if_true]
 obtain ⟨r, hm⟩ := markColS_ev (l.map conv) 1 (by decide) (by decide) (by omega)
 refine Ev.bind hm ?_
 simp only [if_neg (show ¬ (1 + 4 * ((l.map conv).length : Int) < 0) by omega)]
 refine Ev.bind (eqNodeS_self R (by omega)) ?_
 simp only [if_true, bne_self_eq_false]
 refine Ev.step (fun k => by simp only [laws_FnExactSchemaTree.j1]; rw [if_neg (by simp)]) ?_
 refine Ev.bind (markNodeS_ev tx htx R 1 (by omega) (by omega) (by omega)) ?_
 refine Ev.bind (heldNodeS_ev tx htx R.length 1 (by omega) (by omega) (by omega)) ?_
 simp only [if_neg (show ¬ (1 + 5 * (R.length : Int) < 0) by omega), if_true]
 refine Ev.bind (toColS_ev l hlen) ?_
 refine Ev.bind e2 ?_
 refine Ev.bind (eqNodeS_self R (by omega)) ?_
 simp only [if_true, bne_self_eq_false]
 refine Ev.step (fun k => by simp only [laws_FnExactSchemaTree.j2]; rw [if_neg (by simp)]) ?_
 refine Ev.bind (heldNodeS_ev tx htx R.length 1 (by omega) (by omega) (by omega)) ?_
 simp only [if_neg (show ¬ (1 + 5 * (R.length : Int) < 0) by omega), if_true]; exact Ev.now _

end Go.Proofs.Ytjbghmdbceekiaa.Pure
