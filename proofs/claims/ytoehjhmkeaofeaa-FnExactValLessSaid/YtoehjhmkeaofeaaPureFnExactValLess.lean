/- ValLess answers as the reference does, for every type and all values. -/
import Derived.Test.YtoehjhmkeaofeaaPFnExactValLessx3
import Derived.Test.YtoehjhmkeaofeaaCom
namespace Go.Proofs.Ytoehjhmkeaofeaa.Pure
open Go Go.RowKit Go.Proofs.Ytoehjhmkeaofeaa.PFnExactValLess Go.Proofs.YtoehjhmkeaofeaaW.PrintWords Go.Proofs.YtoehjhmkeaofeaaW.PrintLast Go.Proofs.YtoehjhmkeaofeaaW.PrintMore Go.Proofs.Ytoehjhmkeaofeaa.Com
set_option linter.unusedVariables false
set_option linter.unusedSimpArgs false

theorem szVal_ev (n : Int) (s : ByteArray) (a : Int) (h0 : 0 ≤ a) (h1 : a ≤ 1000000000) (hs : s.size ≤ maxLen) : laws_szVal.f n s a = some (if a - s.size < 0 then -1 else a - s.size) := by
  unfold maxLen at hs
  unfold laws_szVal.f
  rw [wrap_id (n := a - (s.size : Int)) (by omega) (by omega)]
  by_cases h : a - (s.size : Int) < 0
  · rw [if_pos h, if_pos h]
  · rw [if_neg h, if_neg h]

/-- ValOk. -/
def vok (t n : Int) (s : ByteArray) : Prop := (t = 0 ∧ 0 ≤ n ∧ n ≤ 1 ∧ s.toList = []) ∨ (t = 1 ∧ -2147483648 ≤ n ∧ n ≤ 2147483647 ∧ s.toList = []) ∨ ((t = 2 ∨ t = 5) ∧ s.toList = []) ∨ (t = 6 ∧ n = 0 ∧ s.size ≤ 40)
instance (t n : Int) (s : ByteArray) : Decidable (vok t n s) := by unfold vok; exact inferInstance
theorem nil_beq (l : List UInt8) : (l == ([] : List UInt8)) = decide (l = []) := by cases l <;> rfl
theorem vok_0 (n : Int) (s : ByteArray) : vok 0 n s ↔ (0 ≤ n ∧ n ≤ 1) ∧ s.toList = [] := by unfold vok; simp [and_assoc]
theorem vok_1 (n : Int) (s : ByteArray) : vok 1 n s ↔ (-2147483648 ≤ n ∧ n ≤ 2147483647) ∧ s.toList = [] := by unfold vok; simp [and_assoc]
theorem vok_2 (n : Int) (s : ByteArray) : vok 2 n s ↔ s.toList = [] := by unfold vok; simp
theorem vok_5 (n : Int) (s : ByteArray) : vok 5 n s ↔ s.toList = [] := by unfold vok; simp
theorem vok_6 (n : Int) (s : ByteArray) : vok 6 n s ↔ n = 0 ∧ s.size ≤ 40 := by unfold vok; simp
theorem vok_no (t n : Int) (s : ByteArray) (h : ¬ t = 0 ∧ ¬ t = 1 ∧ ¬ t = 2 ∧ ¬ t = 5 ∧ ¬ t = 6) : ¬ vok t n s := by unfold vok; omega
theorem some_dec {p q : Prop} [Decidable p] [Decidable q] (h : p ↔ q) : some (decide p) = some (decide q) := by congr 1; exact decide_eq_decide.2 h

/-- FloatKey, as the program's bits have it. -/
def fkey (x : Int) : Int := if x < 0 then Go.bits .xor .i64 x 9223372036854775807 else x
/-- ValLess. -/
def vlt (t n : Int) (s : ByteArray) (m : Int) (u : ByteArray) : Bool := decide (vok t n s) && decide (vok t m u) && (if t = 5 then decide (fkey n < fkey m) else if t = 6 then Op.bytesLess s.toList u.toList else decide (n < m))

theorem impl_within_ev (x a b : Int) : impl_within.f x a b = some (decide (a ≤ x ∧ x ≤ b)) := by
  unfold impl_within.f
  by_cases h : x ≥ a
  · rw [if_pos h]; congr 1; simp [show a ≤ x from h]
  · rw [if_neg h]; congr 1; simp [show ¬ a ≤ x from h]

theorem impl_ValOk_ev (t n : Int) (s : ByteArray) : impl_ValOk.f t n s = some (decide (vok t n s)) := by
  unfold impl_ValOk.f impl_isInt32.f
  simp only [impl_within_ev, Option.bind_some, nil_beq]
  by_cases h0 : t = 0
  · subst h0; rw [if_pos rfl]
    by_cases h : 0 ≤ n ∧ n ≤ 1
    · simp only [decide_eq_true h, if_true]; exact some_dec (by rw [vok_0]; exact ⟨fun x => ⟨h, x⟩, fun x => x.2⟩)
    · simp only [decide_eq_false h, Bool.false_eq_true, if_false]; rw [decide_eq_false (by rw [vok_0]; exact fun x => h x.1)]
  rw [if_neg h0]
  by_cases h1 : t = 1
  · subst h1; rw [if_pos rfl]
    by_cases h : -2147483648 ≤ n ∧ n ≤ 2147483647
    · simp only [decide_eq_true h, if_true]; exact some_dec (by rw [vok_1]; exact ⟨fun x => ⟨h, x⟩, fun x => x.2⟩)
    · simp only [decide_eq_false h, Bool.false_eq_true, if_false]; rw [decide_eq_false (by rw [vok_1]; exact fun x => h x.1)]
  rw [if_neg h1]
  by_cases h2 : t = 2
  · subst h2; rw [if_pos rfl]; exact some_dec (vok_2 n s).symm
  rw [if_neg h2]
  by_cases h5 : t = 5
  · subst h5; rw [if_pos rfl]; exact some_dec (vok_5 n s).symm
  rw [if_neg h5]
  by_cases h6 : t = 6
  · subst h6; rw [if_pos rfl]
    by_cases h : n = 0
    · rw [if_pos h]; exact some_dec (by rw [vok_6]; exact ⟨fun x => ⟨h, by omega⟩, fun x => by omega⟩)
    · rw [if_neg h, decide_eq_false (by rw [vok_6]; exact fun x => h x.1)]
  · rw [if_neg h6, decide_eq_false (vok_no t n s ⟨h0, h1, h2, h5, h6⟩)]

theorem impl_FloatKey_ev (x : Int) : impl_FloatKey.f x = some (fkey x) := by unfold impl_FloatKey.f fkey; split <;> rfl
theorem impl_ValLess_ev (t n : Int) (s : ByteArray) (m : Int) (u : ByteArray) : Ev (fun k => impl_ValLess.f k t n s m u) (vlt t n s m u) := by
  unfold impl_ValLess.f vlt
  simp only [impl_ValOk_ev, Option.bind_some]
  have bad : Ev (fun k => impl_ValLess.j0 k t true n s m u) false := Ev.step (f := fun _ => some false) (fun k => by simp only [impl_ValLess.j0]; rw [if_pos trivial]) (Ev.now _)
  by_cases h1 : vok t n s
  · simp only [decide_eq_true h1, if_true, Bool.true_and]
    by_cases h2 : vok t m u
    · simp only [decide_eq_true h2, Bool.not_true, Bool.true_and]
      refine Ev.step (f := fun _ => some (if t = 5 then decide (fkey n < fkey m) else if t = 6 then Op.bytesLess s.toList u.toList else decide (n < m))) (fun k => ?_) (Ev.now _)
      simp only [impl_ValLess.j0, impl_FloatKey_ev, Option.bind_some]
      rw [if_neg (by simp)]
      by_cases h5 : t = 5
      · rw [if_pos h5, if_pos h5]
      · rw [if_neg h5, if_neg h5]
        by_cases h6 : t = 6
        · rw [if_pos h6, if_pos h6]
        · rw [if_neg h6, if_neg h6]
    · simp only [decide_eq_false h2, Bool.not_false, Bool.false_and]; exact bad
  · simp only [decide_eq_false h1, Bool.false_eq_true, if_false, Bool.false_and]; exact bad

theorem spec_l1In_ev (x a b : Int) : spec_l1In.f x a b = some (decide (a ≤ x ∧ x ≤ b)) := by
  unfold spec_l1In.f
  by_cases h : x ≥ a
  · rw [if_pos h]; congr 1; simp [show a ≤ x from h]
  · rw [if_neg h]; congr 1; simp [show ¬ a ≤ x from h]

theorem spec_ValOk_ev (t n : Int) (s : ByteArray) : Ev (fun k => spec_ValOk.f k t n s) (decide (vok t n s)) := by
  unfold spec_ValOk.f spec_l4Int.f
  simp only [spec_l1In_ev, Option.bind_some, nil_beq]
  by_cases h0 : t = 0
  · subst h0; simp only [if_true]
    by_cases h : 0 ≤ n ∧ n ≤ 1
    · simp only [decide_eq_true h, if_true]; rw [some_dec (q := vok 0 n s) (by rw [vok_0]; exact ⟨fun x => ⟨h, x⟩, fun x => x.2⟩)]; exact Ev.now _
    · simp only [decide_eq_false h, Bool.false_eq_true, if_false]; rw [decide_eq_false (by rw [vok_0]; exact fun x => h x.1)]; exact Ev.now _
  simp only [if_neg h0]
  by_cases h1 : t = 1
  · subst h1; simp only [if_true]
    by_cases h : -2147483648 ≤ n ∧ n ≤ 2147483647
    · simp only [decide_eq_true h, if_true]; rw [some_dec (q := vok 1 n s) (by rw [vok_1]; exact ⟨fun x => ⟨h, x⟩, fun x => x.2⟩)]; exact Ev.now _
    · simp only [decide_eq_false h, Bool.false_eq_true, if_false]; rw [decide_eq_false (by rw [vok_1]; exact fun x => h x.1)]; exact Ev.now _
  simp only [if_neg h1]
  by_cases h2 : t = 2
  · subst h2; simp only [if_true, beq_self_eq_true]
    refine Ev.step (f := fun _ => some (decide (vok 2 n s))) (fun k => ?_) (Ev.now _)
    simp only [spec_ValOk.j0, nil_beq]; rw [if_pos trivial]; exact some_dec (vok_2 n s).symm
  simp only [if_neg h2]
  refine Ev.step (f := fun _ => some (decide (vok t n s))) (fun k => ?_) (Ev.now _)
  simp only [spec_ValOk.j0, nil_beq]
  by_cases h5 : t = 5
  · subst h5; rw [if_pos (by decide)]; exact some_dec (vok_5 n s).symm
  rw [if_neg (by simpa using h5)]
  by_cases h6 : t = 6
  · subst h6; rw [if_pos rfl]
    by_cases h : n = 0
    · rw [if_pos h]; exact some_dec (by rw [vok_6]; exact ⟨fun x => ⟨h, by omega⟩, fun x => by omega⟩)
    · rw [if_neg h, decide_eq_false (by rw [vok_6]; exact fun x => h x.1)]
  · rw [if_neg h6, decide_eq_false (vok_no t n s ⟨h0, h1, h2, h5, h6⟩)]

theorem spec_FloatKey_ev (x : Int) : spec_FloatKey.f x = some (fkey x) := by unfold spec_FloatKey.f fkey; split <;> rfl
theorem bt_get (s : ByteArray) (i : Nat) (h : i < s.size) : ∃ (c : UInt8), s.toList.drop i = c :: s.toList.drop (i + 1) ∧ bt s i = (c.toNat : Int) := by
  have hl : s.toList.length = s.size := by rw [ByteArray.toList_eq]; rfl
  refine ⟨s.toList[i]'(by omega), List.drop_eq_getElem_cons (by omega), ?_⟩
  unfold bt
  rw [dif_pos (by simpa using h)]
  have e : ∀ (l : List UInt8) (hq : i < l.length), l = s.data.toList → l[i] = s.data.toList[i]'(by simpa using h) := by intro l hq e; subst e; rfl
  rw [e s.toList (by omega) (ByteArray.toList_eq s)]
  rfl
theorem spec_ValLess_l (n : Int) (s : ByteArray) (m : Int) (u : ByteArray) (hs : s.size ≤ 1000000) (hu : u.size ≤ 1000000) :
    ∀ (d i : Nat), s.size - i = d → i ≤ s.size → i ≤ u.size → Ev (fun k => spec_ValLess.l0 k i n s m u) (Op.bytesLess (s.toList.drop i) (u.toList.drop i)) := by
  intro d
  have hls : s.toList.length = s.size := by rw [ByteArray.toList_eq]; rfl
  have hlu : u.toList.length = u.size := by rw [ByteArray.toList_eq]; rfl
  induction d with
  | zero =>
    intro i hd h1 h2
    have e : i = s.size := by omega
    refine Ev.step (f := fun k => spec_ValLess.j2 k i false n s m u) (fun k => ?_) ?_
    · simp only [spec_ValLess.l0]; rw [if_neg (by omega)]
    · refine Ev.step (f := fun _ => some (Op.bytesLess (s.toList.drop i) (u.toList.drop i))) (fun k => ?_) (Ev.now _)
      simp only [spec_ValLess.j2]; rw [if_neg (by simp)]
      rw [List.drop_eq_nil_of_le (by omega : s.toList.length ≤ i)]
      by_cases h : s.size < u.size
      · obtain ⟨c, hc, _⟩ := bt_get u i (by omega)
        rw [decide_eq_true (by omega), hc]; rfl
      · rw [decide_eq_false (by omega), List.drop_eq_nil_of_le (by omega : u.toList.length ≤ i)]; rfl
  | succ d ih =>
    intro i hd h1 h2
    refine Ev.step (f := fun k => spec_ValLess.j2 k i (decide ((i : Int) < u.size)) n s m u) (fun k => ?_) ?_
    · simp only [spec_ValLess.l0]; rw [if_pos (by omega)]
    obtain ⟨c, hc, bc⟩ := bt_get s i (by omega)
    by_cases h : i < u.size
    · obtain ⟨c', hc', bc'⟩ := bt_get u i h
      rw [decide_eq_true (by omega), hc, hc']
      have hne : (c == c') = decide ((c.toNat : Int) = c'.toNat) := by
        by_cases h : c = c'
        · subst h; simp
        · have h' : ¬ ((c.toNat : Int) = c'.toNat) := fun e => h (UInt8.toNat_inj.1 (by omega))
          rw [decide_eq_false h']; simpa using h
      have hlt : decide (c < c') = decide ((c.toNat : Int) < c'.toNat) := by
        apply decide_eq_decide.2
        rw [UInt8.lt_iff_toNat_lt]; omega
      by_cases he : bt s i = bt u i
      · refine Ev.step (f := fun k => spec_ValLess.l0 k ((i + 1 : Nat) : Int) n s m u) (fun k => ?_) ?_
        · simp only [spec_ValLess.j2]
          rw [if_pos trivial, if_pos (by omega), if_pos (by omega), if_pos (by omega), if_pos he, wrap_id (by omega) (by omega)]; push_cast; rfl
        · have hx : (c.toNat : Int) = c'.toNat := by rw [← bc, ← bc', he]
          have e2 : Op.bytesLess (c :: s.toList.drop (i + 1)) (c' :: u.toList.drop (i + 1)) = Op.bytesLess (s.toList.drop (i + 1)) (u.toList.drop (i + 1)) := by
            simp only [Op.bytesLess]; rw [hlt, hne, decide_eq_false (by omega), decide_eq_true hx]; simp
          rw [e2]; exact ih (i + 1) (by omega) (by omega) (by omega)
      · refine Ev.step (f := fun _ => some (Op.bytesLess (c :: s.toList.drop (i + 1)) (c' :: u.toList.drop (i + 1)))) (fun k => ?_) (Ev.now _)
        simp only [spec_ValLess.j2]
        rw [if_pos trivial, if_pos (by omega), if_pos (by omega), if_pos (by omega), if_neg he]
        have hx : ¬ (c.toNat : Int) = c'.toNat := by rw [← bc, ← bc']; exact he
        simp only [Op.bytesLess]; rw [hlt, hne, decide_eq_false hx, bc, bc']; simp
    · rw [decide_eq_false (by omega), hc, List.drop_eq_nil_of_le (by omega : u.toList.length ≤ i)]
      refine Ev.step (f := fun _ => some (Op.bytesLess (c :: s.toList.drop (i + 1)) [])) (fun k => ?_) (Ev.now _)
      simp only [spec_ValLess.j2]; rw [if_neg (by simp), decide_eq_false (by omega)]; rfl
theorem spec_ValLess_ev (t n : Int) (s : ByteArray) (m : Int) (u : ByteArray) : Ev (fun k => spec_ValLess.f k t n s m u) (vlt t n s m u) := by
  unfold spec_ValLess.f vlt
  refine Ev.bind (spec_ValOk_ev t n s) ?_
  have bad : Ev (fun k => spec_ValLess.j0 k t true n s m u) false := Ev.step (f := fun _ => some false) (fun k => by simp only [spec_ValLess.j0]; rw [if_pos trivial]) (Ev.now _)
  by_cases h1 : vok t n s
  · simp only [decide_eq_true h1, if_true, Bool.true_and]
    refine Ev.bind (spec_ValOk_ev t m u) ?_
    by_cases h2 : vok t m u
    · simp only [decide_eq_true h2, Bool.not_true, Bool.true_and]
      by_cases h5 : t = 5
      · rw [if_pos h5]
        refine Ev.step (f := fun _ => some (decide (fkey n < fkey m))) (fun k => ?_) (Ev.now _)
        simp only [spec_ValLess.j0, spec_FloatKey_ev, Option.bind_some]
        rw [if_neg (by simp), if_pos h5]
      · rw [if_neg h5]
        by_cases h6 : t = 6
        · rw [if_pos h6]
          subst h6
          have hs := (vok_6 n s).1 h1
          have hu := (vok_6 m u).1 h2
          refine Ev.step (f := fun k => spec_ValLess.l0 k 0 n s m u) (fun k => ?_) ?_
          · simp only [spec_ValLess.j0]; rw [if_neg (by simp), if_neg (by decide), if_pos trivial]
          · have h := spec_ValLess_l n s m u (by omega) (by omega) s.size 0 (by omega) (by omega) (by omega)
            simpa using h
        · rw [if_neg h6]
          refine Ev.step (f := fun _ => some (decide (n < m))) (fun k => ?_) (Ev.now _)
          simp only [spec_ValLess.j0]; rw [if_neg (by simp), if_neg h5, if_neg h6]
    · simp only [decide_eq_false h2, Bool.not_false, Bool.false_and]; exact bad
  · simp only [decide_eq_false h1, Bool.false_eq_true, if_false, Bool.false_and]; exact bad

theorem FnExactValLess (t n : Int) (s : ByteArray) (m : Int) (u : ByteArray) (_ : (Lit.int .i64 t).wf = true) (_ : (Lit.int .i64 n).wf = true) (hs : s.size ≤ maxLen) (_ : (Lit.int .i64 m).wf = true) (hu : u.size ≤ maxLen) : ∃ k, laws_FnExactValLess.f k t n s m u = some true := by
  refine Ev.rounds (g := fun k => laws_FnExactValLess.f k t n s m u) ?_
  unfold laws_FnExactValLess.f
  rw [szVal_ev n s 1048576 (by decide) (by decide) hs]
  simp only [Option.bind_some]
  by_cases h : (if (1048576 : Int) - s.size < 0 then -1 else (1048576 : Int) - s.size) < 0
  · simp only [if_pos h]; exact Ev.now _
  simp only [if_neg h]
  have hr : 0 ≤ (if (1048576 : Int) - s.size < 0 then -1 else (1048576 : Int) - s.size) ∧ (if (1048576 : Int) - s.size < 0 then -1 else (1048576 : Int) - s.size) ≤ 1000000000 := by refine ⟨by omega, ?_⟩; split <;> omega
  rw [szVal_ev m u _ hr.1 hr.2 hu]
  simp only [Option.bind_some]
  generalize (if (if (1048576 : Int) - s.size < 0 then -1 else (1048576 : Int) - s.size) - (u.size : Int) < 0 then (-1 : Int) else (if (1048576 : Int) - s.size < 0 then -1 else (1048576 : Int) - s.size) - (u.size : Int)) = z
  by_cases h2 : z < 0
  · simp only [if_pos h2]; exact Ev.now _
  simp only [if_neg h2, laws_toVal.f, Option.bind_some]
  refine Ev.bind (spec_ValLess_ev t n s m u) ?_
  refine Ev.bind (impl_ValLess_ev t n s m u) ?_
  simp only [bne_self_eq_false, Bool.false_eq_true, if_false]; exact Ev.now _

end Go.Proofs.Ytoehjhmkeaofeaa.Pure
