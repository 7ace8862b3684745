/- PlainPack answers as the reference does, for every type and all values. -/
import Derived.Test.YtbiibjbhgeenoaaPFnExactPlainPackx8
import Derived.Test.YtbiibjbhgeenoaaCom
namespace Go.Proofs.Ytbiibjbhgeenoaa.Pure
open Go Go.RowKit Go.Proofs.Ytbiibjbhgeenoaa.PFnExactPlainPack Go.Proofs.YtbiibjbhgeenoaaW.PrintWords Go.Proofs.YtbiibjbhgeenoaaW.PrintLast Go.Proofs.YtbiibjbhgeenoaaW.PrintMore Go.Proofs.Ytbiibjbhgeenoaa.Com
set_option linter.unusedVariables false
set_option linter.unusedSimpArgs false

/-- ValOk. -/
def vok (t n : Int) (s : ByteArray) : Prop := (t = 0 ∧ 0 ≤ n ∧ n ≤ 1 ∧ s.toList = []) ∨ (t = 1 ∧ -2147483648 ≤ n ∧ n ≤ 2147483647 ∧ s.toList = []) ∨ ((t = 2 ∨ t = 5) ∧ s.toList = []) ∨ (t = 6 ∧ n = 0 ∧ s.size ≤ 40)
instance (t n : Int) (s : ByteArray) : Decidable (vok t n s) := by unfold vok; exact inferInstance
theorem nil_beq (l : List UInt8) : (l == ([] : List UInt8)) = decide (l = []) := by cases l <;> rfl
theorem vok_0 (n : Int) (s : ByteArray) : vok 0 n s ↔ (0 ≤ n ∧ n ≤ 1) ∧ s.toList = [] := by unfold vok; simp [and_assoc]
theorem vok_1 (n : Int) (s : ByteArray) : vok 1 n s ↔ (-2147483648 ≤ n ∧ n ≤ 2147483647) ∧ s.toList = [] := by unfold vok; simp [and_assoc]
theorem vok_2 (n : Int) (s : ByteArray) : vok 2 n s ↔ s.toList = [] := by unfold vok; simp
theorem vok_5 (n : Int) (s : ByteArray) : vok 5 n s ↔ s.toList = [] := by unfold vok; simp
theorem vok_6 (n : Int) (s : ByteArray) : vok 6 n s ↔ n = 0 ∧ s.size ≤ 40 := by unfold vok; simp
theorem vok_no (t n : Int) (s : ByteArray) (h : ¬ t = 0 ∧ ¬ t = 1 ∧ ¬ t = 2 ∧ ¬ t = 5 ∧ ¬ t = 6) : ¬ vok t n s := by unfold vok; omega
theorem some_dec {p q : Prop} [Decidable p] [Decidable q] (h : p ↔ q) : some (decide p) = some (decide q) := by congr 1; exact decide_eq_decide.2 h

/-- A number that BitsPack takes. -/
def fits (w : Int) (n : Int) : Prop := 0 ≤ n ∧ (blen n.toNat : Int) ≤ w
instance (w n : Int) : Decidable (fits w n) := by unfold fits; exact inferInstance
/-- What BitsPack answers. -/
def bpk (l : List Int) (w : Int) : List Int × Bool := if l.length ≤ 2000 ∧ 0 ≤ w ∧ w ≤ 62 ∧ ∀ n ∈ l, fits w n then (packB l w.toNat, true) else ([], false)

abbrev PV := S47
/-- A value's plain bytes. -/
def pval (t n : Int) (s : ByteArray) : List Int := if t = 6 then wbytes s.size 4 ++ bytesOf s else if t = 1 then wbytes n 4 else wbytes n 8
/-- Values of a type. -/
def valsP (t : Int) (l : List PV) : Prop := (t = 0 ∨ t = 1 ∨ t = 2 ∨ t = 5 ∨ t = 6) ∧ l.length ≤ 2000 ∧ ∀ v ∈ l, vok t v.f0 v.f1
instance (t : Int) (l : List PV) : Decidable (valsP t l) := by unfold valsP; infer_instance
def numsL (l : List PV) : List Int := l.map fun v => v.f0
def flatV (t : Int) (l : List PV) : List Int := l.flatMap fun v => pval t v.f0 v.f1
/-- What PlainPack answers. -/
def ppk (t : Int) (l : List PV) : List Int × Bool := if valsP t l then (if t = 0 then packB (numsL l) 1 else flatV t l, true) else ([], false)
theorem rd_pv (l : List PV) (i : Nat) (h : i < l.length) : rd_T47 l i = l[i] := by
  unfold rd_T47; simp [h]
theorem bytesOf_len (s : ByteArray) : (bytesOf s).length = s.size := by
  unfold bytesOf; rw [List.length_map, Array.length_toList]; rfl
theorem pval_len (t n : Int) (s : ByteArray) (h : s.size ≤ 40) : (pval t n s).length ≤ 44 := by
  unfold pval
  split
  · simp [wbytes_len, bytesOf_len]; omega
  · split <;> simp [wbytes_len]
theorem vok_size (t n : Int) (s : ByteArray) (h : vok t n s) : s.size ≤ 40 := by
  have e : s.toList = [] → s.size = 0 := by
    intro h0
    rw [(Go.toList_nil_iff_emptyBytes s).1 h0]; rfl
  rcases h with h | h | h | h
  · have := e h.2.2.2; omega
  · have := e h.2.2.2; omega
  · have := e h.2; omega
  · exact h.2.2
theorem flatV_len (t : Int) (l : List PV) (h : ∀ v ∈ l, vok t v.f0 v.f1) : (flatV t l).length ≤ 44 * l.length := by
  induction l with
  | nil => simp [flatV]
  | cons v l ih =>
    have h1 := pval_len t v.f0 v.f1 (vok_size _ _ _ (h v (by simp)))
    have h2 := ih (fun x hx => h x (by simp [hx]))
    unfold flatV at *
    simp only [List.flatMap_cons, List.length_append, List.length_cons]; omega
theorem flatV_snoc (t : Int) (l : List PV) (v : PV) : flatV t (l ++ [v]) = flatV t l ++ pval t v.f0 v.f1 := by simp [flatV]
theorem numsL_snoc (l : List PV) (v : PV) : numsL (l ++ [v]) = numsL l ++ [v.f0] := by simp [numsL]
theorem ppk_len (t : Int) (l : List PV) : (ppk t l).1.length ≤ 100000 := by
  unfold ppk
  by_cases h : valsP t l
  · rw [if_pos h]
    by_cases h0 : t = 0
    · simp only [if_pos h0, packB_len, numsL, List.length_map]; have := h.2.1; omega
    · simp only [if_neg h0]; have := flatV_len t l h.2.2; have := h.2.1; omega
  · rw [if_neg h]; simp
theorem bpk_bool (l : List PV) (h : valsP 0 l) : bpk (numsL l) 1 = (packB (numsL l) 1, true) := by
  unfold bpk
  rw [if_pos]
  · rfl
  · refine ⟨by simp [numsL]; exact h.2.1, by decide, by decide, fun n hn => ?_⟩
    simp only [numsL, List.mem_map] at hn
    obtain ⟨v, hv, rfl⟩ := hn
    have := ((vok_0 _ _).1 (h.2.2 v hv)).1
    refine ⟨this.1, ?_⟩
    have : blen v.f0.toNat ≤ 1 := (blen_le _ _).2 (by omega)
    omega
theorem numsL_wf (l : List PV) (h : valsP 0 l) : ∀ x ∈ numsL l, (Lit.int .i64 x).wf = true := by
  intro x hx
  simp only [numsL, List.mem_map] at hx
  obtain ⟨v, hv, rfl⟩ := hx
  have := ((vok_0 _ _).1 (h.2.2 v hv)).1
  exact wf64_mk (by omega) (by omega)

theorem impl_within_ev (x a b : Int) : impl_within.f x a b = some (decide (a ≤ x ∧ x ≤ b)) := by
  unfold impl_within.f
  by_cases h : x ≥ a
  · rw [if_pos h]; congr 1; simp [show a ≤ x from h]
  · rw [if_neg h]; congr 1; simp [show ¬ a ≤ x from h]

theorem impl_ValOk_ev (t n : Int) (s : ByteArray) : impl_ValOk.f t n s = some (decide (vok t n s)) := by
  unfold impl_ValOk.f impl_isInt32.f
  simp only [impl_within_ev, Option.bind_some, nil_beq]
  by_cases h0 : t = 0
  · subst h0; rw [if_pos rfl]
    by_cases h : 0 ≤ n ∧ n ≤ 1
    · simp only [decide_eq_true h, if_true]; exact some_dec (by rw [vok_0]; exact ⟨fun x => ⟨h, x⟩, fun x => x.2⟩)
    · simp only [decide_eq_false h, Bool.false_eq_true, if_false]; rw [decide_eq_false (by rw [vok_0]; exact fun x => h x.1)]
  rw [if_neg h0]
  by_cases h1 : t = 1
  · subst h1; rw [if_pos rfl]
    by_cases h : -2147483648 ≤ n ∧ n ≤ 2147483647
    · simp only [decide_eq_true h, if_true]; exact some_dec (by rw [vok_1]; exact ⟨fun x => ⟨h, x⟩, fun x => x.2⟩)
    · simp only [decide_eq_false h, Bool.false_eq_true, if_false]; rw [decide_eq_false (by rw [vok_1]; exact fun x => h x.1)]
  rw [if_neg h1]
  by_cases h2 : t = 2
  · subst h2; rw [if_pos rfl]; exact some_dec (vok_2 n s).symm
  rw [if_neg h2]
  by_cases h5 : t = 5
  · subst h5; rw [if_pos rfl]; exact some_dec (vok_5 n s).symm
  rw [if_neg h5]
  by_cases h6 : t = 6
  · subst h6; rw [if_pos rfl]
    by_cases h : n = 0
    · rw [if_pos h]; exact some_dec (by rw [vok_6]; exact ⟨fun x => ⟨h, by omega⟩, fun x => by omega⟩)
    · rw [if_neg h, decide_eq_false (by rw [vok_6]; exact fun x => h x.1)]
  · rw [if_neg h6, decide_eq_false (vok_no t n s ⟨h0, h1, h2, h5, h6⟩)]

theorem impl_TypeOk_ev (t : Int) : impl_TypeOk.f t = some (decide (t = 0 ∨ t = 1 ∨ t = 2 ∨ t = 5 ∨ t = 6)) := by
  unfold impl_TypeOk.f
  simp only [impl_within_ev, Option.bind_some]
  by_cases h : 0 ≤ t ∧ t ≤ 2
  · simp only [decide_eq_true h, if_true]; rw [decide_eq_true (by omega)]
  · simp only [decide_eq_false h, Bool.false_eq_true, if_false]
    by_cases h5 : t = 5
    · rw [if_pos h5, decide_eq_true (by omega)]
    · rw [if_neg h5]; congr 1
      by_cases h6 : t = 6
      · subst h6; rfl
      · rw [decide_eq_false (by omega)]; simpa using h6

theorem impl_WordPut_ev (x : Int) (n : Int) (h : n < 9223372036854775808) : Ev (fun k => impl_WordPut.f k x n) (if 1 ≤ n ∧ n ≤ 8 then wbytes x n.toNat else []) := by
  unfold impl_WordPut.f
  simp only [impl_within_ev, Option.bind_some]
  by_cases hn : 1 ≤ n ∧ n ≤ 8
  · have key : ∀ (d : Nat) (i : Nat), (i : Int) + d = n → Ev (fun k => impl_WordPut.l0 k x (wbytes x i) n i) (wbytes x n.toNat) := by
      intro d
      induction d with
      | zero =>
        intro i hd
        refine Ev.step (f := fun _ => some (wbytes x n.toNat)) (fun k => ?_) (Ev.now _)
        simp only [impl_WordPut.l0]; rw [if_neg (by omega), show n.toNat = i by omega]
      | succ d ih =>
        intro i hd
        refine Ev.step (f := fun k => impl_WordPut.l0 k x (wbytes x (i + 1)) n (i + 1 : Nat)) (fun k => ?_) (ih (i + 1) (by omega))
        simp only [impl_WordPut.l0]
        rw [if_pos (by omega), wrap_id (n := 8 * (i : Int)) (by omega) (by omega), if_pos (by omega), if_pos (by rw [wbytes_len]; omega), wrap_id (by omega) (by omega), shr64 _ _ (by omega) (by omega), wbytes_succ, show (8 * (i : Int)).toNat = 8 * i by omega]
        push_cast; rfl
    have h := key n.toNat 0 (by omega)
    rw [if_pos hn]
    simp only [decide_eq_true hn, if_true]
    simpa [wbytes] using h
  · rw [if_neg hn]
    simp only [decide_eq_false hn, Bool.false_eq_true, if_false]; exact Ev.now _

theorem impl_packed_ev (l : List Int) (w : Nat) (hw : w ≤ 64) (hlen : l.length ≤ 1000000000) :
    Ev (fun k => impl_packed.f k l w) (packB l w) := by
  have hmul : l.length * w ≤ 64000000000 := by
    calc l.length * w ≤ 1000000000 * 64 := Nat.mul_le_mul hlen hw
      _ = 64000000000 := by decide
  have hmulc : ((l.length * w : Nat) : Int) = (l.length : Int) * w := by push_cast; rfl
  have inner : ∀ (d i j : Nat), i < l.length → j + d = w →
      ∀ R : List Int, Ev (fun k => impl_packed.l0 k w (bofB (upTo (pbit l w) ((i + 1) * w)) ((l.length * w + 7) / 8)) l l.length ((i + 1 : Nat) : Int)) R →
      Ev (fun k => impl_packed.l1 k w (bofB (upTo (pbit l w) (i * w + j)) ((l.length * w + 7) / 8)) i (rd l i) l l.length i w j) R := by
    intro d
    induction d with
    | zero =>
      intro i j hi hj R h
      refine Ev.step (fun k => ?_) h
      simp only [impl_packed.l1]
      rw [if_neg (by omega), wrap_id (n := (i : Int) + 1) (by omega) (by omega), show j = w by omega, Nat.succ_mul]
      push_cast; rfl
    | succ d ih =>
      intro i j hi hj R h
      have hP : i * w + j < l.length * w := by
        have : (i + 1) * w ≤ l.length * w := Nat.mul_le_mul_right w hi
        rw [Nat.succ_mul] at this; omega
      have hc : ((i * w : Nat) : Int) = (i : Int) * w := by push_cast; rfl
      refine Ev.step (fun k => ?_) (ih i (j + 1) hi (by omega) R h)
      simp only [impl_packed.l1]
      rw [if_pos (by omega), ← hc, wrap_id (n := ((i * w : Nat) : Int)) (by omega) (by omega), wrap_id (n := ((i * w : Nat) : Int) + j) (by omega) (by omega)]
      rw [Int.tdiv_eq_ediv_of_nonneg (by omega), Int.tmod_eq_emod_of_nonneg (by omega), wrap_id (n := (((i * w : Nat) : Int) + j) / 8) (by omega) (by omega)]
      rw [if_pos (by omega), if_pos (by rw [bofB_len]; omega), if_pos (by omega), if_pos (by omega), wrap_id (n := (j : Int) + 1) (by omega) (by omega)]
      have hb : Go.bits .and .i64 (shr .i64 (rd l i) j) 1 = pbit l w (i * w + j) := by
        rw [and_one, shr64 _ _ (by omega) (by omega), pbit_at l w i j (by omega)]; rfl
      have hbits := pbit_bits l w (i * w + j)
      rw [hb, show pbit l w (i * w + j) % 256 = pbit l w (i * w + j) by omega, shl8 _ _ (by omega) (by omega) hbits]
      rw [rd_bofB _ _ _ (by omega) (by omega)]
      have hst := byteOf_step (pbit_bits l w) ((i * w + j) / 8) ((i * w + j) % 8) (by omega)
      rw [show 8 * ((i * w + j) / 8) + (i * w + j) % 8 = i * w + j by omega] at hst
      rw [show ((((i * w : Nat) : Int) + j) % 8).toNat = (i * w + j) % 8 by omega, show ((((i * w : Nat) : Int) + j) / 8).toNat = (i * w + j) / 8 by omega]
      rw [or8 _ _ _ (by omega) hst.1 hst.2.1 hbits, ← hst.2.2, bofB_set _ _ _ _ rfl]
      push_cast; rfl
  have outer : ∀ (d i : Nat), i + d = l.length → Ev (fun k => impl_packed.l0 k w (bofB (upTo (pbit l w) (i * w)) ((l.length * w + 7) / 8)) l l.length i) (packB l w) := by
    intro d
    induction d with
    | zero =>
      intro i hi
      refine Ev.step (f := fun _ => some (packB l w)) (fun k => ?_) (Ev.now _)
      simp only [impl_packed.l0]; rw [if_neg (by omega), show i = l.length by omega]; rfl
    | succ d ih =>
      intro i hi
      refine Ev.step (fun k => ?_) (inner w i 0 (by omega) (by omega) _ (ih (i + 1) (by omega)))
      simp only [impl_packed.l0]; rw [if_pos (by omega), if_pos (by omega), if_pos (by omega)]; rfl
  have h := outer l.length 0 (by omega)
  unfold impl_packed.f
  rw [← hmulc, wrap_id (n := ((l.length * w : Nat) : Int)) (by omega) (by omega), wrap_id (n := ((l.length * w : Nat) : Int) + 7) (by omega) (by omega), Int.tdiv_eq_ediv_of_nonneg (by omega), wrap_id (by omega) (by omega)]
  simp only [if_pos (show (0 : Int) ≤ (((l.length * w : Nat) : Int) + 7) / 8 by omega), if_pos (show ((((l.length * w : Nat) : Int) + 7) / 8).toNat ≤ 281474976710656 by omega)]
  rw [show ((((l.length * w : Nat) : Int) + 7) / 8).toNat = (l.length * w + 7) / 8 by omega, bofB_zero (pbit l w)]
  simpa using h

theorem ev_succ' {α : Type} {g : Nat → Option α} {r : α} (h : Ev (fun k => g (k + 1)) r) : Ev g r := Ev.step (fun _ => rfl) h

theorem ev_if {α : Type} {c : Prop} [Decidable c] {g f : Nat → Option α} {R : α} (hc : c) (h : Ev g R) : Ev (fun k => if c then g k else f k) R := by
  simp only [if_pos hc]; exact h

theorem impl_valsOk_ev (t : Int) (l : List PV) (hl : l.length ≤ 1000000000000000) : Ev (fun k => impl_valsOk.f k t l) (decide (valsP t l)) := by
  have key : ∀ (d i : Nat), i + d = l.length → (∀ j, j < i → ∀ h : j < l.length, vok t l[j].f0 l[j].f1) → Ev (fun k => impl_valsOk.l0 k t l l l.length i) (decide (valsP t l)) := by
    intro d
    induction d with
    | zero =>
      intro i hd hv
      have hall : ∀ v ∈ l, vok t v.f0 v.f1 := by
        intro v hm
        obtain ⟨j, hj, rfl⟩ := List.getElem_of_mem hm
        exact hv j (by omega) hj
      refine Ev.step (f := fun _ => some (decide (valsP t l))) (fun k => ?_) (Ev.now _)
      simp only [impl_valsOk.l0]
      rw [if_neg (by omega)]
      by_cases h2 : l.length ≤ 2000
      · rw [if_pos (by omega), impl_TypeOk_ev]
        simp only [Option.bind_some]
        congr 1
        rw [decide_eq_decide]
        exact ⟨fun h => ⟨h, h2, hall⟩, fun h => h.1⟩
      · rw [if_neg (by omega), decide_eq_false (fun h => h2 h.2.1)]
    | succ d ih =>
      intro i hd hv
      by_cases hvi : vok t l[i].f0 l[i].f1
      · refine Ev.step (fun k => ?_) (ih (i + 1) (by omega) (fun j h1 h2 => by
          by_cases hji : j = i
          · subst hji; exact hvi
          · exact hv j (by omega) h2))
        simp only [impl_valsOk.l0]
        rw [if_pos (by omega), if_pos (by omega), if_pos (by omega), rd_pv l i (by omega), impl_ValOk_ev, decide_eq_true hvi, wrap_id (n := (i : Int) + 1) (by omega) (by omega)]
        simp only [Option.bind_some, if_true]; push_cast; rfl
      · rw [decide_eq_false (fun h => hvi (h.2.2 _ (List.getElem_mem (by omega))))]
        refine Ev.step (f := fun _ => some false) (fun k => ?_) (Ev.now _)
        simp only [impl_valsOk.l0]
        rw [if_pos (by omega), if_pos (by omega), if_pos (by omega), rd_pv l i (by omega), impl_ValOk_ev, decide_eq_false hvi]; rfl
  have := key l.length 0 (by omega) (by omega)
  unfold impl_valsOk.f
  simpa using this
theorem impl_numsOf_ev (l : List PV) (hl : l.length ≤ 1000000) : Ev (fun k => impl_numsOf.f k l) (numsL l) := by
  have key : ∀ (d i : Nat), i + d = l.length → Ev (fun k => impl_numsOf.l0 k (numsL (l.take i)) l l.length i) (numsL l) := by
    intro d
    induction d with
    | zero =>
      intro i hd
      refine Ev.step (f := fun _ => some (numsL l)) (fun k => ?_) (Ev.now _)
      simp only [impl_numsOf.l0]
      rw [if_neg (by omega), List.take_of_length_le (by omega)]
    | succ d ih =>
      intro i hd
      have h := ih (i + 1) (by omega)
      rw [List.take_succ_eq_append_getElem (by omega), numsL_snoc] at h
      refine Ev.step (fun k => ?_) h
      simp only [impl_numsOf.l0]
      rw [if_pos (by omega), if_pos (by omega), if_pos (by omega), if_pos (by simp [numsL]; omega), rd_pv l i (by omega), wrap_id (n := (i : Int) + 1) (by omega) (by omega)]; push_cast; rfl
  have := key l.length 0 (by omega)
  unfold impl_numsOf.f
  simpa [numsL] using this
theorem impl_wideOf_ev (t : Int) : impl_wideOf.f t = some (if t = 1 then 4 else if t = 2 ∨ t = 5 then 8 else 0) := by
  unfold impl_wideOf.f
  by_cases h1 : t = 1
  · rw [if_pos h1, if_pos h1]
  rw [if_neg h1, if_neg h1]
  by_cases h2 : t = 2
  · rw [if_pos h2, if_pos (Or.inl h2)]
  rw [if_neg h2]
  by_cases h5 : t = 5
  · rw [if_pos h5, if_pos (Or.inr h5)]
  · rw [if_neg h5, if_neg (by omega)]
theorem ev_app1 {β : Type} {g : Nat → Option (List Int)} {u acc : List Int} {F : Nat → List Int → Option β} {R : β} {B : Nat} (e : Ev g u) (h1 : acc.length + u.length < B) (h : Ev (fun k => F k (acc ++ u)) R) :
    Ev (fun k => (g k).bind fun t => if acc.length + t.length < B then F k (acc ++ t) else none) R := by
  refine Ev.bind e ?_
  simp only [if_pos h1]; exact h
theorem ev_app2 {β : Type} {g : Nat → Option (List Int)} {u acc q : List Int} {z : Nat} {F : Nat → List Int → Option β} {R : β} {B : Nat} (e : Ev g u) (h1 : acc.length + u.length < B) (h2 : (acc ++ u).length + z < B) (h : Ev (fun k => F k (acc ++ u ++ q)) R) :
    Ev (fun k => (g k).bind fun t => if acc.length + t.length < B then ((some (acc ++ t)).bind fun y => if y.length + z < B then F k (y ++ q) else none) else none) R := by
  refine Ev.bind e ?_
  simp only [if_pos h1, Option.bind_some, if_pos h2]; exact h
theorem impl_PlainPack_ev (t : Int) (l : List PV) (hl : l.length ≤ 1000000000000000) : Ev (fun k => impl_PlainPack.f k t l) (ppk t l) := by
  unfold impl_PlainPack.f ppk
  refine Ev.bind (impl_valsOk_ev t l hl) ?_
  by_cases h : valsP t l
  · simp only [decide_eq_true h, if_true]
    rw [if_pos h]
    by_cases h0 : t = 0
    · subst h0
      simp only [if_true]
      refine Ev.bind (impl_numsOf_ev l (by have := h.2.1; omega)) ?_
      refine Ev.bind (impl_packed_ev (numsL l) 1 (by decide) (by simp [numsL]; have := h.2.1; omega)) ?_
      exact Ev.now _
    · simp only [if_neg h0]
      have hlen := h.2.1
      have key : ∀ (d i : Nat), i + d = l.length → Ev (fun k => impl_PlainPack.l0 k t (flatV t (l.take i)) l l.length i) (flatV t l, true) := by
        intro d
        induction d with
        | zero =>
          intro i hd
          refine Ev.step (f := fun _ => some (flatV t l, true)) (fun k => ?_) (Ev.now _)
          simp only [impl_PlainPack.l0]
          rw [if_neg (by omega), List.take_of_length_le (by omega)]
        | succ d ih =>
          intro i hd
          have hi := ih (i + 1) (by omega)
          have hv := h.2.2 _ (List.getElem_mem (show i < l.length by omega))
          have hz := vok_size _ _ _ hv
          have hpl := pval_len t l[i].f0 l[i].f1 hz
          have hfl := flatV_len t (l.take i) (fun v hm => h.2.2 v (List.mem_of_mem_take hm))
          have hfl2 : (flatV t (l.take i)).length ≤ 88000 := by rw [List.length_take] at hfl; omega
          rw [List.take_succ_eq_append_getElem (by omega), flatV_snoc] at hi
          generalize flatV t (l.take i) = acc at hi hfl2
          refine ev_succ' ?_
          simp only [impl_PlainPack.l0]
          have e1 : wrap64 ((i : Int) + 1) = ((i + 1 : Nat) : Int) := by rw [wrap_id (by omega) (by omega)]; push_cast; rfl
          refine ev_if (show (i : Int) < l.length by omega) ?_
          refine ev_if (show (0 : Int) ≤ i by omega) ?_
          refine ev_if (show (i : Int) < l.length by omega) ?_
          rw [rd_pv l i (by omega), e1]
          by_cases h6 : t = 6
          · refine ev_if h6 ?_
            have hw := impl_WordPut_ev (l[i].f1.size : Int) 4 (by decide)
            have hw : Ev (fun k => impl_WordPut.f k (l[i].f1.size : Int) 4) (wbytes l[i].f1.size 4) := by simpa using hw
            refine ev_app2 (F := fun k y => impl_PlainPack.l0 k t y l l.length ((i + 1 : Nat) : Int)) hw (by rw [wbytes_len]; omega) (by rw [List.length_append, wbytes_len]; omega) ?_
            rw [show pval t l[i].f0 l[i].f1 = wbytes l[i].f1.size 4 ++ bytesOf l[i].f1 by unfold pval; rw [if_pos h6], ← List.append_assoc] at hi
            exact hi
          · simp only [if_neg h6, impl_wideOf_ev, Option.bind_some]
            have ht := h.1
            have hw := impl_WordPut_ev l[i].f0 (if t = 1 then 4 else if t = 2 ∨ t = 5 then 8 else 0) (by split; decide; split <;> decide)
            have hp : (if 1 ≤ (if t = 1 then (4 : Int) else if t = 2 ∨ t = 5 then 8 else 0) ∧ (if t = 1 then (4 : Int) else if t = 2 ∨ t = 5 then 8 else 0) ≤ 8 then wbytes l[i].f0 (if t = 1 then (4 : Int) else if t = 2 ∨ t = 5 then 8 else 0).toNat else []) = pval t l[i].f0 l[i].f1 := by
              unfold pval
              rw [if_neg h6]
              by_cases h1 : t = 1
              · simp [h1]
              · rw [if_neg h1, if_pos (show t = 2 ∨ t = 5 by omega), if_neg h1]; rfl
            rw [hp] at hw
            exact ev_app1 (F := fun k y => impl_PlainPack.l0 k t y l l.length ((i + 1 : Nat) : Int)) hw (by omega) hi
      have := key l.length 0 (by omega)
      simpa [flatV] using this
  · simp only [decide_eq_false h, Bool.false_eq_true, if_false]
    rw [if_neg h]; exact Ev.now _

theorem spec_l1In_ev (x a b : Int) : spec_l1In.f x a b = some (decide (a ≤ x ∧ x ≤ b)) := by
  unfold spec_l1In.f
  by_cases h : x ≥ a
  · rw [if_pos h]; congr 1; simp [show a ≤ x from h]
  · rw [if_neg h]; congr 1; simp [show ¬ a ≤ x from h]

theorem spec_ValOk_ev (t n : Int) (s : ByteArray) : Ev (fun k => spec_ValOk.f k t n s) (decide (vok t n s)) := by
  unfold spec_ValOk.f spec_l4Int.f
  simp only [spec_l1In_ev, Option.bind_some, nil_beq]
  by_cases h0 : t = 0
  · subst h0; simp only [if_true]
    by_cases h : 0 ≤ n ∧ n ≤ 1
    · simp only [decide_eq_true h, if_true]; rw [some_dec (q := vok 0 n s) (by rw [vok_0]; exact ⟨fun x => ⟨h, x⟩, fun x => x.2⟩)]; exact Ev.now _
    · simp only [decide_eq_false h, Bool.false_eq_true, if_false]; rw [decide_eq_false (by rw [vok_0]; exact fun x => h x.1)]; exact Ev.now _
  simp only [if_neg h0]
  by_cases h1 : t = 1
  · subst h1; simp only [if_true]
    by_cases h : -2147483648 ≤ n ∧ n ≤ 2147483647
    · simp only [decide_eq_true h, if_true]; rw [some_dec (q := vok 1 n s) (by rw [vok_1]; exact ⟨fun x => ⟨h, x⟩, fun x => x.2⟩)]; exact Ev.now _
    · simp only [decide_eq_false h, Bool.false_eq_true, if_false]; rw [decide_eq_false (by rw [vok_1]; exact fun x => h x.1)]; exact Ev.now _
  simp only [if_neg h1]
  by_cases h2 : t = 2
  · subst h2; simp only [if_true, beq_self_eq_true]
    refine Ev.step (f := fun _ => some (decide (vok 2 n s))) (fun k => ?_) (Ev.now _)
    simp only [spec_ValOk.j0, nil_beq]; rw [if_pos trivial]; exact some_dec (vok_2 n s).symm
  simp only [if_neg h2]
  refine Ev.step (f := fun _ => some (decide (vok t n s))) (fun k => ?_) (Ev.now _)
  simp only [spec_ValOk.j0, nil_beq]
  by_cases h5 : t = 5
  · subst h5; rw [if_pos (by decide)]; exact some_dec (vok_5 n s).symm
  rw [if_neg (by simpa using h5)]
  by_cases h6 : t = 6
  · subst h6; rw [if_pos rfl]
    by_cases h : n = 0
    · rw [if_pos h]; exact some_dec (by rw [vok_6]; exact ⟨fun x => ⟨h, by omega⟩, fun x => by omega⟩)
    · rw [if_neg h, decide_eq_false (by rw [vok_6]; exact fun x => h x.1)]
  · rw [if_neg h6, decide_eq_false (vok_no t n s ⟨h0, h1, h2, h5, h6⟩)]

theorem spec_l5Type_ev (t : Int) : spec_l5Type.f t = some (decide (t = 0 ∨ t = 1 ∨ t = 2 ∨ t = 5 ∨ t = 6)) := by
  unfold spec_l5Type.f
  by_cases h0 : t = 0
  · rw [if_pos h0, decide_eq_true (by omega)]
  rw [if_neg h0]
  by_cases h1 : t = 1
  · rw [if_pos h1, decide_eq_true (by omega)]
  rw [if_neg h1]
  by_cases h2 : t = 2
  · rw [if_pos h2, decide_eq_true (by omega)]
  rw [if_neg h2]
  by_cases h5 : t = 5
  · rw [if_pos h5, decide_eq_true (by omega)]
  rw [if_neg h5]
  by_cases h6 : t = 6
  · rw [if_pos h6, decide_eq_true (by omega)]
  rw [if_neg h6, decide_eq_false (by omega)]

theorem spec_WordPut_ev (x : Int) (n : Int) (h : n < 9223372036854775808) : Ev (fun k => spec_WordPut.f k x n) (if 1 ≤ n ∧ n ≤ 8 then wbytes x n.toNat else []) := by
  unfold spec_WordPut.f
  by_cases hn : 1 ≤ n ∧ n ≤ 8
  · have key : ∀ (d : Nat) (i : Nat), (i : Int) + d = n → Ev (fun k => spec_WordPut.l0 k x n (wbytes x i) i) (wbytes x n.toNat) := by
      intro d
      induction d with
      | zero =>
        intro i hd
        refine Ev.step (f := fun _ => some (wbytes x n.toNat)) (fun k => ?_) (Ev.now _)
        simp only [spec_WordPut.l0]; rw [if_neg (by omega), show n.toNat = i by omega]
      | succ d ih =>
        intro i hd
        refine Ev.step (f := fun k => spec_WordPut.l0 k x n (wbytes x (i + 1)) (i + 1 : Nat)) (fun k => ?_) (ih (i + 1) (by omega))
        simp only [spec_WordPut.l0, spec_l1In.f]
        rw [if_pos (by omega), if_pos (by omega), Option.bind_some, if_pos (by simp; omega), wrap_id (n := 8 * (i : Int)) (by omega) (by omega), if_pos (by omega), if_pos (by rw [wbytes_len]; omega), wrap_id (by omega) (by omega), shr64 _ _ (by omega) (by omega), wbytes_succ, show (8 * (i : Int)).toNat = 8 * i by omega]
        push_cast; rfl
    have h := key n.toNat 0 (by omega)
    rw [if_pos hn]
    simpa [wbytes] using h
  · rw [if_neg hn]
    refine Ev.step (f := fun _ => some []) (fun k => ?_) (Ev.now _)
    simp only [spec_WordPut.l0, spec_l1In.f]
    by_cases h0 : 0 < n
    · rw [if_pos h0, if_pos (by omega), Option.bind_some, if_neg (by simp; omega)]
    · rw [if_neg h0]

theorem spec_BitsSize_ev (n w : Int) : spec_BitsSize.f n w = some (if 0 ≤ n ∧ n ≤ 2000 ∧ 0 ≤ w ∧ w ≤ 62 then (n * w + 7) / 8 else -1) := by
  unfold spec_BitsSize.f
  simp only [spec_l1In_ev, Option.bind_some]
  by_cases h1 : 0 ≤ n ∧ n ≤ 2000
  · simp only [decide_eq_true h1, if_true]
    by_cases h2 : 0 ≤ w ∧ w ≤ 62
    · simp only [decide_eq_true h2, if_true]
      have hm0 : 0 ≤ n * w := Int.mul_nonneg h1.1 h2.1
      have hm : n * w ≤ 2000 * 62 := Int.mul_le_mul h1.2 h2.2 h2.1 (by omega)
      rw [if_pos ⟨h1.1, h1.2, h2.1, h2.2⟩, wrap_id (n := n * w) (by omega) (by omega), wrap_id (n := n * w + 7) (by omega) (by omega), Int.tdiv_eq_ediv_of_nonneg (by omega), wrap_id (by omega) (by omega)]
    · simp only [decide_eq_false h2, Bool.false_eq_true, if_false]
      rw [if_neg (fun h => h2 h.2.2)]
  · simp only [decide_eq_false h1, Bool.false_eq_true, if_false]
    rw [if_neg (fun h => h1 ⟨h.1, h.2.1⟩)]

theorem shr_zero_iff (n : Int) (w : Nat) (h0 : 0 ≤ n) (hw : w ≤ 62) : (shr .i64 n w != 0) = !decide ((blen n.toNat : Int) ≤ w) := by
  rw [shr64 _ _ (by omega) (by omega), show (w : Int).toNat = w by omega]
  have hp : (0 : Int) < 2 ^ w := Int.pow_pos (by decide)
  have hc : ((2 ^ w : Nat) : Int) = 2 ^ w := by simp
  by_cases h : (blen n.toNat : Int) ≤ w
  · rw [decide_eq_true h]
    have := (blen_le n.toNat w).1 (by omega)
    have hlt : n < 2 ^ w := by rw [← hc]; omega
    rw [Int.ediv_eq_zero_of_lt h0 hlt]; rfl
  · rw [decide_eq_false h]
    have : ¬ n.toNat < 2 ^ w := fun hh => h (by have := (blen_le n.toNat w).2 hh; omega)
    have hge : (2 : Int) ^ w ≤ n := by rw [← hc]; omega
    have : 1 ≤ n / 2 ^ w := by rw [Int.le_ediv_iff_mul_le hp]; omega
    simp; omega

theorem spec_BitsPack_ev (l : List Int) (w : Int) (hl : ∀ x ∈ l, (Lit.int .i64 x).wf = true) (hlen : l.length ≤ 1000000000) : Ev (fun k => spec_BitsPack.f k l w) (bpk l w) := by
  unfold spec_BitsPack.f bpk
  simp only [spec_BitsSize_ev, Option.bind_some]
  by_cases hc : l.length ≤ 2000 ∧ 0 ≤ w ∧ w ≤ 62
  · obtain ⟨h2, hw0, hw1⟩ := id hc
    obtain ⟨v, rfl⟩ := Int.eq_ofNat_of_zero_le hw0
    have hv : v ≤ 62 := by omega
    rw [if_pos (show 0 ≤ (l.length : Int) ∧ (l.length : Int) ≤ 2000 ∧ 0 ≤ (v : Int) ∧ (v : Int) ≤ 62 by omega)]
    have hmul : l.length * v ≤ 124000 := Nat.mul_le_mul h2 hv
    have hmulc : ((l.length : Int) * (v : Int)) = ((l.length * v : Nat) : Int) := by push_cast; rfl
    rw [hmulc]
    simp only [if_neg (show ¬ (((l.length * v : Nat) : Int) + 7) / 8 < 0 by omega), if_pos (show (0 : Int) ≤ (((l.length * v : Nat) : Int) + 7) / 8 by omega), if_pos (show ((((l.length * v : Nat) : Int) + 7) / 8).toNat ≤ 281474976710656 by omega)]
    have einner : ∀ (d i j : Nat), i < l.length → j + d = v →
        ∀ R : List Int × Bool, Ev (fun k => spec_BitsPack.l0 k l v (bofB (upTo (pbit l v) ((i + 1) * v)) ((l.length * v + 7) / 8)) ((i + 1 : Nat) : Int)) R →
        Ev (fun k => spec_BitsPack.l1 k l v (bofB (upTo (pbit l v) (i * v + j)) ((l.length * v + 7) / 8)) i j) R := by
      intro d
      induction d with
      | zero =>
        intro i j hi hj R h
        refine Ev.step (fun k => ?_) h
        simp only [spec_BitsPack.l1]
        rw [if_neg (by omega), wrap_id (n := (i : Int) + 1) (by omega) (by omega), show j = v by omega, Nat.succ_mul]
        push_cast; rfl
      | succ d ih =>
        intro i j hi hj R h
        have hP : i * v + j < l.length * v := by
          have : (i + 1) * v ≤ l.length * v := Nat.mul_le_mul_right v hi
          rw [Nat.succ_mul] at this; omega
        have hc' : ((i * v : Nat) : Int) = (i : Int) * v := by push_cast; rfl
        have hst := byteOf_step (pbit_bits l v) ((i * v + j) / 8) ((i * v + j) % 8) (by omega)
        rw [show 8 * ((i * v + j) / 8) + (i * v + j) % 8 = i * v + j by omega] at hst
        have hbits := pbit_bits l v (i * v + j)
        have hb : Go.bits .and .i64 (shr .i64 (rd l i) j) 1 = pbit l v (i * v + j) := by
          rw [and_one, shr64 _ _ (by omega) (by omega), pbit_at l v i j (by omega)]; rfl
        refine Ev.step (fun k => ?_) (ih i (j + 1) hi (by omega) R h)
        simp only [spec_BitsPack.l1]
        rw [if_pos (show (j : Int) < v by omega), if_pos (show (0 : Int) ≤ i by omega), if_pos (show (i : Int) < l.length by omega), if_pos (show (0 : Int) ≤ j by omega), hb, wrap_id (n := (j : Int) + 1) (by omega) (by omega)]
        by_cases h1 : pbit l v (i * v + j) = 1
        · rw [if_pos h1, ← hc', wrap_id (n := ((i * v : Nat) : Int)) (by omega) (by omega), wrap_id (n := ((i * v : Nat) : Int) + j) (by omega) (by omega)]
          rw [Int.tdiv_eq_ediv_of_nonneg (by omega), Int.tmod_eq_emod_of_nonneg (by omega), wrap_id (n := (((i * v : Nat) : Int) + j) / 8) (by omega) (by omega)]
          rw [if_pos (by omega), if_pos (by rw [bofB_len]; omega), if_pos (by omega)]
          rw [shl8 _ _ (by omega) (by omega) (Or.inr rfl), rd_bofB _ _ _ (by omega) (by omega)]
          rw [show ((((i * v : Nat) : Int) + j) % 8).toNat = (i * v + j) % 8 by omega, show ((((i * v : Nat) : Int) + j) / 8).toNat = (i * v + j) / 8 by omega]
          rw [h1] at hst
          rw [or8 _ _ _ (by omega) hst.1 hst.2.1 (Or.inr rfl), ← hst.2.2, bofB_set _ _ _ _ rfl]
          push_cast; rfl
        · rw [if_neg h1]
          have h0 : pbit l v (i * v + j) = 0 := by omega
          have e : bofB (upTo (pbit l v) (i * v + (j + 1))) ((l.length * v + 7) / 8) = bofB (upTo (pbit l v) (i * v + j)) ((l.length * v + 7) / 8) := by
            have hs := bofB_set (pbit l v) (i * v + j) ((l.length * v + 7) / 8) _ rfl
            rw [hst.2.2, h0] at hs
            rw [← Nat.add_assoc, ← hs]
            apply List.ext_getElem
            · simp
            · intro n h3 h4
              rw [List.getElem_set]
              by_cases hn : (i * v + j) / 8 = n
              · rw [if_pos hn]; subst hn; simp [bofB]
              · rw [if_neg hn]
          rw [e]; push_cast; rfl
    have outer : ∀ (d i : Nat), i + d = l.length → (∀ n ∈ l.take i, fits v n) → Ev (fun k => spec_BitsPack.l0 k l v (bofB (upTo (pbit l v) (i * v)) ((l.length * v + 7) / 8)) i) (if ∀ n ∈ l, fits v n then (packB l v, true) else ([], false)) := by
      intro d
      induction d with
      | zero =>
        intro i hi hf
        rw [show i = l.length by omega, List.take_length] at hf
        rw [if_pos hf]
        refine Ev.step (f := fun _ => some (packB l v, true)) (fun k => ?_) (Ev.now _)
        simp only [spec_BitsPack.l0]; rw [if_neg (by omega), show i = l.length by omega]; rfl
      | succ d ih =>
        intro i hi hf
        have hm : rd l i = l[i] := rd_eq l i (by omega)
        have hmem : l[i] ∈ l := List.getElem_mem _
        have hwf := wf64 (hl _ hmem)
        have badj : Ev (fun k => spec_BitsPack.j1 k l v (bofB (upTo (pbit l v) (i * v)) ((l.length * v + 7) / 8)) i true) ([], false) := Ev.step (f := fun _ => some ([], false)) (fun k => by simp only [spec_BitsPack.j1]; rw [if_pos trivial]) (Ev.now _)
        by_cases hn : l[i] < 0
        · rw [if_neg (fun h => by have := (h _ hmem).1; omega)]
          refine Ev.step (fun k => ?_) badj
          simp only [spec_BitsPack.l0]; rw [if_pos (by omega), if_pos (by omega), hm, if_pos hn]
        · by_cases hb : (blen (l[i]).toNat : Int) ≤ v
          · have hnext := ih (i + 1) (by omega) (by
              intro n hn2
              rw [List.take_succ_eq_append_getElem (by omega)] at hn2
              rcases List.mem_append.1 hn2 with h | h
              · exact hf n h
              · rw [List.mem_singleton] at h; subst h; exact ⟨by omega, hb⟩)
            refine Ev.step (f := fun k => spec_BitsPack.j1 k l v (bofB (upTo (pbit l v) (i * v)) ((l.length * v + 7) / 8)) i false) (fun k => ?_) ?_
            · simp only [spec_BitsPack.l0]; rw [if_pos (by omega), if_pos (by omega), hm, if_neg hn, if_pos (by omega), shr_zero_iff _ _ (by omega) hv, decide_eq_true hb]; rfl
            · refine Ev.step (f := fun k => spec_BitsPack.l1 k l v (bofB (upTo (pbit l v) (i * v)) ((l.length * v + 7) / 8)) i 0) (fun k => by simp only [spec_BitsPack.j1]; rw [if_neg (by simp)]) ?_
              exact einner v i 0 (by omega) (by omega) _ hnext
          · rw [if_neg (fun h => hb (h _ hmem).2)]
            refine Ev.step (fun k => ?_) badj
            simp only [spec_BitsPack.l0]; rw [if_pos (by omega), if_pos (by omega), hm, if_neg hn, if_pos (by omega), shr_zero_iff _ _ (by omega) hv, decide_eq_false hb]; rfl
    have h := outer l.length 0 (by omega) (by simp)
    have e : (if l.length ≤ 2000 ∧ 0 ≤ (v : Int) ∧ (v : Int) ≤ 62 ∧ ∀ n ∈ l, fits v n then (packB l (v : Int).toNat, true) else ([], false)) = (if ∀ n ∈ l, fits v n then (packB l v, true) else ([], false)) := by
      by_cases hf : ∀ n ∈ l, fits v n
      · rw [if_pos ⟨h2, hw0, hw1, hf⟩, if_pos hf, show (v : Int).toNat = v by omega]
      · rw [if_neg (fun h => hf h.2.2.2), if_neg hf]
    rw [e, show ((((l.length * v : Nat) : Int) + 7) / 8).toNat = (l.length * v + 7) / 8 by omega, bofB_zero (pbit l v)]
    simpa using h
  · rw [if_neg (show ¬ (0 ≤ (l.length : Int) ∧ (l.length : Int) ≤ 2000 ∧ 0 ≤ w ∧ w ≤ 62) by omega), if_neg (fun h => hc ⟨h.1, h.2.1, h.2.2.1⟩)]
    simp only [if_pos (show (-1 : Int) < 0 by decide)]; exact Ev.now _

theorem spec_l6Vals_ev (t : Int) (l : List PV) (hl : l.length ≤ 1000000000000000) : Ev (fun k => spec_l6Vals.f k t l) (decide (valsP t l)) := by
  have bad : ¬ valsP t l → Ev (fun k => spec_l6Vals.j0 k t l true) (decide (valsP t l)) := by
    intro h
    rw [decide_eq_false h]
    exact Ev.step (f := fun _ => some false) (fun k => by simp only [spec_l6Vals.j0]; rw [if_pos trivial]) (Ev.now _)
  unfold spec_l6Vals.f
  by_cases h2 : (l.length : Int) > 2000
  · simp only [if_pos h2]; exact bad (fun h => by have := h.2.1; omega)
  simp only [if_neg h2, spec_l5Type_ev, Option.bind_some]
  by_cases ht : t = 0 ∨ t = 1 ∨ t = 2 ∨ t = 5 ∨ t = 6
  · simp only [decide_eq_true ht, Bool.not_true]
    refine Ev.step (f := fun k => spec_l6Vals.l0 k t l (0 : Nat)) (fun k => by simp only [spec_l6Vals.j0]; rw [if_neg (by simp)]; rfl) ?_
    have key : ∀ (d i : Nat), i + d = l.length → (∀ j, j < i → ∀ h : j < l.length, vok t l[j].f0 l[j].f1) → Ev (fun k => spec_l6Vals.l0 k t l i) (decide (valsP t l)) := by
      intro d
      induction d with
      | zero =>
        intro i hd hv
        have hall : ∀ v ∈ l, vok t v.f0 v.f1 := by
          intro v hm
          obtain ⟨j, hj, rfl⟩ := List.getElem_of_mem hm
          exact hv j (by omega) hj
        rw [decide_eq_true ⟨ht, by omega, hall⟩]
        refine Ev.step (f := fun _ => some true) (fun k => ?_) (Ev.now _)
        simp only [spec_l6Vals.l0]
        rw [if_neg (by omega)]
      | succ d ih =>
        intro i hd hv
        refine ev_succ' ?_
        simp only [spec_l6Vals.l0]
        refine ev_if (show (i : Int) < l.length by omega) ?_
        refine ev_if (show (0 : Int) ≤ i by omega) ?_
        rw [rd_pv l i (by omega)]
        refine Ev.bind (spec_ValOk_ev t _ _) ?_
        by_cases hvi : vok t l[i].f0 l[i].f1
        · simp only [decide_eq_true hvi, if_true]
          rw [wrap_id (n := (i : Int) + 1) (by omega) (by omega)]
          exact ih (i + 1) (by omega) (fun j h1 h2 => by
            by_cases hji : j = i
            · subst hji; exact hvi
            · exact hv j (by omega) h2)
        · simp only [decide_eq_false hvi, Bool.false_eq_true, if_false]
          rw [decide_eq_false (fun h => hvi (h.2.2 _ (List.getElem_mem (by omega))))]; exact Ev.now _
    exact key l.length 0 (by omega) (by omega)
  · simp only [decide_eq_false ht, Bool.not_false]; exact bad (fun h => ht h.1)
theorem ev_app3 {β : Type} {g : Nat → Option (List Int)} {u acc q : List Int} {z b2 : Nat} {F : Nat → List Int → Option β} {R : β} {B : Nat} (e : Ev g u) (h1 : acc.length + u.length < B) (hz : z ≤ b2) (h2 : (acc ++ u).length + q.length < B) (h : Ev (fun k => F k (acc ++ u ++ q)) R) :
    Ev (fun k => (g k).bind fun t => if acc.length + t.length < B then ((some (acc ++ t)).bind fun y => if z ≤ b2 then ((some q).bind fun q' => if y.length + q'.length < B then F k (y ++ q') else none) else none) else none) R := by
  refine Ev.bind e ?_
  simp only [if_pos h1, Option.bind_some, if_pos hz, if_pos h2]; exact h
theorem spec_PlainPack_ev (t : Int) (l : List PV) (hl : l.length ≤ 1000000000000000) : Ev (fun k => spec_PlainPack.f k t l) (ppk t l) := by
  unfold spec_PlainPack.f ppk
  simp only [Option.bind_some]
  refine Ev.bind (spec_l6Vals_ev t l hl) ?_
  by_cases h : valsP t l
  · simp only [decide_eq_true h, if_true]
    rw [if_pos h]
    have hlen := h.2.1
    by_cases h0 : t = 0
    · subst h0
      simp only [if_true]
      have key : ∀ (d i : Nat), i + d = l.length → Ev (fun k => spec_PlainPack.l0 k 0 l [] (numsL (l.take i)) i) (packB (numsL l) 1, true) := by
        intro d
        induction d with
        | zero =>
          intro i hd
          refine ev_succ' ?_
          simp only [spec_PlainPack.l0]
          simp only [if_neg (show ¬ (i : Int) < l.length by omega), if_true]
          rw [List.take_of_length_le (by omega)]
          have e := spec_BitsPack_ev (numsL l) 1 (numsL_wf l h) (by simp [numsL]; omega)
          rw [bpk_bool l h] at e
          exact Ev.bind e (Ev.now _)
        | succ d ih =>
          intro i hd
          have hi := ih (i + 1) (by omega)
          rw [List.take_succ_eq_append_getElem (by omega), numsL_snoc] at hi
          refine Ev.step (fun k => ?_) hi
          simp only [spec_PlainPack.l0]
          rw [if_pos (by omega), if_pos (by omega), if_pos trivial, if_pos (by simp [numsL]; omega), rd_pv l i (by omega), wrap_id (n := (i : Int) + 1) (by omega) (by omega)]; push_cast; rfl
      have := key l.length 0 (by omega)
      simpa [numsL] using this
    · simp only [if_neg h0]
      have key : ∀ (d i : Nat), i + d = l.length → Ev (fun k => spec_PlainPack.l0 k t l (flatV t (l.take i)) [] i) (flatV t l, true) := by
        intro d
        induction d with
        | zero =>
          intro i hd
          refine Ev.step (f := fun _ => some (flatV t l, true)) (fun k => ?_) (Ev.now _)
          simp only [spec_PlainPack.l0]
          rw [if_neg (by omega), if_neg h0, List.take_of_length_le (by omega)]
        | succ d ih =>
          intro i hd
          have hi := ih (i + 1) (by omega)
          have hv := h.2.2 _ (List.getElem_mem (show i < l.length by omega))
          have hz := vok_size _ _ _ hv
          have hpl := pval_len t l[i].f0 l[i].f1 hz
          have hfl := flatV_len t (l.take i) (fun v hm => h.2.2 v (List.mem_of_mem_take hm))
          have hfl2 : (flatV t (l.take i)).length ≤ 88000 := by rw [List.length_take] at hfl; omega
          rw [List.take_succ_eq_append_getElem (by omega), flatV_snoc] at hi
          generalize flatV t (l.take i) = acc at hi hfl2
          refine ev_succ' ?_
          simp only [spec_PlainPack.l0]
          have e1 : wrap64 ((i : Int) + 1) = ((i + 1 : Nat) : Int) := by rw [wrap_id (by omega) (by omega)]; push_cast; rfl
          refine ev_if (show (i : Int) < l.length by omega) ?_
          refine ev_if (show (0 : Int) ≤ i by omega) ?_
          rw [rd_pv l i (by omega), e1]
          simp only [if_neg h0]
          have w4 : ∀ x : Int, Ev (fun k => spec_WordPut.f k x 4) (wbytes x 4) := fun x => by simpa using spec_WordPut_ev x 4 (by decide)
          have w8 : ∀ x : Int, Ev (fun k => spec_WordPut.f k x 8) (wbytes x 8) := fun x => by simpa using spec_WordPut_ev x 8 (by decide)
          by_cases h1 : t = 1
          · refine ev_if h1 ?_
            rw [show pval t l[i].f0 l[i].f1 = wbytes l[i].f0 4 by unfold pval; rw [if_neg (by omega), if_pos h1]] at hi
            exact ev_app1 (F := fun k y => spec_PlainPack.l0 k t l y [] ((i + 1 : Nat) : Int)) (w4 _) (by rw [wbytes_len]; omega) hi
          · simp only [if_neg h1]
            by_cases h6 : t = 6
            · refine ev_if h6 ?_
              rw [show pval t l[i].f0 l[i].f1 = wbytes l[i].f1.size 4 ++ bytesOf l[i].f1 by unfold pval; rw [if_pos h6], ← List.append_assoc] at hi
              exact ev_app3 (F := fun k y => spec_PlainPack.l0 k t l y [] ((i + 1 : Nat) : Int)) (w4 _) (by rw [wbytes_len]; omega) (by omega) (by rw [List.length_append, wbytes_len, bytesOf_len]; omega) hi
            · simp only [if_neg h6]
              rw [show pval t l[i].f0 l[i].f1 = wbytes l[i].f0 8 by unfold pval; rw [if_neg h6, if_neg h1]] at hi
              exact ev_app1 (F := fun k y => spec_PlainPack.l0 k t l y [] ((i + 1 : Nat) : Int)) (w8 _) (by rw [wbytes_len]; omega) hi
      have := key l.length 0 (by omega)
      simpa [flatV] using this
  · simp only [decide_eq_false h, Bool.false_eq_true, if_false]
    rw [if_neg h]; exact Ev.now _

theorem szVal_ev (n : Int) (s : ByteArray) (a : Int) (h0 : 0 ≤ a) (h1 : a ≤ 1000000000) (hs : s.size ≤ maxLen) : laws_szVal.f n s a = some (if a - s.size < 0 then -1 else a - s.size) := by
  unfold maxLen at hs
  unfold laws_szVal.f
  rw [wrap_id (n := a - (s.size : Int)) (by omega) (by omega)]
  by_cases h : a - (s.size : Int) < 0
  · rw [if_pos h, if_pos h]
  · rw [if_neg h, if_neg h]

/-- A law's values: their texts no longer than memory, their numbers Go's. -/
def lvalsOk (l : List S87) : Prop := ∀ x ∈ l, (Lit.int .i64 x.f0).wf = true ∧ x.f1.size ≤ maxLen
theorem rd_lval (l : List S87) (i : Nat) (h : i < l.length) : rd_T87 l i = l[i] := by
  unfold rd_T87; simp [h]
theorem szValS_ev (l : List S87) (hl : l.length ≤ 1000000000000000) (hs : lvalsOk l) : ∃ t, Ev (fun k => laws_szValS.f k l 1048576) t ∧ (¬ t < 0 → l.length ≤ 1048576) := by
  unfold laws_szValS.f
  rw [wrap_id (n := 1048576 - (l.length : Int)) (by omega) (by omega)]
  by_cases h : 1048576 - (l.length : Int) < 0
  · simp only [if_pos h]; exact ⟨_, Ev.now _, fun h => absurd (by decide) h⟩
  simp only [if_neg h]
  have key : ∀ (d i : Nat) (x : Int), i + d = l.length → 0 ≤ x → x ≤ 1048576 → ∃ t, Ev (fun k => laws_szValS.l0 k l x i) t := by
    intro d
    induction d with
    | zero =>
      intro i x hd h0 h1
      refine ⟨x, Ev.step (f := fun _ => some x) (fun k => ?_) (Ev.now _)⟩
      simp only [laws_szValS.l0]; rw [if_neg (by omega)]
    | succ d ih =>
      intro i x hd h0 h1
      have hx := (hs l[i] (List.getElem_mem (by omega))).2
      have e := szVal_ev l[i].f0 l[i].f1 x h0 (by omega) hx
      by_cases hn : x - (l[i].f1.size : Int) < 0
      · refine ⟨-1, Ev.step (f := fun _ => some (-1)) (fun k => ?_) (Ev.now _)⟩
        simp only [laws_szValS.l0]
        rw [if_pos (by omega), if_pos (by omega), rd_lval l i (by omega), e, if_pos hn]; rfl
      · obtain ⟨t, ht⟩ := ih (i + 1) (x - (l[i].f1.size : Int)) (by omega) (by omega) (by omega)
        refine ⟨t, Ev.step (fun k => ?_) ht⟩
        simp only [laws_szValS.l0]
        rw [if_pos (by omega), if_pos (by omega), rd_lval l i (by omega), e, if_neg hn]
        simp only [Option.bind_some]
        rw [if_neg hn, wrap_id (n := (i : Int) + 1) (by omega) (by omega)]; push_cast; rfl
  obtain ⟨t, ht⟩ := key l.length 0 (1048576 - (l.length : Int)) (by omega) (by omega) (by omega)
  exact ⟨t, ht, fun _ => by omega⟩
def convV (x : S87) : S47 := ⟨x.f0, x.f1⟩
theorem toValS_ev (a : List S87) (hn : a.length ≤ 5864062014805) : Ev (fun k => laws_toValS.f k a) (a.map convV) := by
  have key : ∀ (d : Nat) (i : Nat) (r : List S47), r.length = d → i + d = a.length → Ev (fun k => laws_toValS.l0 k a ((a.map convV).take i ++ r) i) (a.map convV) := by
    intro d
    induction d with
    | zero =>
      intro i r hr hd
      obtain rfl : r = [] := List.length_eq_zero_iff.1 hr
      refine Ev.step (f := fun _ => some (a.map convV)) (fun k => ?_) (Ev.now _)
      simp only [laws_toValS.l0]; rw [if_neg (by omega)]
      rw [List.append_nil, List.take_of_length_le (by simp; omega)]
    | succ d ih =>
      intro i r hr hd
      refine Ev.step (f := fun k => laws_toValS.l0 k a ((a.map convV).take (i + 1) ++ r.tail) (i + 1 : Nat)) (fun k => ?_) (ih (i + 1) r.tail (by simp [hr]) (by omega))
      simp only [laws_toValS.l0, laws_toVal.f, Option.bind_some]
      rw [if_pos (by omega), if_pos (by omega), if_pos (by simp; omega), wrap_id (n := (i : Int) + 1) (by omega) (by omega)]
      rw [set_mid _ _ _ _ (by simp; omega) (by omega), rd_lval a i (by omega)]
      rw [List.take_succ_eq_append_getElem (i := i) (l := a.map convV) (by simp; omega)]
      simp [convV]
  have h := key a.length 0 (List.replicate a.length z47) (by simp) (by omega)
  unfold laws_toValS.f
  simp only [if_pos (show (0:Int) ≤ a.length by omega), if_pos (show ((a.length : Int)).toNat ≤ 11728124029610 by omega)]
  simpa using h

theorem eqVal_refl (a : Int) (b : ByteArray) : laws_eqVal.f a b a b = some true := by simp [laws_eqVal.f]
theorem eqValS_self (a : List S47) (hn : a.length ≤ 1000000000000000000) : Ev (fun k => laws_eqValS.f k a a) true := by
  have key : ∀ (d : Nat) (i : Int), 0 ≤ i → i ≤ a.length → (a.length : Int) - i = d → Ev (fun k => laws_eqValS.l0 k a a i) true := by
    intro d
    induction d with
    | zero =>
      intro i h0 h1 hd
      refine Ev.step (f := fun _ => some true) (fun k => ?_) (Ev.now _)
      simp only [laws_eqValS.l0]; rw [if_neg (by omega)]
    | succ d ih =>
      intro i h0 h1 hd
      refine Ev.step (f := fun k => laws_eqValS.l0 k a a (i + 1)) (fun k => ?_) (ih (i + 1) (by omega) (by omega) (by omega))
      simp only [laws_eqValS.l0]; rw [if_pos (by omega), if_pos h0, if_pos (by omega), eqVal_refl]
      simp only [Option.bind_some, if_true]; rw [wrap_id (by omega) (by omega)]
  have h := key a.length 0 (by omega) (by omega) (by omega)
  unfold laws_eqValS.f
  simpa using h

theorem markText_l (d : Nat) : ∀ (n : Int) (acc : ByteArray), 0 ≤ n → n < 9223372036854775808 → n < 10 ^ d → acc.size + d ≤ 100 → ∃ r, Ev (fun k => laws_markText.l0 k n acc) r := by
  induction d with
  | zero =>
    intro n acc h0 h9 h1 ha
    refine ⟨_, Ev.step (f := fun _ => some ((⟨#[109]⟩ : ByteArray) ++ acc)) (fun k => ?_) (Ev.now _)⟩
    simp only [laws_markText.l0]; rw [if_neg (by omega), if_pos (by omega)]
  | succ d ih =>
    intro n acc h0 h9 h1 ha
    by_cases hn : n > 0
    · rw [Int.pow_succ] at h1
      obtain ⟨r, e⟩ := ih (n / 10) ((strOfNums [(wrap64 (48 + (Int.tmod n 10))) % 256]) ++ acc) (by omega) (by omega) (by omega) (by rw [ByteArray.size_append, strOfNums_size]; simp; omega)
      refine ⟨r, Ev.step (fun k => ?_) e⟩
      simp only [laws_markText.l0, Option.bind_some]
      rw [if_pos hn, if_pos (by rw [strOfNums_size]; simp; omega), Int.tdiv_eq_ediv_of_nonneg (by omega), wrap_id (n := n / 10) (by omega) (by omega)]
    · refine ⟨_, Ev.step (f := fun _ => some ((⟨#[109]⟩ : ByteArray) ++ acc)) (fun k => ?_) (Ev.now _)⟩
      simp only [laws_markText.l0]; rw [if_neg (by omega), if_pos (by omega)]
theorem markText_ev : ∃ t : Int → ByteArray, ∀ n, -9223372036854775808 ≤ n → n < 9223372036854775808 → Ev (fun k => laws_markText.f k n) (t n) := by
  have h : ∀ n : Int, ∃ t, -9223372036854775808 ≤ n → n < 9223372036854775808 → Ev (fun k => laws_markText.f k n) t := by
    intro n
    by_cases hr : -9223372036854775808 ≤ n ∧ n < 9223372036854775808
    · by_cases h0 : n ≤ 0
      · exact ⟨⟨#[109, 48]⟩, fun _ _ => by unfold laws_markText.f; simp only [if_pos h0]; exact Ev.now _⟩
      · obtain ⟨r, e⟩ := markText_l 19 n ⟨#[]⟩ (by omega) (by omega) (by omega) (by decide)
        refine ⟨r, fun _ _ => ?_⟩
        unfold laws_markText.f; simp only [if_neg h0]; exact e
    · exact ⟨⟨#[]⟩, fun a b => absurd ⟨a, b⟩ hr⟩
  exact ⟨fun n => Classical.choose (h n), fun n => Classical.choose_spec (h n)⟩

theorem rd_val (l : List S47) (i : Int) (_h0 : 0 ≤ i) (h : i.toNat < l.length) : rd_T47 l i = l[i.toNat] := by
  unfold rd_T47; simp [h]
/-- What marks leave. -/
def mkv (t : Int → ByteArray) (n : Nat) (m : Int) : List S47 := (List.range n).map fun i : Nat => ⟨m + 2 * i, t (m + 2 * i + 1)⟩
theorem mkv_len (t : Int → ByteArray) (n : Nat) (m : Int) : (mkv t n m).length = n := by simp [mkv]
theorem mkv_succ (t : Int → ByteArray) (n : Nat) (m : Int) : mkv t (n + 1) m = mkv t n m ++ [⟨m + 2 * n, t (m + 2 * n + 1)⟩] := by simp [mkv, List.range_succ]
theorem markValS_ev (t : Int → ByteArray) (ht : ∀ n, -9223372036854775808 ≤ n → n < 9223372036854775808 → Ev (fun k => laws_markText.f k n) (t n)) (a : List S47) (m : Int) (h0 : 0 ≤ m) (hm : m ≤ 1000000000000) (hn : a.length ≤ 1000000000000) :
    Ev (fun k => laws_markValS.f k a m) (m + 2 * a.length, mkv t a.length m) := by
  have key : ∀ (d : Nat) (i : Nat) (r : List S47), r.length = d → i + d = a.length → Ev (fun k => laws_markValS.l0 k (mkv t i m ++ r) (m + 2 * i) i) (m + 2 * a.length, mkv t a.length m) := by
    intro d
    induction d with
    | zero =>
      intro i r hr hd
      obtain rfl : r = [] := List.length_eq_zero_iff.1 hr
      refine Ev.step (f := fun _ => some (m + 2 * a.length, mkv t a.length m)) (fun k => ?_) (Ev.now _)
      simp only [laws_markValS.l0]; rw [if_neg (by simp [mkv_len])]
      rw [show i = a.length by omega]; simp
    | succ d ih =>
      intro i r hr hd
      have h := ih (i + 1) r.tail (by simp [hr]) (by omega)
      refine Ev.step (f := fun k => (laws_markText.f k (m + 2 * (i : Int) + 1)).bind fun t' => laws_markValS.l0 k (mkv t i m ++ [⟨m + 2 * (i : Int), t'⟩] ++ r.tail) (m + 2 * ((i + 1 : Nat) : Int)) ((i + 1 : Nat) : Int)) (fun k => ?_) ?_
      · simp only [laws_markValS.l0]
        rw [if_pos (by simp [mkv_len]; omega), if_pos (by omega)]
        simp only [Option.bind_some]
        rw [wrap_id (n := m + 2 * (i : Int) + 1) (by omega) (by omega), wrap_id (n := m + 2 * (i : Int) + 1 + 1) (by omega) (by omega), wrap_id (n := (i : Int) + 1) (by omega) (by omega)]
        rw [set_mid _ _ _ _ (by simp [mkv_len]) (by omega)]
        have hrd : rd_T47 (mkv t i m ++ [(⟨m + 2 * (i : Int), (rd_T47 (mkv t i m ++ r) i).f1⟩ : S47)] ++ r.tail) (i : Int) = ⟨m + 2 * (i : Int), (rd_T47 (mkv t i m ++ r) i).f1⟩ := by
          rw [rd_val _ _ (by omega) (by simp [mkv_len])]
          simp only [Int.toNat_natCast]
          rw [List.getElem_append_left (by simp [mkv_len]), List.getElem_append_right (by simp [mkv_len])]
          simp [mkv_len]
        rw [hrd]
        have hset : ∀ v : S47, (mkv t i m ++ [(⟨m + 2 * (i : Int), (rd_T47 (mkv t i m ++ r) i).f1⟩ : S47)] ++ r.tail).set ((i : Int)).toNat v = mkv t i m ++ [v] ++ r.tail := by
          intro v
          rw [List.append_assoc, set_mid _ _ _ _ (by simp [mkv_len]) (by simp)]; simp
        simp only [hset]
        congr 1; funext t'; congr 1; push_cast; omega
      · refine Ev.bind (ht _ (by omega) (by omega)) ?_
        rw [← mkv_succ]; exact h
  have h := key a.length 0 a rfl (by omega)
  unfold laws_markValS.f
  simpa [mkv] using h

theorem eqByteS_self (a : List Int) (hn : a.length ≤ 1000000000000000000) : Ev (fun k => laws_eqByteS.f k a a) true := by
  have key : ∀ (d : Nat) (i : Int), 0 ≤ i → i ≤ a.length → (a.length : Int) - i = d → Ev (fun k => laws_eqByteS.l0 k a a i) true := by
    intro d
    induction d with
    | zero =>
      intro i h0 h1 hd
      refine Ev.step (f := fun _ => some true) (fun k => ?_) (Ev.now _)
      simp only [laws_eqByteS.l0]; rw [if_neg (by omega)]
    | succ d ih =>
      intro i h0 h1 hd
      refine Ev.step (f := fun k => laws_eqByteS.l0 k a a (i + 1)) (fun k => ?_) (ih (i + 1) (by omega) (by omega) (by omega))
      simp only [laws_eqByteS.l0]; rw [if_pos (by omega), if_pos h0, if_pos (by omega), if_pos trivial, wrap_id (by omega) (by omega)]
  have h := key a.length 0 (by omega) (by omega) (by omega)
  unfold laws_eqByteS.f
  simpa using h

theorem markByteS_ev (a : List Int) (m : Int) (h0 : 0 ≤ m) (hm : m ≤ 1000000000000000000) (hn : a.length ≤ 1000000000000000000) :
    Ev (fun k => laws_markByteS.f k a m) (m + a.length, mk8 a.length m) := by
  have key : ∀ (d : Nat) (i : Nat) (r : List Int), r.length = d → i + d = a.length → Ev (fun k => laws_markByteS.l0 k (mk8 i m ++ r) (m + i) i) (m + a.length, mk8 a.length m) := by
    intro d
    induction d with
    | zero =>
      intro i r hr hd
      obtain rfl : r = [] := List.length_eq_zero_iff.1 hr
      refine Ev.step (f := fun _ => some (m + a.length, mk8 a.length m)) (fun k => ?_) (Ev.now _)
      simp only [laws_markByteS.l0]; rw [if_neg (by simp [mk8_len])]
      rw [show i = a.length by omega]; simp
    | succ d ih =>
      intro i r hr hd
      refine Ev.step (f := fun k => laws_markByteS.l0 k (mk8 (i + 1) m ++ r.tail) (m + (i + 1 : Nat)) (i + 1 : Nat)) (fun k => ?_) (ih (i + 1) r.tail (by simp [hr]) (by omega))
      simp only [laws_markByteS.l0]; rw [if_pos (by simp [mk8_len]; omega), if_pos (by omega), wrap_id (by omega) (by omega), wrap_id (by omega) (by omega)]
      rw [set_mid _ _ _ _ (by simp [mk8_len]) (by omega), mk8_succ]; push_cast; rw [Int.add_assoc]
  have h := key a.length 0 a rfl (by omega)
  unfold laws_markByteS.f
  simpa [mk8] using h

theorem heldByteS_ev (n : Nat) (m : Int) (h0 : 0 ≤ m) (hm : m ≤ 1000000000000000000) (hn : n ≤ 1000000000000000000) :
    Ev (fun k => laws_heldByteS.f k (mk8 n m) m) (m + n) := by
  have key : ∀ (d : Nat) (i : Nat), i + d = n → Ev (fun k => laws_heldByteS.l0 k (mk8 n m) (m + i) i) (m + n) := by
    intro d
    induction d with
    | zero =>
      intro i hd
      refine Ev.step (f := fun _ => some (m + n)) (fun k => ?_) (Ev.now _)
      simp only [laws_heldByteS.l0]; rw [if_neg (by simp [mk8_len]; omega)]
      rw [show i = n by omega]
    | succ d ih =>
      intro i hd
      refine Ev.step (f := fun k => laws_heldByteS.l0 k (mk8 n m) (m + (i + 1 : Nat)) (i + 1 : Nat)) (fun k => ?_) (ih (i + 1) (by omega))
      simp only [laws_heldByteS.l0]; rw [if_pos (by simp [mk8_len]; omega), if_pos (by omega), if_pos (by rw [rd_mk8 _ _ _ (by omega) (by omega)]), wrap_id (by omega) (by omega), wrap_id (by omega) (by omega)]
      push_cast; rw [Int.add_assoc]
  have h := key n 0 (by omega)
  unfold laws_heldByteS.f
  simpa using h

theorem FnExactPlainPack (ty : Int) (_ : (Lit.int .i64 ty).wf = true) (l : List S87) (hlen : l.length ≤ 5864062014805) (hl : lvalsOk l) : ∃ k, laws_FnExactPlainPack.f k ty l = some true := by
  refine Ev.rounds (g := fun k => laws_FnExactPlainPack.f k ty l) ?_
  unfold laws_FnExactPlainPack.f
  obtain ⟨t, ht, hsz⟩ := szValS_ev l (by omega) hl
  obtain ⟨tx, htx⟩ := markText_ev
  refine Ev.bind ht ?_
  by_cases h : t < 0
  · simp only [if_pos h]; exact Ev.now _
  simp only [if_neg h]
  have hs := hsz h
  have hs' : (l.map convV).length ≤ 1000000000000 := by simp; omega
  have e1 := spec_PlainPack_ev ty (l.map convV) (by omega)
  have e2 := impl_PlainPack_ev ty (l.map convV) (by omega)
  have hln : (ppk ty (l.map convV)).1.length ≤ 1000000000000 := by have := ppk_len ty (l.map convV); omega
  generalize ppk ty (l.map convV) = r at e1 e2 hln
  obtain ⟨b, ok⟩ := r
  have hlen' : b.length ≤ 1000000000000 := hln
  refine Ev.bind (toValS_ev l hlen) ?_
  refine Ev.bind e1 ?_
  refine Ev.bind (toValS_ev l hlen) ?_
  refine Ev.bind e2 ?_
  refine Ev.bind (eqByteS_self b (by omega)) ?_
  simp only [if_true, bne_self_eq_false]
  refine Ev.step (fun k => by simp only [laws_FnExactPlainPack.j0]; rw [if_neg (by simp)]) ?_
  refine Ev.bind (toValS_ev l hlen) ?_
  refine Ev.bind (eqValS_self _ (by omega)) ?_
  simp only [if_true]
  refine Ev.bind (markValS_ev tx htx _ 1 (by omega) (by omega) hs') ?_
  simp only [if_neg (show ¬ (1 + 2 * ((l.map convV).length : Int) < 0) by omega)]
  refine Ev.bind (eqByteS_self b (by omega)) ?_
  simp only [if_true, bne_self_eq_false]
  refine Ev.step (fun k => by simp only [laws_FnExactPlainPack.j1]; rw [if_neg (by simp)]) ?_
  refine Ev.bind (markByteS_ev b 1 (by omega) (by omega) (by omega)) ?_
  refine Ev.bind (heldByteS_ev b.length 1 (by omega) (by omega) (by omega)) ?_
  simp only [if_neg (show ¬ (1 + (b.length : Int) < 0) by omega), if_true]
  refine Ev.bind (toValS_ev l hlen) ?_
  refine Ev.bind e2 ?_
  refine Ev.bind (eqByteS_self b (by omega)) ?_
  simp only [if_true, bne_self_eq_false]
  refine Ev.step (fun k => by simp only [laws_FnExactPlainPack.j2]; rw [if_neg (by simp)]) ?_
  refine Ev.bind (heldByteS_ev b.length 1 (by omega) (by omega) (by omega)) ?_
  simp only [if_neg (show ¬ (1 + (b.length : Int) < 0) by omega), if_true]; exact Ev.now _

end Go.Proofs.Ytbiibjbhgeenoaa.Pure
