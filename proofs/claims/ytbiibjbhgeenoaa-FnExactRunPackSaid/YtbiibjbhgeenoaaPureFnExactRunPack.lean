/- RunPack answers as the reference does, for all ints. -/
import Derived.Test.YtbiibjbhgeenoaaPFnExactRunPackx7
import Derived.Test.YtbiibjbhgeenoaaCom
namespace Go.Proofs.Ytbiibjbhgeenoaa.Pure
open Go Go.RowKit Go.Proofs.Ytbiibjbhgeenoaa.PFnExactRunPack Go.Proofs.YtbiibjbhgeenoaaW.PrintWords Go.Proofs.YtbiibjbhgeenoaaW.PrintLast Go.Proofs.YtbiibjbhgeenoaaW.PrintMore Go.Proofs.Ytbiibjbhgeenoaa.Com
set_option linter.unusedVariables false
set_option linter.unusedSimpArgs false

theorem toIntS_ev (a : List Int) (hn : a.length ≤ 1000000000000) : Ev (fun k => laws_toIntS.f k a) a := by
  have key : ∀ (d : Nat) (i : Nat) (r : List Int), r.length = d → i + d = a.length → Ev (fun k => laws_toIntS.l0 k a (a.take i ++ r) i) a := by
    intro d
    induction d with
    | zero =>
      intro i r hr hd
      obtain rfl : r = [] := List.length_eq_zero_iff.1 hr
      refine Ev.step (f := fun _ => some a) (fun k => ?_) (Ev.now _)
      simp only [laws_toIntS.l0]; rw [if_neg (by omega)]
      rw [show i = a.length by omega]; simp
    | succ d ih =>
      intro i r hr hd
      refine Ev.step (f := fun k => laws_toIntS.l0 k a (a.take (i + 1) ++ r.tail) (i + 1 : Nat)) (fun k => ?_) (ih (i + 1) r.tail (by simp [hr]) (by omega))
      simp only [laws_toIntS.l0]; rw [if_pos (by omega), if_pos (by omega), if_pos (by simp; omega), wrap_id (by omega) (by omega)]
      rw [set_mid _ _ _ _ (by simp; omega) (by omega), rd_eq' _ _ (by omega) (by simp; omega)]
      rw [List.take_succ_eq_append_getElem (by omega)]; simp
  have h := key a.length 0 (List.replicate a.length 0) (by simp) (by omega)
  unfold laws_toIntS.f
  simp only [if_pos (show (0:Int) ≤ a.length by omega), if_pos (show ((a.length : Int)).toNat ≤ 35184372088832 by omega)]
  simpa using h

theorem eqIntS_self (a : List Int) (hn : a.length ≤ 1000000000000000000) : Ev (fun k => laws_eqIntS.f k a a) true := by
  have key : ∀ (d : Nat) (i : Int), 0 ≤ i → i ≤ a.length → (a.length : Int) - i = d → Ev (fun k => laws_eqIntS.l0 k a a i) true := by
    intro d
    induction d with
    | zero =>
      intro i h0 h1 hd
      refine Ev.step (f := fun _ => some true) (fun k => ?_) (Ev.now _)
      simp only [laws_eqIntS.l0]; rw [if_neg (by omega)]
    | succ d ih =>
      intro i h0 h1 hd
      refine Ev.step (f := fun k => laws_eqIntS.l0 k a a (i + 1)) (fun k => ?_) (ih (i + 1) (by omega) (by omega) (by omega))
      simp only [laws_eqIntS.l0]; rw [if_pos (by omega), if_pos h0, if_pos (by omega), if_pos trivial, wrap_id (by omega) (by omega)]
  have h := key a.length 0 (by omega) (by omega) (by omega)
  unfold laws_eqIntS.f
  simpa using h

theorem markIntS_ev (a : List Int) (m : Int) (h0 : 0 ≤ m) (hm : m ≤ 1000000000000000000) (hn : a.length ≤ 1000000000000000000) :
    Ev (fun k => laws_markIntS.f k a m) (m + a.length, mk64 a.length m) := by
  have key : ∀ (d : Nat) (i : Nat) (r : List Int), r.length = d → i + d = a.length → Ev (fun k => laws_markIntS.l0 k (mk64 i m ++ r) (m + i) i) (m + a.length, mk64 a.length m) := by
    intro d
    induction d with
    | zero =>
      intro i r hr hd
      obtain rfl : r = [] := List.length_eq_zero_iff.1 hr
      refine Ev.step (f := fun _ => some (m + a.length, mk64 a.length m)) (fun k => ?_) (Ev.now _)
      simp only [laws_markIntS.l0]; rw [if_neg (by simp [mk64_len])]
      rw [show i = a.length by omega]; simp
    | succ d ih =>
      intro i r hr hd
      refine Ev.step (f := fun k => laws_markIntS.l0 k (mk64 (i + 1) m ++ r.tail) (m + (i + 1 : Nat)) (i + 1 : Nat)) (fun k => ?_) (ih (i + 1) r.tail (by simp [hr]) (by omega))
      simp only [laws_markIntS.l0]; rw [if_pos (by simp [mk64_len]; omega), if_pos (by omega), wrap_id (by omega) (by omega), wrap_id (by omega) (by omega)]
      rw [set_mid _ _ _ _ (by simp [mk64_len]) (by omega), mk64_succ]; push_cast; rw [Int.add_assoc]
  have h := key a.length 0 a rfl (by omega)
  unfold laws_markIntS.f
  simpa [mk64] using h

theorem eqByteS_self (a : List Int) (hn : a.length ≤ 1000000000000000000) : Ev (fun k => laws_eqByteS.f k a a) true := by
  have key : ∀ (d : Nat) (i : Int), 0 ≤ i → i ≤ a.length → (a.length : Int) - i = d → Ev (fun k => laws_eqByteS.l0 k a a i) true := by
    intro d
    induction d with
    | zero =>
      intro i h0 h1 hd
      refine Ev.step (f := fun _ => some true) (fun k => ?_) (Ev.now _)
      simp only [laws_eqByteS.l0]; rw [if_neg (by omega)]
    | succ d ih =>
      intro i h0 h1 hd
      refine Ev.step (f := fun k => laws_eqByteS.l0 k a a (i + 1)) (fun k => ?_) (ih (i + 1) (by omega) (by omega) (by omega))
      simp only [laws_eqByteS.l0]; rw [if_pos (by omega), if_pos h0, if_pos (by omega), if_pos trivial, wrap_id (by omega) (by omega)]
  have h := key a.length 0 (by omega) (by omega) (by omega)
  unfold laws_eqByteS.f
  simpa using h

theorem markByteS_ev (a : List Int) (m : Int) (h0 : 0 ≤ m) (hm : m ≤ 1000000000000000000) (hn : a.length ≤ 1000000000000000000) :
    Ev (fun k => laws_markByteS.f k a m) (m + a.length, mk8 a.length m) := by
  have key : ∀ (d : Nat) (i : Nat) (r : List Int), r.length = d → i + d = a.length → Ev (fun k => laws_markByteS.l0 k (mk8 i m ++ r) (m + i) i) (m + a.length, mk8 a.length m) := by
    intro d
    induction d with
    | zero =>
      intro i r hr hd
      obtain rfl : r = [] := List.length_eq_zero_iff.1 hr
      refine Ev.step (f := fun _ => some (m + a.length, mk8 a.length m)) (fun k => ?_) (Ev.now _)
      simp only [laws_markByteS.l0]; rw [if_neg (by simp [mk8_len])]
      rw [show i = a.length by omega]; simp
    | succ d ih =>
      intro i r hr hd
      refine Ev.step (f := fun k => laws_markByteS.l0 k (mk8 (i + 1) m ++ r.tail) (m + (i + 1 : Nat)) (i + 1 : Nat)) (fun k => ?_) (ih (i + 1) r.tail (by simp [hr]) (by omega))
      simp only [laws_markByteS.l0]; rw [if_pos (by simp [mk8_len]; omega), if_pos (by omega), wrap_id (by omega) (by omega), wrap_id (by omega) (by omega)]
      rw [set_mid _ _ _ _ (by simp [mk8_len]) (by omega), mk8_succ]; push_cast; rw [Int.add_assoc]
  have h := key a.length 0 a rfl (by omega)
  unfold laws_markByteS.f
  simpa [mk8] using h

/-- How many numbers from a on are alike; and the groups behind. -/
def alkF (l : List Int) (a : Nat) : Nat → Nat → Nat
  | 0, n => n
  | d + 1, n => if a + n < l.length ∧ rd l ((a + n : Nat) : Int) = rd l (a : Int) then alkF l a d (n + 1) else n
def alk (l : List Int) (a : Nat) : Nat := alkF l a l.length 0
theorem alkF_ge (l : List Int) (a : Nat) : ∀ d n, n ≤ alkF l a d n := by
  intro d
  induction d with
  | zero => intro n; exact Nat.le_refl _
  | succ d ih =>
    intro n; unfold alkF
    split
    · have := ih (n + 1); omega
    · exact Nat.le_refl _
theorem alkF_le (l : List Int) (a : Nat) : ∀ d n, a + n ≤ l.length → a + alkF l a d n ≤ l.length := by
  intro d
  induction d with
  | zero => intro n h; exact h
  | succ d ih =>
    intro n h; unfold alkF
    split
    · rename_i hc; exact ih (n + 1) (by omega)
    · exact h
theorem alkF_same (l : List Int) (a : Nat) : ∀ d n, (∀ j, j < n → rd l ((a + j : Nat) : Int) = rd l a) → ∀ j, j < alkF l a d n → rd l ((a + j : Nat) : Int) = rd l a := by
  intro d
  induction d with
  | zero => intro n h; exact h
  | succ d ih =>
    intro n h; unfold alkF
    split
    · rename_i hc
      refine ih (n + 1) ?_
      intro j hj
      by_cases hjn : j < n
      · exact h j hjn
      · rw [show j = n by omega]; exact hc.2
    · exact h
theorem alk_le (l : List Int) (a : Nat) (h : a ≤ l.length) : a + alk l a ≤ l.length := alkF_le l a _ 0 (by omega)
theorem alk_same (l : List Int) (a : Nat) : ∀ j, j < alk l a → rd l ((a + j : Nat) : Int) = rd l a := alkF_same l a _ 0 (by omega)
theorem impl_alikeFrom_ev (l : List Int) (a : Nat) (hlen : l.length ≤ 1000000000) (ha : a < 2000000000) : Ev (fun k => impl_alikeFrom.f k l a) (alk l a) := by
  have key : ∀ (d n : Nat), l.length < a + n + (d + 1) → n ≤ 1000000000 → Ev (fun k => impl_alikeFrom.l0 k l a n) (alkF l a d n) := by
    intro d
    induction d with
    | zero =>
      intro n h hn
      refine Ev.step (f := fun _ => some (n : Int)) (fun k => ?_) (Ev.now _)
      simp only [impl_alikeFrom.l0]
      rw [wrap_id (n := (a : Int) + n) (by omega) (by omega), if_neg (by omega)]
    | succ d ih =>
      intro n h hn
      unfold alkF
      by_cases h1 : a + n < l.length
      · by_cases h2 : rd l ((a + n : Nat) : Int) = rd l (a : Int)
        · rw [if_pos ⟨h1, h2⟩]
          refine Ev.step (fun k => ?_) (ih (n + 1) (by omega) (by omega))
          simp only [impl_alikeFrom.l0]
          rw [wrap_id (n := (a : Int) + n) (by omega) (by omega), if_pos (by omega), if_pos (by omega), if_pos (by omega), if_pos (by omega), show ((a : Int) + n) = ((a + n : Nat) : Int) by omega, if_pos h2, wrap_id (n := (n : Int) + 1) (by omega) (by omega)]; push_cast; rfl
        · rw [if_neg (fun h => h2 h.2)]
          refine Ev.step (f := fun _ => some (n : Int)) (fun k => ?_) (Ev.now _)
          simp only [impl_alikeFrom.l0]
          rw [wrap_id (n := (a : Int) + n) (by omega) (by omega), if_pos (by omega), if_pos (by omega), if_pos (by omega), if_pos (by omega), show ((a : Int) + n) = ((a + n : Nat) : Int) by omega, if_neg h2]
      · rw [if_neg (fun h => h1 h.1)]
        refine Ev.step (f := fun _ => some (n : Int)) (fun k => ?_) (Ev.now _)
        simp only [impl_alikeFrom.l0]
        rw [wrap_id (n := (a : Int) + n) (by omega) (by omega), if_neg (by omega)]
  exact key l.length 0 (by omega) (by omega)
def grpF (l : List Int) (a : Nat) : Nat → Nat → Nat
  | 0, g => g
  | d + 1, g => if a + 8 * g < l.length ∧ alk l (a + 8 * g) < 8 then grpF l a d (g + 1) else g
def grp (l : List Int) (a : Nat) : Nat := grpF l a l.length 1
theorem grpF_ge (l : List Int) (a : Nat) : ∀ d g, g ≤ grpF l a d g := by
  intro d
  induction d with
  | zero => intro n; exact Nat.le_refl _
  | succ d ih =>
    intro n; unfold grpF
    split
    · have := ih (n + 1); omega
    · exact Nat.le_refl _
theorem grpF_le (l : List Int) (a : Nat) : ∀ d g, a + 8 * g < l.length + 8 → a + 8 * grpF l a d g < l.length + 8 := by
  intro d
  induction d with
  | zero => intro g h; exact h
  | succ d ih =>
    intro g h; unfold grpF
    split
    · rename_i hc; exact ih (g + 1) (by omega)
    · exact h
theorem grp_ge (l : List Int) (a : Nat) : 1 ≤ grp l a := grpF_ge l a _ 1
theorem grp_le (l : List Int) (a : Nat) (h : a < l.length) : a + 8 * grp l a < l.length + 8 := grpF_le l a _ 1 (by omega)
/-- Numbers from a place on, zeros behind the last. -/
def pad (l : List Int) (a m : Nat) : List Int := (List.range m).map fun i : Nat => rd l ((a + i : Nat) : Int)
theorem pad_len (l : List Int) (a m : Nat) : (pad l a m).length = m := by simp [pad]
theorem rd_out (l : List Int) (i : Nat) (h : l.length ≤ i) : rd l (i : Int) = 0 := by
  unfold rd; simp [h]
theorem pad_copy (l : List Int) (a m : Nat) (h : a ≤ l.length) :
    (l.drop a).take (min (l.drop a).length m) ++ (List.replicate m (0 : Int)).drop (min (l.drop a).length m) = pad l a m := by
  apply List.ext_getElem
  · simp [pad]; omega
  · intro i h1 h2
    rw [pad_len] at h2
    simp only [pad, List.getElem_map, List.getElem_range]
    rw [List.getElem_append]
    split
    · rename_i hi
      simp only [List.length_take, List.length_drop] at hi
      rw [List.getElem_take, List.getElem_drop, rd_eq l (a + i) (by omega)]
    · rename_i hi
      simp only [List.length_take, List.length_drop] at hi
      rw [List.getElem_drop, List.getElem_replicate, rd_out l (a + i) (by omega)]
/-- What RunPack writes from a on. -/
def rpkF (l : List Int) (w : Nat) : Nat → Nat → List Int
  | 0, _ => []
  | f + 1, a =>
    if a < l.length then
      if 8 ≤ alk l a then uvb (2 * alk l a) ++ wbytes (rd l (a : Int)) ((w + 7) / 8) ++ rpkF l w f (a + alk l a)
      else uvb (2 * grp l a + 1) ++ packB (pad l a (8 * grp l a)) w ++ rpkF l w f (a + 8 * grp l a)
    else []
theorem rpkF_succ (l : List Int) (w f a : Nat) : rpkF l w (f + 1) a = if a < l.length then
      if 8 ≤ alk l a then uvb (2 * alk l a) ++ wbytes (rd l (a : Int)) ((w + 7) / 8) ++ rpkF l w f (a + alk l a)
      else uvb (2 * grp l a + 1) ++ packB (pad l a (8 * grp l a)) w ++ rpkF l w f (a + 8 * grp l a)
    else [] := rfl
/-- What RunPack answers. -/
def rpk (l : List Int) (w : Int) : List Int × Bool := if l.length ≤ 2000 ∧ 0 ≤ w ∧ w ≤ 24 ∧ ∀ n ∈ l, 0 ≤ n ∧ (blen n.toNat : Int) ≤ w then (rpkF l w.toNat (l.length + 1) 0, true) else ([], false)
theorem rpkF_len (l : List Int) (w : Nat) (hw : w ≤ 24) (hlen : l.length ≤ 2000) : ∀ (f a : Nat), (rpkF l w f a).length + 40 * a ≤ 40 * l.length + 320 ∨ rpkF l w f a = [] := by
  intro f
  induction f with
  | zero => intro a; right; rfl
  | succ f ih =>
    intro a
    rw [rpkF_succ]
    by_cases ha : a < l.length
    · left
      rw [if_pos ha]
      by_cases h8 : 8 ≤ alk l a
      · rw [if_pos h8]
        have hal := alk_le l a (by omega)
        have h1 := uvb_len10 (2 * alk l a) (by omega)
        rcases ih (a + alk l a) with h | h
        · simp only [List.length_append, wbytes_len]; omega
        · rw [h]; simp only [List.length_append, wbytes_len, List.length_nil]; omega
      · rw [if_neg h8]
        have hgl := grp_le l a ha
        have hgg := grp_ge l a
        have h1 := uvb_len10 (2 * grp l a + 1) (by omega)
        have hm : 8 * grp l a * w ≤ 8 * grp l a * 24 := Nat.mul_le_mul_left _ hw
        rcases ih (a + 8 * grp l a) with h | h
        · simp only [List.length_append, packB_len, pad_len]; omega
        · rw [h]; simp only [List.length_append, packB_len, pad_len, List.length_nil]; omega
    · right; rw [if_neg ha]
theorem rpkF_wf (l : List Int) (w : Nat) : ∀ (f a : Nat), ∀ x ∈ rpkF l w f a, (Lit.int .u8 x).wf = true := by
  intro f
  induction f with
  | zero => intro a x hx; cases hx
  | succ f ih =>
    intro a x hx
    rw [rpkF_succ] at hx
    split at hx
    · split at hx
      · rcases List.mem_append.1 hx with hx | hx
        · rcases List.mem_append.1 hx with hx | hx
          · exact uvb_wf _ _ hx
          · exact wbytes_wf _ _ _ hx
        · exact ih _ _ hx
      · rcases List.mem_append.1 hx with hx | hx
        · rcases List.mem_append.1 hx with hx | hx
          · exact uvb_wf _ _ hx
          · exact packB_wf _ _ _ hx
        · exact ih _ _ hx
    · cases hx
theorem ux_nat (n : Nat) (h : n < 18446744073709551616) : ux (n : Int) = n := by unfold ux; omega
theorem app4 (a b c d : List Int) : a ++ b ++ c ++ d = a ++ (b ++ c ++ d) := by simp only [List.append_assoc]
/-- Two parts written behind each other; the bound is any number (a kernel that meets the number itself under a bind runs out of memory). -/
theorem ev_app {β : Type} {g1 g2 : Nat → Option (List Int)} {u q : List Int} {acc : List Int} {F : Nat → List Int → Option β} {R : β} {B : Nat} (e : Ev g1 u) (e2 : Ev g2 q) (h1 : acc.length + u.length < B) (h2 : (acc ++ u).length + q.length < B) (h : Ev (fun k => F k (acc ++ u ++ q)) R) :
    Ev (fun k => (g1 k).bind fun t => (if acc.length + t.length < B then ((some (acc ++ t : List Int)).bind fun y => ((g2 k).bind fun t2 => (if y.length + t2.length < B then F k (y ++ t2) else none))) else none)) R := by
  refine Ev.bind e ?_
  simp only [if_pos h1, Option.bind_some]
  refine Ev.bind e2 ?_
  simp only [if_pos h2]
  exact h
theorem ev_if {α : Type} {c : Prop} [Decidable c] {g f : Nat → Option α} {R : α} (hc : c) (h : Ev g R) : Ev (fun k => if c then g k else f k) R := by
  simp only [if_pos hc]; exact h

theorem spec_l8Bits_ev (l : List Int) (v : Nat) (hw : v ≤ 62) (hlen : l.length ≤ 100000) : Ev (fun k => spec_l8Bits.f k l v) (packB l v) := by
  unfold spec_l8Bits.f
  have hmul : l.length * v ≤ 100000 * 62 := Nat.mul_le_mul hlen hw
  have hmulc : ((l.length : Int) * (v : Int)) = ((l.length * v : Nat) : Int) := by push_cast; rfl
  rw [hmulc, wrap_id (n := ((l.length * v : Nat) : Int)) (by omega) (by omega), wrap_id (n := ((l.length * v : Nat) : Int) + 7) (by omega) (by omega), Int.tdiv_eq_ediv_of_nonneg (by omega), wrap_id (n := (((l.length * v : Nat) : Int) + 7) / 8) (by omega) (by omega)]
  simp only [if_pos (show (0 : Int) ≤ (((l.length * v : Nat) : Int) + 7) / 8 by omega), if_pos (show ((((l.length * v : Nat) : Int) + 7) / 8).toNat ≤ 281474976710656 by omega)]
  have einner : ∀ (d i j : Nat), i < l.length → j + d = v →
      ∀ R : List Int, Ev (fun k => spec_l8Bits.l0 k l v (bofB (upTo (pbit l v) ((i + 1) * v)) ((l.length * v + 7) / 8)) ((i + 1 : Nat) : Int)) R →
      Ev (fun k => spec_l8Bits.l1 k l v (bofB (upTo (pbit l v) (i * v + j)) ((l.length * v + 7) / 8)) i j) R := by
    intro d
    induction d with
    | zero =>
      intro i j hi hj R h
      refine Ev.step (fun k => ?_) h
      simp only [spec_l8Bits.l1]
      rw [if_neg (by omega), wrap_id (n := (i : Int) + 1) (by omega) (by omega), show j = v by omega, Nat.succ_mul]
      push_cast; rfl
    | succ d ih =>
      intro i j hi hj R h
      have hP : i * v + j < l.length * v := by
        have : (i + 1) * v ≤ l.length * v := Nat.mul_le_mul_right v hi
        rw [Nat.succ_mul] at this; omega
      have hc' : ((i * v : Nat) : Int) = (i : Int) * v := by push_cast; rfl
      have hst := byteOf_step (pbit_bits l v) ((i * v + j) / 8) ((i * v + j) % 8) (by omega)
      rw [show 8 * ((i * v + j) / 8) + (i * v + j) % 8 = i * v + j by omega] at hst
      have hbits := pbit_bits l v (i * v + j)
      have hb : Go.bits .and .i64 (shr .i64 (rd l i) j) 1 = pbit l v (i * v + j) := by
        rw [and_one, shr64 _ _ (by omega) (by omega), pbit_at l v i j (by omega)]; rfl
      refine Ev.step (fun k => ?_) (ih i (j + 1) hi (by omega) R h)
      simp only [spec_l8Bits.l1]
      rw [if_pos (show (j : Int) < v by omega), if_pos (show (0 : Int) ≤ i by omega), if_pos (show (i : Int) < l.length by omega), if_pos (show (0 : Int) ≤ j by omega), hb, wrap_id (n := (j : Int) + 1) (by omega) (by omega)]
      by_cases h1 : pbit l v (i * v + j) = 1
      · rw [if_pos h1, ← hc', wrap_id (n := ((i * v : Nat) : Int)) (by omega) (by omega), wrap_id (n := ((i * v : Nat) : Int) + j) (by omega) (by omega)]
        rw [Int.tdiv_eq_ediv_of_nonneg (by omega), Int.tmod_eq_emod_of_nonneg (by omega), wrap_id (n := (((i * v : Nat) : Int) + j) / 8) (by omega) (by omega)]
        rw [if_pos (by omega), if_pos (by rw [bofB_len]; omega), if_pos (by omega)]
        rw [shl8 _ _ (by omega) (by omega) (Or.inr rfl), rd_bofB _ _ _ (by omega) (by omega)]
        rw [show ((((i * v : Nat) : Int) + j) % 8).toNat = (i * v + j) % 8 by omega, show ((((i * v : Nat) : Int) + j) / 8).toNat = (i * v + j) / 8 by omega]
        rw [h1] at hst
        rw [or8 _ _ _ (by omega) hst.1 hst.2.1 (Or.inr rfl), ← hst.2.2, bofB_set _ _ _ _ rfl]
        push_cast; rfl
      · rw [if_neg h1]
        have h0 : pbit l v (i * v + j) = 0 := by omega
        have e : bofB (upTo (pbit l v) (i * v + (j + 1))) ((l.length * v + 7) / 8) = bofB (upTo (pbit l v) (i * v + j)) ((l.length * v + 7) / 8) := by
          have hs := bofB_set (pbit l v) (i * v + j) ((l.length * v + 7) / 8) _ rfl
          rw [hst.2.2, h0] at hs
          rw [← Nat.add_assoc, ← hs]
          apply List.ext_getElem
          · simp
          · intro n h3 h4
            rw [List.getElem_set]
            by_cases hn : (i * v + j) / 8 = n
            · rw [if_pos hn]; subst hn; simp [bofB]
            · rw [if_neg hn]
        rw [e]; push_cast; rfl
  have outer : ∀ (d i : Nat), i + d = l.length → Ev (fun k => spec_l8Bits.l0 k l v (bofB (upTo (pbit l v) (i * v)) ((l.length * v + 7) / 8)) i) (packB l v) := by
    intro d
    induction d with
    | zero =>
      intro i hi
      refine Ev.step (f := fun _ => some (packB l v)) (fun k => ?_) (Ev.now _)
      simp only [spec_l8Bits.l0]; rw [if_neg (by omega), show i = l.length by omega]; rfl
    | succ d ih =>
      intro i hi
      refine Ev.step (f := fun k => spec_l8Bits.l1 k l v (bofB (upTo (pbit l v) (i * v)) ((l.length * v + 7) / 8)) i 0) (fun k => ?_) ?_
      · simp only [spec_l8Bits.l0]; rw [if_pos (by omega)]
      · exact einner v i 0 (by omega) (by omega) _ (ih (i + 1) (by omega))
  have h := outer l.length 0 (by omega)
  rw [show ((((l.length * v : Nat) : Int) + 7) / 8).toNat = (l.length * v + 7) / 8 by omega, bofB_zero (pbit l v)]
  simpa using h

theorem spec_l2Down7 (a : Int) : spec_l2Down.f a 7 = some (a / 128 % 144115188075855872) := by
  unfold spec_l2Down.f
  rw [if_neg (by decide), if_pos (by decide), if_pos (by unfold wrap64; omega)]
  rw [shr64 _ _ (by decide) (by decide), show (wrap64 (64 - 7)) = 57 by unfold wrap64; omega, shl64 _ _ (by decide) (by decide)]
  rw [show wrap64 (wrap64 (1 * 2 ^ (57 : Int).toNat) - 1) = 2 ^ 57 - 1 by decide +kernel, and_mask _ 57 (by decide)]
  rfl

theorem spec_UvarPut_l (j : Nat) : ∀ (x : Int) (acc : List Int), -9223372036854775808 ≤ x → x < 9223372036854775808 → ux x < 128 ^ (j + 1) → acc.length + j ≤ 100000000000 →
    Ev (fun k => spec_UvarPut.l0 k x acc) (acc ++ uvb (ux x)) := by
  induction j with
  | zero =>
    intro x acc h0 h1 hx hl
    have hx' : ux x < 128 := by simpa using hx
    refine Ev.step (f := fun _ => some (acc ++ uvb (ux x))) (fun k => ?_) (Ev.now _)
    simp only [spec_UvarPut.l0, spec_l2Down7, Option.bind_some]
    rw [uvb, if_pos hx']
    unfold ux at hx' ⊢
    rw [if_pos (by omega), if_pos (by omega)]
    congr 3; omega
  | succ j ih =>
    intro x acc h0 h1 hx hl
    by_cases hs : ux x < 128
    · refine Ev.step (f := fun _ => some (acc ++ uvb (ux x))) (fun k => ?_) (Ev.now _)
      simp only [spec_UvarPut.l0, spec_l2Down7, Option.bind_some]
      rw [uvb, if_pos hs]
      unfold ux at hs ⊢
      rw [if_pos (by omega), if_pos (by omega)]
      congr 3; omega
    · have e : ux (x / 128 % 144115188075855872) = ux x / 128 := by unfold ux; omega
      have hd : ux x / 128 < 128 ^ (j + 1) := by rw [Nat.div_lt_iff_lt_mul (by decide)]; rw [Nat.pow_succ] at hx; exact hx
      have h := ih (x / 128 % 144115188075855872) (acc ++ [((ux x % 128 + 128 : Nat) : Int)]) (by omega) (by omega) (by rw [e]; exact hd) (by simp; omega)
      rw [e, List.append_assoc, List.singleton_append] at h
      rw [uvb, if_neg hs]
      refine Ev.step (fun k => ?_) h
      simp only [spec_UvarPut.l0, spec_l2Down7, Option.bind_some]
      unfold ux at hs
      rw [if_neg (by omega), if_pos (by omega)]
      have e2 : (wrap64 (Go.bits .and .i64 x 127 + 128)) % 256 = ((ux x % 128 + 128 : Nat) : Int) := by
        rw [show Go.bits .and .i64 x 127 = x % 128 from and_mask x 7 (by decide), wrap_id (by omega) (by omega)]; unfold ux; omega
      rw [e2]
theorem spec_UvarPut_ev (x : Int) (h0 : -9223372036854775808 ≤ x) (h1 : x < 9223372036854775808) : Ev (fun k => spec_UvarPut.f k x) (uvb (ux x)) := by
  have h := spec_UvarPut_l 9 x [] h0 h1 (Nat.lt_of_lt_of_le (ux_lt x) (by decide)) (by simp)
  simpa [spec_UvarPut.f] using h

theorem spec_WordPut_ev (x : Int) (n : Int) (h : n < 9223372036854775808) : Ev (fun k => spec_WordPut.f k x n) (if 1 ≤ n ∧ n ≤ 8 then wbytes x n.toNat else []) := by
  unfold spec_WordPut.f
  by_cases hn : 1 ≤ n ∧ n ≤ 8
  · have key : ∀ (d : Nat) (i : Nat), (i : Int) + d = n → Ev (fun k => spec_WordPut.l0 k x n (wbytes x i) i) (wbytes x n.toNat) := by
      intro d
      induction d with
      | zero =>
        intro i hd
        refine Ev.step (f := fun _ => some (wbytes x n.toNat)) (fun k => ?_) (Ev.now _)
        simp only [spec_WordPut.l0]; rw [if_neg (by omega), show n.toNat = i by omega]
      | succ d ih =>
        intro i hd
        refine Ev.step (f := fun k => spec_WordPut.l0 k x n (wbytes x (i + 1)) (i + 1 : Nat)) (fun k => ?_) (ih (i + 1) (by omega))
        simp only [spec_WordPut.l0, spec_l1In.f]
        rw [if_pos (by omega), if_pos (by omega), Option.bind_some, if_pos (by simp; omega), wrap_id (n := 8 * (i : Int)) (by omega) (by omega), if_pos (by omega), if_pos (by rw [wbytes_len]; omega), wrap_id (by omega) (by omega), shr64 _ _ (by omega) (by omega), wbytes_succ, show (8 * (i : Int)).toNat = 8 * i by omega]
        push_cast; rfl
    have h := key n.toNat 0 (by omega)
    rw [if_pos hn]
    simpa [wbytes] using h
  · rw [if_neg hn]
    refine Ev.step (f := fun _ => some []) (fun k => ?_) (Ev.now _)
    simp only [spec_WordPut.l0, spec_l1In.f]
    by_cases h0 : 0 < n
    · rw [if_pos h0, if_pos (by omega), Option.bind_some, if_neg (by simp; omega)]
    · rw [if_neg h0]

theorem spec_l1In_ev (x a b : Int) : spec_l1In.f x a b = some (decide (a ≤ x ∧ x ≤ b)) := by
  unfold spec_l1In.f
  by_cases h : x ≥ a
  · rw [if_pos h]; congr 1; simp [show a ≤ x from h]
  · rw [if_neg h]; congr 1; simp [show ¬ a ≤ x from h]

theorem spec_BitsSize_ev (n w : Int) : spec_BitsSize.f n w = some (if 0 ≤ n ∧ n ≤ 2000 ∧ 0 ≤ w ∧ w ≤ 62 then (n * w + 7) / 8 else -1) := by
  unfold spec_BitsSize.f
  simp only [spec_l1In_ev, Option.bind_some]
  by_cases h1 : 0 ≤ n ∧ n ≤ 2000
  · simp only [decide_eq_true h1, if_true]
    by_cases h2 : 0 ≤ w ∧ w ≤ 62
    · simp only [decide_eq_true h2, if_true]
      have hm0 : 0 ≤ n * w := Int.mul_nonneg h1.1 h2.1
      have hm : n * w ≤ 2000 * 62 := Int.mul_le_mul h1.2 h2.2 h2.1 (by omega)
      rw [if_pos ⟨h1.1, h1.2, h2.1, h2.2⟩, wrap_id (n := n * w) (by omega) (by omega), wrap_id (n := n * w + 7) (by omega) (by omega), Int.tdiv_eq_ediv_of_nonneg (by omega), wrap_id (by omega) (by omega)]
    · simp only [decide_eq_false h2, Bool.false_eq_true, if_false]
      rw [if_neg (fun h => h2 h.2.2)]
  · simp only [decide_eq_false h1, Bool.false_eq_true, if_false]
    rw [if_neg (fun h => h1 ⟨h.1, h.2.1⟩)]

theorem shr_zero_iff (n : Int) (w : Nat) (h0 : 0 ≤ n) (hw : w ≤ 62) : (shr .i64 n w != 0) = !decide ((blen n.toNat : Int) ≤ w) := by
  rw [shr64 _ _ (by omega) (by omega), show (w : Int).toNat = w by omega]
  have hp : (0 : Int) < 2 ^ w := Int.pow_pos (by decide)
  have hc : ((2 ^ w : Nat) : Int) = 2 ^ w := by simp
  by_cases h : (blen n.toNat : Int) ≤ w
  · rw [decide_eq_true h]
    have := (blen_le n.toNat w).1 (by omega)
    have hlt : n < 2 ^ w := by rw [← hc]; omega
    rw [Int.ediv_eq_zero_of_lt h0 hlt]; rfl
  · rw [decide_eq_false h]
    have : ¬ n.toNat < 2 ^ w := fun hh => h (by have := (blen_le n.toNat w).2 hh; omega)
    have hge : (2 : Int) ^ w ≤ n := by rw [← hc]; omega
    have : 1 ≤ n / 2 ^ w := by rw [Int.le_ediv_iff_mul_le hp]; omega
    simp; omega

theorem spec_l8Alike_ev (l : List Int) (a : Nat) (hlen : l.length ≤ 1000000000) (ha : a < 2000000000) : Ev (fun k => spec_l8Alike.f k l a) (alk l a) := by
  have key : ∀ (d n : Nat), l.length < a + n + (d + 1) → n ≤ 1000000000 → Ev (fun k => spec_l8Alike.l0 k l a n) (alkF l a d n) := by
    intro d
    induction d with
    | zero =>
      intro n h hn
      refine Ev.step (f := fun _ => some (n : Int)) (fun k => ?_) (Ev.now _)
      simp only [spec_l8Alike.l0]
      rw [wrap_id (n := (a : Int) + n) (by omega) (by omega), if_neg (by omega)]
    | succ d ih =>
      intro n h hn
      unfold alkF
      by_cases h1 : a + n < l.length
      · by_cases h2 : rd l ((a + n : Nat) : Int) = rd l (a : Int)
        · rw [if_pos ⟨h1, h2⟩]
          refine Ev.step (fun k => ?_) (ih (n + 1) (by omega) (by omega))
          simp only [spec_l8Alike.l0]
          rw [wrap_id (n := (a : Int) + n) (by omega) (by omega), if_pos (by omega), if_pos (by omega), if_pos (by omega), if_pos (by omega), show ((a : Int) + n) = ((a + n : Nat) : Int) by omega, if_pos h2, wrap_id (n := (n : Int) + 1) (by omega) (by omega)]; push_cast; rfl
        · rw [if_neg (fun h => h2 h.2)]
          refine Ev.step (f := fun _ => some (n : Int)) (fun k => ?_) (Ev.now _)
          simp only [spec_l8Alike.l0]
          rw [wrap_id (n := (a : Int) + n) (by omega) (by omega), if_pos (by omega), if_pos (by omega), if_pos (by omega), if_pos (by omega), show ((a : Int) + n) = ((a + n : Nat) : Int) by omega, if_neg h2]
      · rw [if_neg (fun h => h1 h.1)]
        refine Ev.step (f := fun _ => some (n : Int)) (fun k => ?_) (Ev.now _)
        simp only [spec_l8Alike.l0]
        rw [wrap_id (n := (a : Int) + n) (by omega) (by omega), if_neg (by omega)]
  exact key l.length 0 (by omega) (by omega)
theorem pad_succ (l : List Int) (a m : Nat) : pad l a (m + 1) = pad l a m ++ [rd l ((a + m : Nat) : Int)] := by simp [pad, List.range_succ]
theorem ih_cast (a b : Nat) : ((a + b : Nat) : Int) = (a : Int) + (b : Int) := by push_cast; rfl
theorem spec_RunPack_a (l : List Int) (w : Nat) (hw : w ≤ 24) (a n : Nat) (hn : n ≤ 2000) (hal : a ≤ 2000) (acc : List Int) (hacc : acc.length ≤ 100000) (R : List Int × Bool)
    (h : Ev (fun k => spec_RunPack.l1 k l w (acc ++ uvb (2 * n) ++ wbytes (rd l (a : Int)) ((w + 7) / 8)) ((a + n : Nat) : Int)) R) :
    Ev (fun k => (spec_UvarPut.f k (wrap64 (2 * (n : Int)))).bind fun t155 => (if acc.length + t155.length < 140737488355328 then ((some (acc ++ t155 : List Int)).bind fun y158 => (if (w : Int) > 0 then (if 0 ≤ (a : Int) then ((spec_BitsSize.f 1 w).bind fun t162 => ((spec_WordPut.f k (rd l a) t162).bind fun t163 => (if y158.length + t163.length < 140737488355328 then (spec_RunPack.l1 k l w (y158 ++ t163) (wrap64 ((a : Int) + n))) else (none)))) else (none)) else (spec_RunPack.l1 k l w y158 (wrap64 ((a : Int) + n))))) else (none))) R := by
  rw [ih_cast] at h
  rw [wrap_id (n := 2 * (n : Int)) (by omega) (by omega), wrap_id (n := (a : Int) + n) (by omega) (by omega)]
  have h10 := uvb_len10 (2 * n) (by omega)
  refine Ev.bind (spec_UvarPut_ev _ (by omega) (by omega)) ?_
  rw [show ux (2 * (n : Int)) = 2 * n by unfold ux; omega]
  generalize uvb (2 * n) = u at h h10 ⊢
  simp only [if_pos (show acc.length + u.length < 140737488355328 by omega), Option.bind_some]
  by_cases h0 : w = 0
  · subst h0
    simp only [if_neg (show ¬ ((0 : Nat) : Int) > 0 by omega)]
    rw [show (0 + 7) / 8 = 0 from rfl, show wbytes (rd l (a : Int)) 0 = [] from rfl, List.append_nil] at h
    exact h
  · simp only [if_pos (show (w : Int) > 0 by omega), if_pos (show (0 : Int) ≤ a by omega), spec_BitsSize_ev, Option.bind_some]
    rw [if_pos (show 0 ≤ (1 : Int) ∧ (1 : Int) ≤ 2000 ∧ 0 ≤ (w : Int) ∧ (w : Int) ≤ 62 by omega), show ((1 : Int) * w + 7) / 8 = (((w + 7) / 8 : Nat) : Int) by omega]
    refine Ev.bind (spec_WordPut_ev _ _ (by omega)) ?_
    rw [if_pos (by omega), show (((w + 7) / 8 : Nat) : Int).toNat = (w + 7) / 8 by omega]
    simp only [if_pos (show (acc ++ u).length + (wbytes (rd l (a : Int)) ((w + 7) / 8)).length < 140737488355328 by rw [List.length_append, wbytes_len]; omega)]
    exact h
theorem spec_RunPack_fin (l : List Int) (w : Nat) (hw : w ≤ 24) (b g m : Nat) (hg : g ≤ 2000) (hmg : m = 2 * g + 1) (p : List Int) (hp : p.length = 8 * g) (acc : List Int) (hacc : acc.length ≤ 100000) (R : List Int × Bool)
    (h : Ev (fun k => spec_RunPack.l1 k l w (acc ++ uvb m ++ packB p w) b) R) :
    Ev (fun k => spec_RunPack.j4 k l w acc b p false) R := by
  have hm : 8 * g * w ≤ 16000 * 24 := Nat.mul_le_mul (by omega) hw
  have hml : m ≤ 4001 := by omega
  have hmi : 2 * (g : Int) + 1 = (m : Int) := by omega
  have h10 := uvb_len10 m (Nat.lt_of_le_of_lt hml (by decide))
  have hs : (p.length : Int) / 8 = (g : Int) := by omega
  have hpl : (packB p w).length ≤ 100000 := by rw [packB_len, hp]; omega
  have hpl2 : p.length ≤ 100000 := by omega
  clear hp hm hmg
  have hux : ux (m : Int) = m := ux_nat m (Nat.lt_of_le_of_lt hml (by decide))
  have e := spec_UvarPut_ev (m : Int) (by omega) (by omega)
  have e2 := spec_l8Bits_ev p w (by omega) hpl2
  rw [hux] at e
  generalize uvb m = u at h h10 e
  generalize packB p w = q at h hpl e2
  refine Ev.step (f := fun k => (spec_UvarPut.f k (m : Int)).bind fun t173 => (if acc.length + t173.length < 140737488355328 then ((some (acc ++ t173 : List Int)).bind fun y176 => ((spec_l8Bits.f k p w).bind fun t179 => (if y176.length + t179.length < 140737488355328 then (spec_RunPack.l1 k l w (y176 ++ t179) b) else (none)))) else (none))) (fun k => ?_) ?_
  · simp only [spec_RunPack.j4]
    rw [if_neg (by simp), hs, wrap_id (n := (g : Int)) (by omega) (by omega), wrap_id (n := 2 * (g : Int)) (by omega) (by omega), wrap_id (n := 2 * (g : Int) + 1) (by omega) (by omega), hmi]
  exact ev_app (F := fun k y => spec_RunPack.l1 k l w y b) e e2 (by omega) (by rw [List.length_append]; omega) h
theorem spec_RunPack_in (l : List Int) (w a : Nat) (hlen : l.length ≤ 2000) (acc : List Int) : ∀ (d j g : Nat), j + d = 8 → a + 8 * g < l.length + 8 → ∀ R : List Int × Bool, Ev (fun k => spec_RunPack.l2 k l w acc ((a + 8 * (g + 1) : Nat) : Int) (pad l a (8 * (g + 1)))) R → Ev (fun k => spec_RunPack.l3 k l w acc ((a + 8 * g : Nat) : Int) (pad l a (8 * g + j)) j) R := by
  intro d
  induction d with
  | zero =>
    intro j g hj hg R h
    refine Ev.step (fun k => ?_) h
    simp only [spec_RunPack.l3]
    rw [if_neg (by omega), show wrap64 (((a + 8 * g : Nat) : Int) + 8) = ((a + 8 * (g + 1) : Nat) : Int) by rw [wrap_id (by omega) (by omega)]; omega, show 8 * g + j = 8 * (g + 1) by omega]
  | succ d ihd =>
    intro j g hj hg R h
    refine Ev.step (fun k => ?_) (ihd (j + 1) g (by omega) hg R h)
    simp only [spec_RunPack.l3]
    rw [if_pos (by omega), wrap_id (n := ((a + 8 * g : Nat) : Int) + j) (by omega) (by omega), wrap_id (n := (j : Int) + 1) (by omega) (by omega), pad_len, show 8 * g + (j + 1) = (8 * g + j) + 1 by omega, pad_succ, show a + (8 * g + j) = a + 8 * g + j by omega]
    by_cases hin : a + 8 * g + j < l.length
    · rw [if_pos (by omega), if_pos (by omega), if_pos (by omega), ← ih_cast (a + 8 * g) j, show (j : Int) + 1 = ((j + 1 : Nat) : Int) by omega]
    · rw [if_neg (by omega), if_pos (by omega), rd_out l (a + 8 * g + j) (by omega), show (j : Int) + 1 = ((j + 1 : Nat) : Int) by omega]
theorem spec_RunPack_g (l : List Int) (w a G : Nat) (hlen : l.length ≤ 2000) (acc : List Int) (R : List Int × Bool) (fin : Ev (fun k => spec_RunPack.j4 k l w acc ((a + 8 * G : Nat) : Int) (pad l a (8 * G)) false) R) :
    ∀ (d g : Nat), 1 ≤ g → l.length ≤ a + 8 * g + 8 * d → a + 8 * g < l.length + 8 → grpF l a d g = G → Ev (fun k => spec_RunPack.l2 k l w acc ((a + 8 * g : Nat) : Int) (pad l a (8 * g))) R := by
  intro d
  induction d with
  | zero =>
    intro g h1 h2 h3 h4
    have h4 : g = G := h4
    subst h4
    refine Ev.step (fun k => ?_) fin
    simp only [spec_RunPack.l2]; rw [if_neg (by omega)]
  | succ d ihd =>
    intro g h1 h2 h3 h4
    unfold grpF at h4
    by_cases hc : a + 8 * g < l.length
    · refine Ev.step (f := fun k => (spec_l8Alike.f k l ((a + 8 * g : Nat) : Int)).bind fun t => spec_RunPack.j4 k l w acc ((a + 8 * g : Nat) : Int) (pad l a (8 * g)) (decide (t < 8))) (fun k => ?_) ?_
      · simp only [spec_RunPack.l2]; rw [if_pos (by omega), if_neg (by rw [pad_len]; omega)]
      refine Ev.bind (spec_l8Alike_ev l _ (by omega) (by omega)) ?_
      by_cases hk : alk l (a + 8 * g) < 8
      · rw [if_pos ⟨hc, hk⟩] at h4
        rw [decide_eq_true (show ((alk l (a + 8 * g) : Nat) : Int) < 8 by omega)]
        refine Ev.step (f := fun k => spec_RunPack.l3 k l w acc ((a + 8 * g : Nat) : Int) (pad l a (8 * g)) 0) (fun k => by simp only [spec_RunPack.j4]; rw [if_pos trivial]) ?_
        exact spec_RunPack_in l w a hlen acc 8 0 g (by omega) (by omega) _ (ihd (g + 1) (by omega) (by omega) (by omega) h4)
      · rw [if_neg (fun h => hk h.2)] at h4
        rw [decide_eq_false (show ¬ ((alk l (a + 8 * g) : Nat) : Int) < 8 by omega)]
        rw [h4]; exact fin
    · rw [if_neg (fun h => hc h.1)] at h4
      rw [h4]
      refine Ev.step (fun k => ?_) fin
      simp only [spec_RunPack.l2]; rw [if_neg (by omega)]
theorem spec_RunPack_l (l : List Int) (w : Nat) (hw : w ≤ 24) (hlen : l.length ≤ 2000) : ∀ (f a : Nat) (acc : List Int), l.length < a + f → a < l.length + 8 → acc.length ≤ 40 * a →
    Ev (fun k => spec_RunPack.l1 k l w acc a) (acc ++ rpkF l w f a, true) := by
  intro f
  induction f with
  | zero =>
    intro a acc hf ha hacc
    refine Ev.step (f := fun _ => some (acc ++ rpkF l w 0 a, true)) (fun k => ?_) (Ev.now _)
    simp only [spec_RunPack.l1]
    rw [if_neg (by omega), show rpkF l w 0 a = [] from rfl, List.append_nil]
  | succ f ih =>
    intro a acc hf ha hacc
    rw [rpkF_succ]
    by_cases hal : a < l.length
    · rw [if_pos hal]
      refine Ev.step (fun k => by simp only [spec_RunPack.l1]; rw [if_pos (show (a : Int) < l.length by omega)]) ?_
      refine Ev.bind (spec_l8Alike_ev l a (by omega) (by omega)) ?_
      have hak := alk_le l a (by omega)
      by_cases h8 : 8 ≤ alk l a
      · rw [if_pos h8]
        have hu := uvb_len10 (2 * alk l a) (by omega)
        have h := ih (a + alk l a) (acc ++ uvb (2 * alk l a) ++ wbytes (rd l (a : Int)) ((w + 7) / 8)) (by omega) (by omega) (by rw [List.length_append, List.length_append, wbytes_len]; omega)
        rw [app4] at h
        simp only [if_pos (show ((alk l a : Nat) : Int) ≥ 8 by omega)]
        exact spec_RunPack_a l w hw a (alk l a) (by omega) (by omega) acc (by omega) _ h
      · rw [if_neg h8]
        have hg1 := grp_ge l a
        have hg2 := grp_le l a hal
        have h10 := uvb_len10 (2 * grp l a + 1) (by omega)
        have hm : 8 * grp l a * w ≤ 8 * grp l a * 24 := Nat.mul_le_mul_left _ hw
        simp only [if_neg (show ¬ ((alk l a : Nat) : Int) ≥ 8 by omega)]
        have h := ih (a + 8 * grp l a) (acc ++ uvb (2 * grp l a + 1) ++ packB (pad l a (8 * grp l a)) w) (by omega) (by omega) (by rw [List.length_append, List.length_append, packB_len, pad_len]; omega)
        rw [app4] at h
        have fin := spec_RunPack_fin l w hw _ (grp l a) _ (by omega) rfl (pad l a (8 * grp l a)) (pad_len _ _ _) acc (by omega) _ h
        have h2 := spec_RunPack_in l w a hlen acc 8 0 0 (by omega) (by omega) _ (spec_RunPack_g l w a (grp l a) hlen acc _ fin l.length 1 (by omega) (by omega) (by omega) rfl)
        rw [show a + 8 * 0 = a by omega, show 8 * 0 + 0 = 0 from rfl, show pad l a 0 = [] from rfl] at h2
        refine Ev.step (f := fun k => spec_RunPack.j4 k l w acc (a : Int) [] true) (fun k => ?_) ?_
        · simp only [spec_RunPack.l2]; rw [if_pos (by omega), if_pos (by simp)]
        refine Ev.step (f := fun k => spec_RunPack.l3 k l w acc (a : Int) [] 0) (fun k => by simp only [spec_RunPack.j4]; rw [if_pos trivial]) ?_
        exact h2
    · rw [if_neg hal, List.append_nil]
      refine Ev.step (f := fun _ => some (acc, true)) (fun k => ?_) (Ev.now _)
      simp only [spec_RunPack.l1]
      rw [if_neg (by omega)]
theorem spec_RunPack_ev (l : List Int) (w : Int) (hl : ∀ x ∈ l, (Lit.int .i64 x).wf = true) : Ev (fun k => spec_RunPack.f k l w) (rpk l w) := by
  have bad : ∀ l' w', Ev (fun k => spec_RunPack.j0 k l' w' [] true) ([], false) := fun l' w' => Ev.step (f := fun _ => some ([], false)) (fun k => by simp only [spec_RunPack.j0]; rw [if_pos trivial]) (Ev.now _)
  unfold spec_RunPack.f spec_l8Width.f rpk
  simp only [spec_l1In_ev, Option.bind_some]
  by_cases hw : 0 ≤ w ∧ w ≤ 24
  · simp only [decide_eq_true hw, if_true]
    obtain ⟨v, rfl⟩ := Int.eq_ofNat_of_zero_le hw.1
    by_cases h2 : l.length ≤ 2000
    · rw [decide_eq_false (show ¬ (l.length : Int) > 2000 by omega)]
      refine Ev.step (f := fun k => spec_RunPack.l0 k l v [] 0) (fun k => by simp only [spec_RunPack.j0]; rw [if_neg (by simp)]) ?_
      have key : ∀ (d i : Nat), i + d = l.length → (∀ n ∈ l.take i, 0 ≤ n ∧ (blen n.toNat : Int) ≤ v) → Ev (fun k => spec_RunPack.l0 k l v [] i) (if ∀ n ∈ l, 0 ≤ n ∧ (blen n.toNat : Int) ≤ v then (rpkF l v (l.length + 1) 0, true) else ([], false)) := by
        intro d
        induction d with
        | zero =>
          intro i hi hf
          rw [show i = l.length by omega, List.take_length] at hf
          rw [if_pos hf]
          have h := spec_RunPack_l l v (by omega) h2 (l.length + 1) 0 [] (by omega) (by omega) (by simp)
          refine Ev.step (fun k => ?_) h
          simp only [spec_RunPack.l0]; rw [if_neg (by omega)]; rfl
        | succ d ih =>
          intro i hi hf
          have hm : rd l i = l[i] := rd_eq l i (by omega)
          have hmem : l[i] ∈ l := List.getElem_mem _
          have hwf := wf64 (hl _ hmem)
          by_cases hn : l[i] < 0
          · rw [if_neg (fun h => by have := (h _ hmem).1; omega)]
            refine Ev.step (f := fun _ => some ([], false)) (fun k => ?_) (Ev.now _)
            simp only [spec_RunPack.l0]; rw [if_pos (by omega), if_pos (by omega), hm, if_pos hn]
          · have hz := shr_zero_iff (l[i]) v (by omega) (show v ≤ 62 by omega)
            by_cases hb : (blen (l[i]).toNat : Int) ≤ v
            · rw [decide_eq_true hb] at hz
              have hz' : shr .i64 l[i] v = 0 := by simpa using hz
              refine Ev.step (fun k => ?_) (ih (i + 1) (by omega) (by
                intro n hn2
                rw [List.take_succ_eq_append_getElem (by omega)] at hn2
                rcases List.mem_append.1 hn2 with h | h
                · exact hf n h
                · rw [List.mem_singleton] at h; subst h; exact ⟨by omega, hb⟩))
              simp only [spec_RunPack.l0]; rw [if_pos (by omega), if_pos (by omega), hm, if_neg hn, if_pos (by omega), if_pos hz', wrap_id (by omega) (by omega)]; push_cast; rfl
            · rw [decide_eq_false hb] at hz
              have hz' : ¬ shr .i64 l[i] v = 0 := by simpa using hz
              rw [if_neg (fun h => hb (h _ hmem).2)]
              refine Ev.step (f := fun _ => some ([], false)) (fun k => ?_) (Ev.now _)
              simp only [spec_RunPack.l0]; rw [if_pos (by omega), if_pos (by omega), hm, if_neg hn, if_pos (by omega), if_neg hz']
      have h := key l.length 0 (by omega) (by simp)
      by_cases hf : ∀ n ∈ l, 0 ≤ n ∧ (blen n.toNat : Int) ≤ v
      · rw [if_pos hf] at h
        rw [if_pos ⟨h2, hw.1, hw.2, hf⟩, show (v : Int).toNat = v by omega]; exact h
      · rw [if_neg hf] at h
        rw [if_neg (fun h => hf h.2.2.2)]; exact h
    · rw [decide_eq_true (show (l.length : Int) > 2000 by omega), if_neg (fun h => h2 h.1)]; exact bad _ _
  · simp only [decide_eq_false hw, Bool.false_eq_true, if_false]
    rw [if_neg (fun h => hw ⟨h.2.1, h.2.2.1⟩)]; exact bad _ _
theorem rpk_len (l : List Int) (w : Int) : (rpk l w).1.length ≤ 100000 := by
  unfold rpk
  split
  · rename_i h
    rcases rpkF_len l w.toNat (by omega) h.1 (l.length + 1) 0 with h2 | h2
    · simp only; omega
    · simp only [h2, List.length_nil]; omega
  · simp

theorem impl_groupsFrom_ev (l : List Int) (a : Nat) (hlen : l.length ≤ 1000000) (ha : a < 1000000) : Ev (fun k => impl_groupsFrom.f k l a) (grp l a) := by
  have unf : ∀ g : Nat, g ≤ 2000000 → ∀ k, impl_groupsFrom.l0 (k + 1) l a g = if ((a + 8 * g : Nat) : Int) < l.length then ((impl_alikeFrom.f k l ((a + 8 * g : Nat) : Int)).bind fun t => if t < 8 then impl_groupsFrom.l0 k l a ((g + 1 : Nat) : Int) else some (g : Int)) else some (g : Int) := by
    intro g hg k
    simp only [impl_groupsFrom.l0]
    rw [wrap_id (n := 8 * (g : Int)) (by omega) (by omega), wrap_id (n := (a : Int) + 8 * g) (by omega) (by omega), wrap_id (n := (g : Int) + 1) (by omega) (by omega)]
    push_cast; rfl
  have key : ∀ (d g : Nat), l.length ≤ a + 8 * g + 8 * d → g ≤ 1000000 → Ev (fun k => impl_groupsFrom.l0 k l a g) (grpF l a d g) := by
    intro d
    induction d with
    | zero =>
      intro g h hg
      refine Ev.step (f := fun _ => some (g : Int)) (fun k => ?_) (Ev.now _)
      rw [unf g (by omega), if_neg (by omega)]
    | succ d ih =>
      intro g h hg
      unfold grpF
      by_cases h1 : a + 8 * g < l.length
      · refine Ev.step (f := fun k => (impl_alikeFrom.f k l ((a + 8 * g : Nat) : Int)).bind fun t => if t < 8 then impl_groupsFrom.l0 k l a ((g + 1 : Nat) : Int) else some (g : Int)) (fun k => by rw [unf g (by omega), if_pos (by omega)]) ?_
        refine Ev.bind (impl_alikeFrom_ev l _ (by omega) (by omega)) ?_
        by_cases h2 : alk l (a + 8 * g) < 8
        · rw [if_pos ⟨h1, h2⟩]
          simp only [if_pos (show ((alk l (a + 8 * g) : Nat) : Int) < 8 by omega)]
          exact ih (g + 1) (by omega) (by omega)
        · rw [if_neg (fun h => h2 h.2)]
          simp only [if_neg (show ¬ ((alk l (a + 8 * g) : Nat) : Int) < 8 by omega)]
          exact Ev.now _
      · rw [if_neg (fun h => h1 h.1)]
        refine Ev.step (f := fun _ => some (g : Int)) (fun k => ?_) (Ev.now _)
        rw [unf g (by omega), if_neg (by omega)]
  exact key l.length 1 (by omega) (by omega)

theorem impl_within_ev (x a b : Int) : impl_within.f x a b = some (decide (a ≤ x ∧ x ≤ b)) := by
  unfold impl_within.f
  by_cases h : x ≥ a
  · rw [if_pos h]; congr 1; simp [show a ≤ x from h]
  · rw [if_neg h]; congr 1; simp [show ¬ a ≤ x from h]

theorem len8_ev (i : Int) (h0 : 0 ≤ i) (h : i < 256) : bt (⟨#[0, 1, 2, 2, 3, 3, 3, 3, 4, 4, 4, 4, 4, 4, 4, 4, 5, 5, 5, 5, 5, 5, 5, 5, 5, 5, 5, 5, 5, 5, 5, 5, 6, 6, 6, 6, 6, 6, 6, 6, 6, 6, 6, 6, 6, 6, 6, 6, 6, 6, 6, 6, 6, 6, 6, 6, 6, 6, 6, 6, 6, 6, 6, 6, 7, 7, 7, 7, 7, 7, 7, 7, 7, 7, 7, 7, 7, 7, 7, 7, 7, 7, 7, 7, 7, 7, 7, 7, 7, 7, 7, 7, 7, 7, 7, 7, 7, 7, 7, 7, 7, 7, 7, 7, 7, 7, 7, 7, 7, 7, 7, 7, 7, 7, 7, 7, 7, 7, 7, 7, 7, 7, 7, 7, 7, 7, 7, 7, 8, 8, 8, 8, 8, 8, 8, 8, 8, 8, 8, 8, 8, 8, 8, 8, 8, 8, 8, 8, 8, 8, 8, 8, 8, 8, 8, 8, 8, 8, 8, 8, 8, 8, 8, 8, 8, 8, 8, 8, 8, 8, 8, 8, 8, 8, 8, 8, 8, 8, 8, 8, 8, 8, 8, 8, 8, 8, 8, 8, 8, 8, 8, 8, 8, 8, 8, 8, 8, 8, 8, 8, 8, 8, 8, 8, 8, 8, 8, 8, 8, 8, 8, 8, 8, 8, 8, 8, 8, 8, 8, 8, 8, 8, 8, 8, 8, 8, 8, 8, 8, 8, 8, 8, 8, 8, 8, 8, 8, 8, 8, 8, 8, 8, 8, 8, 8, 8, 8, 8, 8, 8, 8, 8, 8, 8, 8, 8]⟩ : ByteArray) i = blen i.toNat := by
  have e : ∀ j : Nat, j < 256 → bt (⟨#[0, 1, 2, 2, 3, 3, 3, 3, 4, 4, 4, 4, 4, 4, 4, 4, 5, 5, 5, 5, 5, 5, 5, 5, 5, 5, 5, 5, 5, 5, 5, 5, 6, 6, 6, 6, 6, 6, 6, 6, 6, 6, 6, 6, 6, 6, 6, 6, 6, 6, 6, 6, 6, 6, 6, 6, 6, 6, 6, 6, 6, 6, 6, 6, 7, 7, 7, 7, 7, 7, 7, 7, 7, 7, 7, 7, 7, 7, 7, 7, 7, 7, 7, 7, 7, 7, 7, 7, 7, 7, 7, 7, 7, 7, 7, 7, 7, 7, 7, 7, 7, 7, 7, 7, 7, 7, 7, 7, 7, 7, 7, 7, 7, 7, 7, 7, 7, 7, 7, 7, 7, 7, 7, 7, 7, 7, 7, 7, 8, 8, 8, 8, 8, 8, 8, 8, 8, 8, 8, 8, 8, 8, 8, 8, 8, 8, 8, 8, 8, 8, 8, 8, 8, 8, 8, 8, 8, 8, 8, 8, 8, 8, 8, 8, 8, 8, 8, 8, 8, 8, 8, 8, 8, 8, 8, 8, 8, 8, 8, 8, 8, 8, 8, 8, 8, 8, 8, 8, 8, 8, 8, 8, 8, 8, 8, 8, 8, 8, 8, 8, 8, 8, 8, 8, 8, 8, 8, 8, 8, 8, 8, 8, 8, 8, 8, 8, 8, 8, 8, 8, 8, 8, 8, 8, 8, 8, 8, 8, 8, 8, 8, 8, 8, 8, 8, 8, 8, 8, 8, 8, 8, 8, 8, 8, 8, 8, 8, 8, 8, 8, 8, 8, 8, 8, 8, 8]⟩ : ByteArray) (j : Int) = blen j := by decide +kernel
  have := e i.toNat (by omega)
  rwa [Int.toNat_of_nonneg h0] at this
set_option maxRecDepth 100000 in
theorem bits_Len64_j (n : Nat) (b : Int) (hb : 0 ≤ b) (hb2 : b ≤ 100) (hn : n < 4294967296) : Ev (fun k => bits_Len64.j0 k n b) (b + blen n) := by
  refine Ev.step (f := fun _ => some (b + blen n)) (fun k => ?_) (Ev.now _)
  have h8 : ∀ m : Nat, m < 256 → (blen m : Int) ≤ 8 := fun m hm => by have := (blen_le m 8).2 hm; omega
  rw [bits_Len64.j0]
  by_cases h1 : n < 65536
  · rw [if_neg (by omega)]
    by_cases h2 : n < 256
    · rw [if_neg (by omega), if_pos (by omega), if_pos (by omega), show ((n : Int) % 256) = n by omega, len8_ev _ (by omega) (by omega), show ((n : Int)).toNat = n by omega]
      have := h8 n h2
      rw [wrap_id (n := (blen n : Int)) (by omega) (by omega), wrap_id (by omega) (by omega)]
    · have e := blen_div n 8 (by omega)
      have hlt : n / 2 ^ 8 < 256 := by omega
      rw [if_pos (by omega), if_pos (by omega), if_pos (by omega), len8_ev _ (by omega) (by omega), show ((n : Int) / 256 % 256).toNat = n / 2 ^ 8 by omega]
      have := h8 _ hlt
      rw [wrap_id (n := (blen (n / 2 ^ 8) : Int)) (by omega) (by omega), wrap_id (n := b + 8) (by omega) (by omega), wrap_id (by omega) (by omega), e]
      congr 1; push_cast; omega
  · rw [if_pos (by omega)]
    by_cases h2 : n / 65536 < 256
    · have e := blen_div n 16 (by omega)
      rw [if_neg (by omega), if_pos (by omega), if_pos (by omega), len8_ev _ (by omega) (by omega), show ((n : Int) / 65536 % 256).toNat = n / 2 ^ 16 by omega]
      have := h8 (n / 2 ^ 16) (by omega)
      rw [wrap_id (n := (blen (n / 2 ^ 16) : Int)) (by omega) (by omega), wrap_id (n := b + 16) (by omega) (by omega), wrap_id (by omega) (by omega), e]
      congr 1; push_cast; omega
    · have e := blen_div n 24 (by omega)
      rw [if_pos (by omega), if_pos (by omega), if_pos (by omega), len8_ev _ (by omega) (by omega), show ((n : Int) / 65536 / 256 % 256).toNat = n / 2 ^ 24 by omega]
      have := h8 (n / 2 ^ 24) (by omega)
      rw [wrap_id (n := (blen (n / 2 ^ 24) : Int)) (by omega) (by omega), wrap_id (n := b + 16) (by omega) (by omega), wrap_id (n := b + 16 + 8) (by omega) (by omega), wrap_id (by omega) (by omega), e]
      congr 1; push_cast; omega
theorem bits_Len64_ev (n : Nat) (h : n < 18446744073709551616) : Ev (fun k => bits_Len64.f k n) (blen n) := by
  unfold bits_Len64.f
  by_cases h1 : n < 4294967296
  · refine Ev.congr (fun k => if_neg (show ¬ (n : Int) ≥ 4294967296 by omega)) ?_
    have := bits_Len64_j n 0 (by omega) (by omega) h1
    rw [Int.zero_add] at this; exact this
  · refine Ev.congr (fun k => if_pos (show (n : Int) ≥ 4294967296 by omega)) ?_
    have e := blen_div n 32 (by omega)
    have := bits_Len64_j (n / 4294967296) 32 (by omega) (by omega) (by omega)
    rw [e, show n / 2 ^ 32 = n / 4294967296 by rfl]
    rw [show ((blen (n / 4294967296) + 32 : Nat) : Int) = 32 + (blen (n / 4294967296) : Int) by omega]
    rw [show ((n / 4294967296 : Nat) : Int) = (n : Int) / 4294967296 by omega] at this
    exact this
theorem impl_widthOf_ev (n : Int) (h0 : 0 ≤ n) (h : n < 9223372036854775808) : Ev (fun k => impl_widthOf.f k n) (blen n.toNat) := by
  unfold impl_widthOf.f
  rw [uwrap_id h0 (by omega)]
  have := bits_Len64_ev n.toNat (by omega)
  rw [Int.toNat_of_nonneg h0] at this
  refine Ev.bind this ?_
  exact Ev.now _

theorem impl_packed_ev (l : List Int) (w : Nat) (hw : w ≤ 64) (hlen : l.length ≤ 1000000000) :
    Ev (fun k => impl_packed.f k l w) (packB l w) := by
  have hmul : l.length * w ≤ 64000000000 := by
    calc l.length * w ≤ 1000000000 * 64 := Nat.mul_le_mul hlen hw
      _ = 64000000000 := by decide
  have hmulc : ((l.length * w : Nat) : Int) = (l.length : Int) * w := by push_cast; rfl
  have inner : ∀ (d i j : Nat), i < l.length → j + d = w →
      ∀ R : List Int, Ev (fun k => impl_packed.l0 k w (bofB (upTo (pbit l w) ((i + 1) * w)) ((l.length * w + 7) / 8)) l l.length ((i + 1 : Nat) : Int)) R →
      Ev (fun k => impl_packed.l1 k w (bofB (upTo (pbit l w) (i * w + j)) ((l.length * w + 7) / 8)) i (rd l i) l l.length i w j) R := by
    intro d
    induction d with
    | zero =>
      intro i j hi hj R h
      refine Ev.step (fun k => ?_) h
      simp only [impl_packed.l1]
      rw [if_neg (by omega), wrap_id (n := (i : Int) + 1) (by omega) (by omega), show j = w by omega, Nat.succ_mul]
      push_cast; rfl
    | succ d ih =>
      intro i j hi hj R h
      have hP : i * w + j < l.length * w := by
        have : (i + 1) * w ≤ l.length * w := Nat.mul_le_mul_right w hi
        rw [Nat.succ_mul] at this; omega
      have hc : ((i * w : Nat) : Int) = (i : Int) * w := by push_cast; rfl
      refine Ev.step (fun k => ?_) (ih i (j + 1) hi (by omega) R h)
      simp only [impl_packed.l1]
      rw [if_pos (by omega), ← hc, wrap_id (n := ((i * w : Nat) : Int)) (by omega) (by omega), wrap_id (n := ((i * w : Nat) : Int) + j) (by omega) (by omega)]
      rw [Int.tdiv_eq_ediv_of_nonneg (by omega), Int.tmod_eq_emod_of_nonneg (by omega), wrap_id (n := (((i * w : Nat) : Int) + j) / 8) (by omega) (by omega)]
      rw [if_pos (by omega), if_pos (by rw [bofB_len]; omega), if_pos (by omega), if_pos (by omega), wrap_id (n := (j : Int) + 1) (by omega) (by omega)]
      have hb : Go.bits .and .i64 (shr .i64 (rd l i) j) 1 = pbit l w (i * w + j) := by
        rw [and_one, shr64 _ _ (by omega) (by omega), pbit_at l w i j (by omega)]; rfl
      have hbits := pbit_bits l w (i * w + j)
      rw [hb, show pbit l w (i * w + j) % 256 = pbit l w (i * w + j) by omega, shl8 _ _ (by omega) (by omega) hbits]
      rw [rd_bofB _ _ _ (by omega) (by omega)]
      have hst := byteOf_step (pbit_bits l w) ((i * w + j) / 8) ((i * w + j) % 8) (by omega)
      rw [show 8 * ((i * w + j) / 8) + (i * w + j) % 8 = i * w + j by omega] at hst
      rw [show ((((i * w : Nat) : Int) + j) % 8).toNat = (i * w + j) % 8 by omega, show ((((i * w : Nat) : Int) + j) / 8).toNat = (i * w + j) / 8 by omega]
      rw [or8 _ _ _ (by omega) hst.1 hst.2.1 hbits, ← hst.2.2, bofB_set _ _ _ _ rfl]
      push_cast; rfl
  have outer : ∀ (d i : Nat), i + d = l.length → Ev (fun k => impl_packed.l0 k w (bofB (upTo (pbit l w) (i * w)) ((l.length * w + 7) / 8)) l l.length i) (packB l w) := by
    intro d
    induction d with
    | zero =>
      intro i hi
      refine Ev.step (f := fun _ => some (packB l w)) (fun k => ?_) (Ev.now _)
      simp only [impl_packed.l0]; rw [if_neg (by omega), show i = l.length by omega]; rfl
    | succ d ih =>
      intro i hi
      refine Ev.step (fun k => ?_) (inner w i 0 (by omega) (by omega) _ (ih (i + 1) (by omega)))
      simp only [impl_packed.l0]; rw [if_pos (by omega), if_pos (by omega), if_pos (by omega)]; rfl
  have h := outer l.length 0 (by omega)
  unfold impl_packed.f
  rw [← hmulc, wrap_id (n := ((l.length * w : Nat) : Int)) (by omega) (by omega), wrap_id (n := ((l.length * w : Nat) : Int) + 7) (by omega) (by omega), Int.tdiv_eq_ediv_of_nonneg (by omega), wrap_id (by omega) (by omega)]
  simp only [if_pos (show (0 : Int) ≤ (((l.length * w : Nat) : Int) + 7) / 8 by omega), if_pos (show ((((l.length * w : Nat) : Int) + 7) / 8).toNat ≤ 281474976710656 by omega)]
  rw [show ((((l.length * w : Nat) : Int) + 7) / 8).toNat = (l.length * w + 7) / 8 by omega, bofB_zero (pbit l w)]
  simpa using h

/-- A number that BitsPack takes. -/
def fits (w : Int) (n : Int) : Prop := 0 ≤ n ∧ (blen n.toNat : Int) ≤ w
instance (w n : Int) : Decidable (fits w n) := by unfold fits; exact inferInstance
/-- What BitsPack answers. -/
def bpk (l : List Int) (w : Int) : List Int × Bool := if l.length ≤ 2000 ∧ 0 ≤ w ∧ w ≤ 62 ∧ ∀ n ∈ l, fits w n then (packB l w.toNat, true) else ([], false)
theorem impl_BitsPack_ev (l : List Int) (w : Int) (hl : ∀ x ∈ l, (Lit.int .i64 x).wf = true) : Ev (fun k => impl_BitsPack.f k l w) (bpk l w) := by
  have bad : ∀ l' w', Ev (fun k => impl_BitsPack.j0 k l' w' true) ([], false) := fun l' w' => Ev.step (f := fun _ => some ([], false)) (fun k => by simp only [impl_BitsPack.j0]; rw [if_pos trivial]) (Ev.now _)
  unfold impl_BitsPack.f bpk
  by_cases h2 : l.length ≤ 2000
  · simp only [if_neg (show ¬ (l.length : Int) > 2000 by omega), impl_within_ev, Option.bind_some]
    by_cases hw : 0 ≤ w ∧ w ≤ 62
    · simp only [decide_eq_true hw, Bool.not_true]
      have key : ∀ (d i : Nat), i + d = l.length → (∀ n ∈ l.take i, fits w n) → Ev (fun k => impl_BitsPack.l0 k l w l l.length i) (if ∀ n ∈ l, fits w n then (packB l w.toNat, true) else ([], false)) := by
        intro d
        induction d with
        | zero =>
          intro i hi hf
          rw [show i = l.length by omega, List.take_length] at hf
          rw [if_pos hf]
          refine Ev.step (f := fun k => (impl_packed.f k l w).bind fun t => some (t, true)) (fun k => ?_) ?_
          · simp only [impl_BitsPack.l0]; rw [if_neg (by omega)]
          · have := impl_packed_ev l w.toNat (by omega) (by omega)
            rw [Int.toNat_of_nonneg hw.1] at this
            refine Ev.bind this ?_
            exact Ev.now _
        | succ d ih =>
          intro i hi hf
          have hm : rd l i = l[i] := rd_eq l i (by omega)
          have hmem : l[i] ∈ l := List.getElem_mem _
          have hwf := wf64 (hl _ hmem)
          by_cases hn : l[i] < 0
          · rw [if_neg (fun h => by have := (h _ hmem).1; omega)]
            refine Ev.step (f := fun _ => some ([], false)) (fun k => ?_) (Ev.now _)
            simp only [impl_BitsPack.l0]; rw [if_pos (by omega), if_pos (by omega), if_pos (by omega), hm, if_pos hn]
          · by_cases hb : (blen (l[i]).toNat : Int) ≤ w
            · have hnext := ih (i + 1) (by omega) (by
                intro n hn2
                rw [List.take_succ_eq_append_getElem (by omega)] at hn2
                rcases List.mem_append.1 hn2 with h | h
                · exact hf n h
                · rw [List.mem_singleton] at h; subst h; exact ⟨by omega, hb⟩)
              refine Ev.step (f := fun k => (impl_widthOf.f k l[i]).bind fun t => if t > w then some ([], false) else impl_BitsPack.l0 k l w l l.length ((i + 1 : Nat) : Int)) (fun k => ?_) ?_
              · simp only [impl_BitsPack.l0]; rw [if_pos (by omega), if_pos (by omega), if_pos (by omega), hm, if_neg hn, wrap_id (by omega) (by omega)]; push_cast; rfl
              · refine Ev.bind (impl_widthOf_ev _ (by omega) hwf.2) ?_
                simp only [if_neg (show ¬ (blen (l[i]).toNat : Int) > w by omega)]; exact hnext
            · rw [if_neg (fun h => hb (h _ hmem).2)]
              refine Ev.step (f := fun k => (impl_widthOf.f k l[i]).bind fun t => if t > w then some ([], false) else impl_BitsPack.l0 k l w l l.length ((i + 1 : Nat) : Int)) (fun k => ?_) ?_
              · simp only [impl_BitsPack.l0]; rw [if_pos (by omega), if_pos (by omega), if_pos (by omega), hm, if_neg hn, wrap_id (by omega) (by omega)]; push_cast; rfl
              · refine Ev.bind (impl_widthOf_ev _ (by omega) hwf.2) ?_
                simp only [if_pos (show (blen (l[i]).toNat : Int) > w by omega)]; exact Ev.now _
      have h := key l.length 0 (by omega) (by simp)
      have e : (if l.length ≤ 2000 ∧ 0 ≤ w ∧ w ≤ 62 ∧ ∀ n ∈ l, fits w n then (packB l w.toNat, true) else ([], false)) = (if ∀ n ∈ l, fits w n then (packB l w.toNat, true) else ([], false)) := by
        by_cases hf : ∀ n ∈ l, fits w n
        · rw [if_pos ⟨h2, hw.1, hw.2, hf⟩, if_pos hf]
        · rw [if_neg (fun h => hf h.2.2.2), if_neg hf]
      rw [e]
      refine Ev.step (fun k => ?_) h
      simp only [impl_BitsPack.j0]; rw [if_neg (by simp)]; rfl
    · simp only [decide_eq_false hw, Bool.not_false]
      rw [if_neg (fun h => hw ⟨h.2.1, h.2.2.1⟩)]; exact bad _ _
  · simp only [if_pos (show (l.length : Int) > 2000 by omega)]
    rw [if_neg (fun h => h2 h.1)]; exact bad _ _

theorem impl_UvarPut_l (j : Nat) : ∀ (n : Nat) (acc : List Int), n < 18446744073709551616 → n < 128 ^ (j + 1) → acc.length + j ≤ 100000000000 →
    Ev (fun k => impl_UvarPut.l0 k n acc) (acc ++ uvb n) := by
  have last : ∀ (n : Nat) (acc : List Int), n < 128 → acc.length ≤ 100000000000 → Ev (fun k => impl_UvarPut.l0 k n acc) (acc ++ uvb n) := by
    intro n acc hs hl
    refine Ev.step (f := fun _ => some (acc ++ uvb n)) (fun k => ?_) (Ev.now _)
    simp only [impl_UvarPut.l0]
    rw [uvb, if_pos hs, if_neg (by omega), if_pos (by omega)]
    congr 3; omega
  induction j with
  | zero => intro n acc h hx hl; exact last n acc (by simpa using hx) (by omega)
  | succ j ih =>
    intro n acc h hx hl
    by_cases hs : n < 128
    · exact last n acc hs (by omega)
    · have hd : n / 128 < 128 ^ (j + 1) := by rw [Nat.div_lt_iff_lt_mul (by decide)]; rw [Nat.pow_succ] at hx; exact hx
      have h := ih (n / 128) (acc ++ [((n % 128 + 128 : Nat) : Int)]) (by omega) hd (by simp; omega)
      rw [List.append_assoc, List.singleton_append] at h
      rw [uvb, if_neg hs]
      refine Ev.step (fun k => ?_) h
      simp only [impl_UvarPut.l0]
      rw [if_pos (by omega), if_pos (by omega)]
      have e2 : (Go.bits .or .u64 (Go.bits .and .u64 (n : Int) 127) 128) % 256 = ((n % 128 + 128 : Nat) : Int) := by
        rw [and127u _ (by omega) (by omega), show (128 : Int) = 1 * 2 ^ 7 by rfl, or_addu _ 1 7 (by omega) (by omega) (by omega) (by omega)]; omega
      rw [e2]; congr 1
theorem impl_UvarPut_ev (x : Int) : Ev (fun k => impl_UvarPut.f k x) (uvb (ux x)) := by
  have h := impl_UvarPut_l 9 (ux x) [] (ux_lt x) (Nat.lt_of_lt_of_le (ux_lt x) (by decide)) (by simp)
  unfold impl_UvarPut.f
  rw [uwrap, show x % 18446744073709551616 = (ux x : Int) by unfold ux; omega]
  simpa using h

theorem impl_WordPut_ev (x : Int) (n : Int) (h : n < 9223372036854775808) : Ev (fun k => impl_WordPut.f k x n) (if 1 ≤ n ∧ n ≤ 8 then wbytes x n.toNat else []) := by
  unfold impl_WordPut.f
  simp only [impl_within_ev, Option.bind_some]
  by_cases hn : 1 ≤ n ∧ n ≤ 8
  · have key : ∀ (d : Nat) (i : Nat), (i : Int) + d = n → Ev (fun k => impl_WordPut.l0 k x (wbytes x i) n i) (wbytes x n.toNat) := by
      intro d
      induction d with
      | zero =>
        intro i hd
        refine Ev.step (f := fun _ => some (wbytes x n.toNat)) (fun k => ?_) (Ev.now _)
        simp only [impl_WordPut.l0]; rw [if_neg (by omega), show n.toNat = i by omega]
      | succ d ih =>
        intro i hd
        refine Ev.step (f := fun k => impl_WordPut.l0 k x (wbytes x (i + 1)) n (i + 1 : Nat)) (fun k => ?_) (ih (i + 1) (by omega))
        simp only [impl_WordPut.l0]
        rw [if_pos (by omega), wrap_id (n := 8 * (i : Int)) (by omega) (by omega), if_pos (by omega), if_pos (by rw [wbytes_len]; omega), wrap_id (by omega) (by omega), shr64 _ _ (by omega) (by omega), wbytes_succ, show (8 * (i : Int)).toNat = 8 * i by omega]
        push_cast; rfl
    have h := key n.toNat 0 (by omega)
    rw [if_pos hn]
    simp only [decide_eq_true hn, if_true]
    simpa [wbytes] using h
  · rw [if_neg hn]
    simp only [decide_eq_false hn, Bool.false_eq_true, if_false]; exact Ev.now _

theorem impl_BitsSize_ev (n w : Int) : impl_BitsSize.f n w = some (if 0 ≤ n ∧ n ≤ 2000 ∧ 0 ≤ w ∧ w ≤ 62 then (n * w + 7) / 8 else -1) := by
  unfold impl_BitsSize.f
  simp only [impl_within_ev, Option.bind_some]
  by_cases h1 : 0 ≤ n ∧ n ≤ 2000
  · simp only [decide_eq_true h1, if_true]
    by_cases h2 : 0 ≤ w ∧ w ≤ 62
    · simp only [decide_eq_true h2, if_true]
      have hm0 : 0 ≤ n * w := Int.mul_nonneg h1.1 h2.1
      have hm : n * w ≤ 2000 * 62 := Int.mul_le_mul h1.2 h2.2 h2.1 (by omega)
      rw [if_pos ⟨h1.1, h1.2, h2.1, h2.2⟩, wrap_id (n := n * w) (by omega) (by omega), wrap_id (n := n * w + 7) (by omega) (by omega), Int.tdiv_eq_ediv_of_nonneg (by omega), wrap_id (by omega) (by omega)]
    · simp only [decide_eq_false h2, Bool.false_eq_true, if_false]
      rw [if_neg (fun h => h2 h.2.2)]
  · simp only [decide_eq_false h1, Bool.false_eq_true, if_false]
    rw [if_neg (fun h => h1 ⟨h.1, h.2.1⟩)]

theorem impl_RunPack_a (l : List Int) (w : Nat) (hw : w ≤ 24) (a n : Nat) (hn : n ≤ 2000) (hal : a ≤ 2000) (acc : List Int) (hacc : acc.length ≤ 100000) (R : List Int × Bool)
    (h : Ev (fun k => impl_RunPack.l0 k l w (acc ++ uvb (2 * n) ++ wbytes (rd l (a : Int)) ((w + 7) / 8)) ((a : Int) + n)) R) :
    Ev (fun k => (impl_UvarPut.f k (wrap64 (2 * (n : Int)))).bind fun t234 => (if acc.length + t234.length < 140737488355328 then ((some (acc ++ t234 : List Int)).bind fun y237 => (if 0 ≤ (a : Int) then ((impl_BitsSize.f 1 w).bind fun t241 => ((impl_WordPut.f k (rd l a) t241).bind fun t242 => (if y237.length + t242.length < 140737488355328 then (impl_RunPack.l0 k l w (y237 ++ t242) (wrap64 ((a : Int) + n))) else (none)))) else (none))) else (none))) R := by
  rw [wrap_id (n := 2 * (n : Int)) (by omega) (by omega), wrap_id (n := (a : Int) + n) (by omega) (by omega)]
  have h10 := uvb_len10 (2 * n) (by omega)
  refine Ev.bind (impl_UvarPut_ev _) ?_
  rw [show ux (2 * (n : Int)) = 2 * n by unfold ux; omega]
  generalize uvb (2 * n) = u at h h10 ⊢
  simp only [if_pos (show acc.length + u.length < 140737488355328 by omega), Option.bind_some, if_pos (show (0 : Int) ≤ a by omega), impl_BitsSize_ev]
  rw [if_pos (show 0 ≤ (1 : Int) ∧ (1 : Int) ≤ 2000 ∧ 0 ≤ (w : Int) ∧ (w : Int) ≤ 62 by omega), show ((1 : Int) * w + 7) / 8 = (((w + 7) / 8 : Nat) : Int) by omega]
  refine Ev.bind (impl_WordPut_ev _ _ (by omega)) ?_
  have e : (if 1 ≤ (((w + 7) / 8 : Nat) : Int) ∧ (((w + 7) / 8 : Nat) : Int) ≤ 8 then wbytes (rd l (a : Int)) (((w + 7) / 8 : Nat) : Int).toNat else []) = wbytes (rd l (a : Int)) ((w + 7) / 8) := by
    by_cases h0 : 1 ≤ (w + 7) / 8
    · rw [if_pos (by omega), Int.toNat_natCast]
    · rw [if_neg (by omega), show (w + 7) / 8 = 0 by omega]; rfl
  rw [e]
  simp only [if_pos (show (acc ++ u).length + (wbytes (rd l (a : Int)) ((w + 7) / 8)).length < 140737488355328 by rw [List.length_append, wbytes_len]; omega)]
  exact h
theorem impl_RunPack_g (l : List Int) (w : Nat) (hw : w ≤ 24) (hlen : l.length ≤ 2000) (a g m : Nat) (hg : g ≤ 2000) (hmg : m = 2 * g + 1) (hal : a < l.length) (acc : List Int) (hacc : acc.length ≤ 100000) (R : List Int × Bool)
    (h : Ev (fun k => impl_RunPack.l0 k l w (acc ++ uvb m ++ packB (pad l a (8 * g)) w) (mn ((a + 8 * g : Nat) : Int) (l.length : Int))) R) :
    Ev (fun k => (if 0 ≤ (wrap64 (8 * (g : Int))) then (if (wrap64 (8 * (g : Int)) : Int).toNat ≤ 35184372088832 then ((some (List.replicate (wrap64 (8 * (g : Int)) : Int).toNat 0 : List Int)).bind fun y249 => (if 0 ≤ (a : Int) then (if (a : Int) ≤ (l.length : Int) then (if y249.length + (l.drop (a : Int).toNat).length < 17592186044416 then ((impl_UvarPut.f k (wrap64 ((wrap64 (2 * (g : Int))) + 1))).bind fun t256 => (if acc.length + t256.length < 140737488355328 then ((some (acc ++ t256 : List Int)).bind fun y259 => ((impl_packed.f k ((l.drop (a : Int).toNat).take (min (l.drop (a : Int).toNat).length y249.length) ++ y249.drop (min (l.drop (a : Int).toNat).length y249.length)) w).bind fun t262 => (if y259.length + t262.length < 140737488355328 then (impl_RunPack.l0 k l w (y259 ++ t262) (mn (wrap64 ((a : Int) + (wrap64 (8 * (g : Int))))) (l.length : Int))) else (none)))) else (none))) else (none)) else (none)) else (none))) else (none)) else (none))) R := by
  have hm : 8 * g * w ≤ 16000 * 24 := Nat.mul_le_mul (by omega) hw
  have hml : m ≤ 4001 := by omega
  have hmi : 2 * (g : Int) + 1 = (m : Int) := by omega
  have h10 := uvb_len10 m (Nat.lt_of_le_of_lt hml (by decide))
  have hux : ux (m : Int) = m := ux_nat m (Nat.lt_of_le_of_lt hml (by decide))
  have e := impl_UvarPut_ev (m : Int)
  rw [hux] at e
  have e2 := impl_packed_ev (pad l a (8 * g)) w (by omega) (by rw [pad_len]; omega)
  have hpl : (packB (pad l a (8 * g)) w).length ≤ 100000 := by rw [packB_len, pad_len]; omega
  rw [show ((a + 8 * g : Nat) : Int) = (a : Int) + 8 * (g : Int) by push_cast; rfl] at h
  rw [wrap_id (n := 8 * (g : Int)) (by omega) (by omega), wrap_id (n := 2 * (g : Int)) (by omega) (by omega), wrap_id (n := 2 * (g : Int) + 1) (by omega) (by omega), wrap_id (n := (a : Int) + 8 * (g : Int)) (by omega) (by omega), show (8 * (g : Int)).toNat = 8 * g by omega, show (a : Int).toNat = a by omega, hmi]
  clear hmg hm hmi hux hml
  refine ev_if (by omega) (ev_if (by omega) ?_)
  refine Ev.bind (Ev.now _) ?_
  refine ev_if (by omega) (ev_if (by omega) (ev_if (by rw [List.length_replicate, List.length_drop]; omega) ?_))
  rw [List.length_replicate, pad_copy l a (8 * g) (by omega)]
  generalize uvb m = u at h h10 e
  generalize packB (pad l a (8 * g)) w = q at h hpl e2
  exact ev_app (F := fun k y => impl_RunPack.l0 k l w y (mn ((a : Int) + 8 * (g : Int)) (l.length : Int))) e e2 (by omega) (by rw [List.length_append]; omega) h
theorem mn_lt (a b : Int) (h : a ≤ b) : mn a b = a := by unfold mn; split <;> omega
theorem mn_ge (a b : Int) (h : b ≤ a) : mn a b = b := by unfold mn; split <;> omega
theorem impl_RunPack_l (l : List Int) (w : Nat) (hw : w ≤ 24) (hlen : l.length ≤ 2000) : ∀ (f a : Nat) (acc : List Int), l.length < a + f → a < l.length + 8 → acc.length ≤ 40 * a →
    Ev (fun k => impl_RunPack.l0 k l w acc (mn (a : Int) (l.length : Int))) (acc ++ rpkF l w f a, true) := by
  intro f
  induction f with
  | zero =>
    intro a acc hf ha hacc
    rw [mn_ge _ _ (by omega)]
    refine Ev.step (f := fun _ => some (acc ++ rpkF l w 0 a, true)) (fun k => ?_) (Ev.now _)
    simp only [impl_RunPack.l0]
    rw [if_neg (by omega), show rpkF l w 0 a = [] from rfl, List.append_nil]
  | succ f ih =>
    intro a acc hf ha hacc
    rw [rpkF_succ]
    by_cases hal : a < l.length
    · rw [if_pos hal, mn_lt _ _ (by omega)]
      refine Ev.step (fun k => by simp only [impl_RunPack.l0]; rw [if_pos (show (a : Int) < l.length by omega)]) ?_
      refine Ev.bind (impl_alikeFrom_ev l a (by omega) (by omega)) ?_
      have hak := alk_le l a (by omega)
      by_cases h8 : 8 ≤ alk l a
      · rw [if_pos h8]
        have hu := uvb_len10 (2 * alk l a) (by omega)
        have h := ih (a + alk l a) (acc ++ uvb (2 * alk l a) ++ wbytes (rd l (a : Int)) ((w + 7) / 8)) (by omega) (by omega) (by rw [List.length_append, List.length_append, wbytes_len]; omega)
        rw [mn_lt _ _ (by omega), show (((a + alk l a : Nat)) : Int) = (a : Int) + (alk l a : Nat) by push_cast; rfl] at h
        rw [app4] at h
        simp only [if_pos (show ((alk l a : Nat) : Int) ≥ 8 by omega)]
        exact impl_RunPack_a l w hw a (alk l a) (by omega) (by omega) acc (by omega) _ h
      · rw [if_neg h8]
        have hg1 := grp_ge l a
        have hg2 := grp_le l a hal
        have h10 := uvb_len10 (2 * grp l a + 1) (by omega)
        have hm : 8 * grp l a * w ≤ 8 * grp l a * 24 := Nat.mul_le_mul_left _ hw
        simp only [if_neg (show ¬ ((alk l a : Nat) : Int) ≥ 8 by omega)]
        refine Ev.bind (impl_groupsFrom_ev l a (by omega) (by omega)) ?_
        have h := ih (a + 8 * grp l a) (acc ++ uvb (2 * grp l a + 1) ++ packB (pad l a (8 * grp l a)) w) (by omega) (by omega) (by rw [List.length_append, List.length_append, packB_len, pad_len]; omega)
        rw [app4] at h
        exact impl_RunPack_g l w hw hlen a (grp l a) _ (by omega) rfl hal acc (by omega) _ h
    · rw [if_neg hal, List.append_nil, mn_ge _ _ (by omega)]
      refine Ev.step (f := fun _ => some (acc, true)) (fun k => ?_) (Ev.now _)
      simp only [impl_RunPack.l0]
      rw [if_neg (by omega)]
theorem impl_RunPack_ev (l : List Int) (w : Int) (hl : ∀ x ∈ l, (Lit.int .i64 x).wf = true) : Ev (fun k => impl_RunPack.f k l w) (rpk l w) := by
  have bad : ∀ l' w', Ev (fun k => impl_RunPack.j0 k l' w' true) ([], false) := fun l' w' => Ev.step (f := fun _ => some ([], false)) (fun k => by simp only [impl_RunPack.j0]; rw [if_pos trivial]) (Ev.now _)
  unfold impl_RunPack.f
  refine Ev.bind (impl_BitsPack_ev l w hl) ?_
  unfold bpk rpk
  by_cases hc : l.length ≤ 2000 ∧ 0 ≤ w ∧ w ≤ 62 ∧ ∀ n ∈ l, fits w n
  · rw [if_pos hc]
    by_cases hw : w ≤ 24
    · rw [if_pos (show l.length ≤ 2000 ∧ 0 ≤ w ∧ w ≤ 24 ∧ ∀ n ∈ l, 0 ≤ n ∧ (blen n.toNat : Int) ≤ w from ⟨hc.1, hc.2.1, hw, hc.2.2.2⟩)]
      simp only [if_true, decide_eq_false (show ¬ w > 24 by omega)]
      obtain ⟨v, rfl⟩ := Int.eq_ofNat_of_zero_le hc.2.1
      have h := impl_RunPack_l l v (by omega) hc.1 (l.length + 1) 0 [] (by omega) (by omega) (by simp)
      rw [mn_lt _ _ (by omega)] at h
      refine Ev.step (f := fun k => impl_RunPack.l0 k l v [] 0) (fun k => by simp only [impl_RunPack.j0]; rw [if_neg (by simp)]) ?_
      exact h
    · rw [if_neg (fun h => hw h.2.2.1)]
      simp only [if_true, decide_eq_true (show w > 24 by omega)]; exact bad _ _
  · rw [if_neg hc, if_neg (fun h => hc ⟨h.1, h.2.1, by omega, h.2.2.2⟩)]
    simp only [Bool.false_eq_true, if_false]; exact bad _ _

theorem heldByteS_ev (n : Nat) (m : Int) (h0 : 0 ≤ m) (hm : m ≤ 1000000000000000000) (hn : n ≤ 1000000000000000000) :
    Ev (fun k => laws_heldByteS.f k (mk8 n m) m) (m + n) := by
  have key : ∀ (d : Nat) (i : Nat), i + d = n → Ev (fun k => laws_heldByteS.l0 k (mk8 n m) (m + i) i) (m + n) := by
    intro d
    induction d with
    | zero =>
      intro i hd
      refine Ev.step (f := fun _ => some (m + n)) (fun k => ?_) (Ev.now _)
      simp only [laws_heldByteS.l0]; rw [if_neg (by simp [mk8_len]; omega)]
      rw [show i = n by omega]
    | succ d ih =>
      intro i hd
      refine Ev.step (f := fun k => laws_heldByteS.l0 k (mk8 n m) (m + (i + 1 : Nat)) (i + 1 : Nat)) (fun k => ?_) (ih (i + 1) (by omega))
      simp only [laws_heldByteS.l0]; rw [if_pos (by simp [mk8_len]; omega), if_pos (by omega), if_pos (by rw [rd_mk8 _ _ _ (by omega) (by omega)]), wrap_id (by omega) (by omega), wrap_id (by omega) (by omega)]
      push_cast; rw [Int.add_assoc]
  have h := key n 0 (by omega)
  unfold laws_heldByteS.f
  simpa using h

theorem FnExactRunPack : laws_FnExactRunPack.Pure := by
  intro l w hlen hsz hl hw
  refine Ev.rounds (g := fun k => laws_FnExactRunPack.f k l w) ?_
  unfold laws_FnExactRunPack.f
  by_cases hbig : (l.length : Int) > 1048576
  · simp only [if_pos hbig]; exact Ev.now _
  simp only [if_neg hbig]
  have e1 := spec_RunPack_ev l w hl
  have e2 := impl_RunPack_ev l w hl
  have hln : (rpk l w).1.length ≤ 1000000000000000000 := by have := rpk_len l w; omega
  generalize rpk l w = r at e1 e2 hln
  obtain ⟨b, ok⟩ := r
  have hlen' : b.length ≤ 1000000000000000000 := hln
  refine Ev.bind (toIntS_ev l (by omega)) ?_
  refine Ev.bind e1 ?_
  refine Ev.bind (toIntS_ev l (by omega)) ?_
  refine Ev.bind e2 ?_
  refine Ev.bind (eqByteS_self _ hlen') ?_
  simp only [if_true, bne_self_eq_false]
  refine Ev.step (fun k => by simp only [laws_FnExactRunPack.j0]; rw [if_neg (by simp)]) ?_
  refine Ev.bind (toIntS_ev l (by omega)) ?_
  refine Ev.bind (eqIntS_self l (by omega)) ?_
  simp only [if_true]
  refine Ev.bind (markIntS_ev l 1 (by omega) (by omega) (by omega)) ?_
  simp only [if_neg (show ¬ (1 + (l.length : Int) < 0) by omega)]
  refine Ev.bind (eqByteS_self _ hlen') ?_
  simp only [if_true, bne_self_eq_false]
  refine Ev.step (fun k => by simp only [laws_FnExactRunPack.j1]; rw [if_neg (by simp)]) ?_
  refine Ev.bind (markByteS_ev _ 1 (by omega) (by omega) hlen') ?_
  refine Ev.bind (heldByteS_ev _ 1 (by omega) (by omega) hlen') ?_
  simp only [if_neg (show ¬ (1 + (b.length : Int) < 0) by omega), if_true]
  refine Ev.bind (toIntS_ev l (by omega)) ?_
  refine Ev.bind e2 ?_
  refine Ev.bind (eqByteS_self _ hlen') ?_
  simp only [if_true, bne_self_eq_false]
  refine Ev.step (fun k => by simp only [laws_FnExactRunPack.j2]; rw [if_neg (by simp)]) ?_
  refine Ev.bind (heldByteS_ev _ 1 (by omega) (by omega) hlen') ?_
  simp only [if_neg (show ¬ (1 + (b.length : Int) < 0) by omega), if_true]
  exact Ev.now _

end Go.Proofs.Ytbiibjbhgeenoaa.Pure
