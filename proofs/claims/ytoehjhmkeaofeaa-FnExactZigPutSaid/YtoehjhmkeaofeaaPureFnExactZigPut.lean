/- ZigPut answers as the reference does, for every int. -/
import Derived.Test.YtoehjhmkeaofeaaPFnExactZigPutx2
import Derived.Test.YtoehjhmkeaofeaaCom
namespace Go.Proofs.Ytoehjhmkeaofeaa.Pure
open Go Go.RowKit Go.Proofs.Ytoehjhmkeaofeaa.PFnExactZigPut Go.Proofs.YtoehjhmkeaofeaaW.PrintWords Go.Proofs.YtoehjhmkeaofeaaW.PrintLast Go.Proofs.YtoehjhmkeaofeaaW.PrintMore Go.Proofs.Ytoehjhmkeaofeaa.Com
set_option linter.unusedVariables false
set_option linter.unusedSimpArgs false

theorem eqByteS_self (a : List Int) (hn : a.length ≤ 1000000000000000000) : Ev (fun k => laws_eqByteS.f k a a) true := by
  have key : ∀ (d : Nat) (i : Int), 0 ≤ i → i ≤ a.length → (a.length : Int) - i = d → Ev (fun k => laws_eqByteS.l0 k a a i) true := by
    intro d
    induction d with
    | zero =>
      intro i h0 h1 hd
      refine Ev.step (f := fun _ => some true) (fun k => ?_) (Ev.now _)
      simp only [laws_eqByteS.l0]; rw [if_neg (by omega)]
    | succ d ih =>
      intro i h0 h1 hd
      refine Ev.step (f := fun k => laws_eqByteS.l0 k a a (i + 1)) (fun k => ?_) (ih (i + 1) (by omega) (by omega) (by omega))
      simp only [laws_eqByteS.l0]; rw [if_pos (by omega), if_pos h0, if_pos (by omega), if_pos trivial, wrap_id (by omega) (by omega)]
  have h := key a.length 0 (by omega) (by omega) (by omega)
  unfold laws_eqByteS.f
  simpa using h

theorem markByteS_ev (a : List Int) (m : Int) (h0 : 0 ≤ m) (hm : m ≤ 1000000000000000000) (hn : a.length ≤ 1000000000000000000) :
    Ev (fun k => laws_markByteS.f k a m) (m + a.length, mk8 a.length m) := by
  have key : ∀ (d : Nat) (i : Nat) (r : List Int), r.length = d → i + d = a.length → Ev (fun k => laws_markByteS.l0 k (mk8 i m ++ r) (m + i) i) (m + a.length, mk8 a.length m) := by
    intro d
    induction d with
    | zero =>
      intro i r hr hd
      obtain rfl : r = [] := List.length_eq_zero_iff.1 hr
      refine Ev.step (f := fun _ => some (m + a.length, mk8 a.length m)) (fun k => ?_) (Ev.now _)
      simp only [laws_markByteS.l0]; rw [if_neg (by simp [mk8_len])]
      rw [show i = a.length by omega]; simp
    | succ d ih =>
      intro i r hr hd
      refine Ev.step (f := fun k => laws_markByteS.l0 k (mk8 (i + 1) m ++ r.tail) (m + (i + 1 : Nat)) (i + 1 : Nat)) (fun k => ?_) (ih (i + 1) r.tail (by simp [hr]) (by omega))
      simp only [laws_markByteS.l0]; rw [if_pos (by simp [mk8_len]; omega), if_pos (by omega), wrap_id (by omega) (by omega), wrap_id (by omega) (by omega)]
      rw [set_mid _ _ _ _ (by simp [mk8_len]) (by omega), mk8_succ]; push_cast; rw [Int.add_assoc]
  have h := key a.length 0 a rfl (by omega)
  unfold laws_markByteS.f
  simpa [mk8] using h
theorem heldByteS_ev (n : Nat) (m : Int) (h0 : 0 ≤ m) (hm : m ≤ 1000000000000000000) (hn : n ≤ 1000000000000000000) :
    Ev (fun k => laws_heldByteS.f k (mk8 n m) m) (m + n) := by
  have key : ∀ (d : Nat) (i : Nat), i + d = n → Ev (fun k => laws_heldByteS.l0 k (mk8 n m) (m + i) i) (m + n) := by
    intro d
    induction d with
    | zero =>
      intro i hd
      refine Ev.step (f := fun _ => some (m + n)) (fun k => ?_) (Ev.now _)
      simp only [laws_heldByteS.l0]; rw [if_neg (by simp [mk8_len]; omega)]
      rw [show i = n by omega]
    | succ d ih =>
      intro i hd
      refine Ev.step (f := fun k => laws_heldByteS.l0 k (mk8 n m) (m + (i + 1 : Nat)) (i + 1 : Nat)) (fun k => ?_) (ih (i + 1) (by omega))
      simp only [laws_heldByteS.l0]; rw [if_pos (by simp [mk8_len]; omega), if_pos (by omega), if_pos (by rw [rd_mk8 _ _ _ (by omega) (by omega)]), wrap_id (by omega) (by omega), wrap_id (by omega) (by omega)]
      push_cast; rw [Int.add_assoc]
  have h := key n 0 (by omega)
  unfold laws_heldByteS.f
  simpa using h

theorem impl_Zig_ev (a : Int) (h0 : -9223372036854775808 ≤ a) (h1 : a < 9223372036854775808) : impl_Zig.f a = some (zig a) := by
  unfold impl_Zig.f zig
  by_cases hn : a < 0
  · rw [if_pos hn, show a / 9223372036854775808 = -1 by omega, xor_m1]; congr 1; unfold wrap64; omega
  · rw [if_neg hn, show a / 9223372036854775808 = 0 by omega, xor_zero]; congr 1; unfold wrap64; omega

theorem impl_UvarPut_l (j : Nat) : ∀ (n : Nat) (acc : List Int), n < 18446744073709551616 → n < 128 ^ (j + 1) → acc.length + j ≤ 100000000000 →
    Ev (fun k => impl_UvarPut.l0 k n acc) (acc ++ uvb n) := by
  have last : ∀ (n : Nat) (acc : List Int), n < 128 → acc.length ≤ 100000000000 → Ev (fun k => impl_UvarPut.l0 k n acc) (acc ++ uvb n) := by
    intro n acc hs hl
    refine Ev.step (f := fun _ => some (acc ++ uvb n)) (fun k => ?_) (Ev.now _)
    simp only [impl_UvarPut.l0]
    rw [uvb, if_pos hs, if_neg (by omega), if_pos (by omega)]
    congr 3; omega
  induction j with
  | zero => intro n acc h hx hl; exact last n acc (by simpa using hx) (by omega)
  | succ j ih =>
    intro n acc h hx hl
    by_cases hs : n < 128
    · exact last n acc hs (by omega)
    · have hd : n / 128 < 128 ^ (j + 1) := by rw [Nat.div_lt_iff_lt_mul (by decide)]; rw [Nat.pow_succ] at hx; exact hx
      have h := ih (n / 128) (acc ++ [((n % 128 + 128 : Nat) : Int)]) (by omega) hd (by simp; omega)
      rw [List.append_assoc, List.singleton_append] at h
      rw [uvb, if_neg hs]
      refine Ev.step (fun k => ?_) h
      simp only [impl_UvarPut.l0]
      rw [if_pos (by omega), if_pos (by omega)]
      have e2 : (Go.bits .or .u64 (Go.bits .and .u64 (n : Int) 127) 128) % 256 = ((n % 128 + 128 : Nat) : Int) := by
        rw [and127u _ (by omega) (by omega), show (128 : Int) = 1 * 2 ^ 7 by rfl, or_addu _ 1 7 (by omega) (by omega) (by omega) (by omega)]; omega
      rw [e2]; congr 1
theorem impl_UvarPut_ev (x : Int) : Ev (fun k => impl_UvarPut.f k x) (uvb (ux x)) := by
  have h := impl_UvarPut_l 9 (ux x) [] (ux_lt x) (Nat.lt_of_lt_of_le (ux_lt x) (by decide)) (by simp)
  unfold impl_UvarPut.f
  rw [uwrap, show x % 18446744073709551616 = (ux x : Int) by unfold ux; omega]
  simpa using h

theorem impl_ZigPut_ev (x : Int) (h0 : -9223372036854775808 ≤ x) (h1 : x < 9223372036854775808) : Ev (fun k => impl_ZigPut.f k x) (uvb (ux (zig x))) := by
  unfold impl_ZigPut.f
  simp only [impl_Zig_ev x h0 h1, Option.bind_some]
  refine Ev.bind (impl_UvarPut_ev _) ?_
  exact Ev.now _

theorem spec_Zig_ev (a : Int) (h0 : -9223372036854775808 ≤ a) (h1 : a < 9223372036854775808) : spec_Zig.f a = some (zig a) := by
  unfold spec_Zig.f zig
  by_cases hn : a < 0
  · rw [if_pos hn, if_pos hn, xor_comm, xor_m1]; congr 1; unfold wrap64; omega
  · rw [if_neg hn, if_neg hn]; congr 1; rw [Int.mul_comm]

theorem spec_l2Down7 (a : Int) : spec_l2Down.f a 7 = some (a / 128 % 144115188075855872) := by
  unfold spec_l2Down.f
  rw [if_neg (by decide), if_pos (by decide), if_pos (by unfold wrap64; omega)]
  rw [shr64 _ _ (by decide) (by decide), show (wrap64 (64 - 7)) = 57 by unfold wrap64; omega, shl64 _ _ (by decide) (by decide)]
  rw [show wrap64 (wrap64 (1 * 2 ^ (57 : Int).toNat) - 1) = 2 ^ 57 - 1 by decide +kernel, and_mask _ 57 (by decide)]
  rfl

theorem spec_UvarPut_l (j : Nat) : ∀ (x : Int) (acc : List Int), -9223372036854775808 ≤ x → x < 9223372036854775808 → ux x < 128 ^ (j + 1) → acc.length + j ≤ 100000000000 →
    Ev (fun k => spec_UvarPut.l0 k x acc) (acc ++ uvb (ux x)) := by
  induction j with
  | zero =>
    intro x acc h0 h1 hx hl
    have hx' : ux x < 128 := by simpa using hx
    refine Ev.step (f := fun _ => some (acc ++ uvb (ux x))) (fun k => ?_) (Ev.now _)
    simp only [spec_UvarPut.l0, spec_l2Down7, Option.bind_some]
    rw [uvb, if_pos hx']
    unfold ux at hx' ⊢
    rw [if_pos (by omega), if_pos (by omega)]
    congr 3; omega
  | succ j ih =>
    intro x acc h0 h1 hx hl
    by_cases hs : ux x < 128
    · refine Ev.step (f := fun _ => some (acc ++ uvb (ux x))) (fun k => ?_) (Ev.now _)
      simp only [spec_UvarPut.l0, spec_l2Down7, Option.bind_some]
      rw [uvb, if_pos hs]
      unfold ux at hs ⊢
      rw [if_pos (by omega), if_pos (by omega)]
      congr 3; omega
    · have e : ux (x / 128 % 144115188075855872) = ux x / 128 := by unfold ux; omega
      have hd : ux x / 128 < 128 ^ (j + 1) := by rw [Nat.div_lt_iff_lt_mul (by decide)]; rw [Nat.pow_succ] at hx; exact hx
      have h := ih (x / 128 % 144115188075855872) (acc ++ [((ux x % 128 + 128 : Nat) : Int)]) (by omega) (by omega) (by rw [e]; exact hd) (by simp; omega)
      rw [e, List.append_assoc, List.singleton_append] at h
      rw [uvb, if_neg hs]
      refine Ev.step (fun k => ?_) h
      simp only [spec_UvarPut.l0, spec_l2Down7, Option.bind_some]
      unfold ux at hs
      rw [if_neg (by omega), if_pos (by omega)]
      have e2 : (wrap64 (Go.bits .and .i64 x 127 + 128)) % 256 = ((ux x % 128 + 128 : Nat) : Int) := by
        rw [show Go.bits .and .i64 x 127 = x % 128 from and_mask x 7 (by decide), wrap_id (by omega) (by omega)]; unfold ux; omega
      rw [e2]
theorem spec_UvarPut_ev (x : Int) (h0 : -9223372036854775808 ≤ x) (h1 : x < 9223372036854775808) : Ev (fun k => spec_UvarPut.f k x) (uvb (ux x)) := by
  have h := spec_UvarPut_l 9 x [] h0 h1 (Nat.lt_of_lt_of_le (ux_lt x) (by decide)) (by simp)
  simpa [spec_UvarPut.f] using h

theorem spec_ZigPut_ev (x : Int) (h0 : -9223372036854775808 ≤ x) (h1 : x < 9223372036854775808) : Ev (fun k => spec_ZigPut.f k x) (uvb (ux (zig x))) := by
  unfold spec_ZigPut.f
  simp only [spec_Zig_ev x h0 h1, Option.bind_some]
  have hr : -9223372036854775808 ≤ zig x ∧ zig x < 9223372036854775808 := wrap_rng _
  refine Ev.bind (spec_UvarPut_ev _ hr.1 hr.2) ?_
  exact Ev.now _

theorem FnExactZigPut : laws_FnExactZigPut.Pure := by
  intro x hx
  have hw := wf64 hx
  have e1 := spec_ZigPut_ev x hw.1 hw.2
  have e2 := impl_ZigPut_ev x hw.1 hw.2
  have hlen : (uvb (ux (zig x))).length ≤ 1000000000000000000 := by have := uvb_len10 _ (ux_lt (zig x)); omega
  generalize uvb (ux (zig x)) = r at e1 e2 hlen
  refine Ev.rounds (g := fun k => laws_FnExactZigPut.f k x) ?_
  unfold laws_FnExactZigPut.f
  refine Ev.bind e1 ?_
  refine Ev.bind e2 ?_
  refine Ev.bind (eqByteS_self _ hlen) ?_
  simp only [if_true]
  refine Ev.bind (markByteS_ev _ 1 (by omega) (by omega) hlen) ?_
  refine Ev.bind (heldByteS_ev _ 1 (by omega) (by omega) hlen) ?_
  simp only [if_neg (show ¬ (1 + (r.length : Int) < 0) by omega), if_true]
  refine Ev.bind (e2) ?_
  refine Ev.bind (eqByteS_self _ hlen) ?_
  simp only [if_true]
  refine Ev.bind (heldByteS_ev _ 1 (by omega) (by omega) hlen) ?_
  simp only [if_neg (show ¬ (1 + (r.length : Int) < 0) by omega), if_true]
  exact Ev.now _

end Go.Proofs.Ytoehjhmkeaofeaa.Pure
