/- CrcTable answers as the reference does. -/
import Derived.Test.YtoehjhmkeaofeaaPFnExactCrcTablex2
import Derived.Test.YtoehjhmkeaofeaaCom
namespace Go.Proofs.Ytoehjhmkeaofeaa.Pure
open Go Go.RowKit Go.Proofs.Ytoehjhmkeaofeaa.PFnExactCrcTable Go.Proofs.YtoehjhmkeaofeaaW.PrintWords Go.Proofs.YtoehjhmkeaofeaaW.PrintLast Go.Proofs.YtoehjhmkeaofeaaW.PrintMore Go.Proofs.Ytoehjhmkeaofeaa.Com
set_option linter.unusedVariables false
set_option linter.unusedSimpArgs false

theorem eqIntS_self (a : List Int) (hn : a.length ≤ 1000000000000000000) : Ev (fun k => laws_eqIntS.f k a a) true := by
  have key : ∀ (d : Nat) (i : Int), 0 ≤ i → i ≤ a.length → (a.length : Int) - i = d → Ev (fun k => laws_eqIntS.l0 k a a i) true := by
    intro d
    induction d with
    | zero =>
      intro i h0 h1 hd
      refine Ev.step (f := fun _ => some true) (fun k => ?_) (Ev.now _)
      simp only [laws_eqIntS.l0]; rw [if_neg (by omega)]
    | succ d ih =>
      intro i h0 h1 hd
      refine Ev.step (f := fun k => laws_eqIntS.l0 k a a (i + 1)) (fun k => ?_) (ih (i + 1) (by omega) (by omega) (by omega))
      simp only [laws_eqIntS.l0]; rw [if_pos (by omega), if_pos h0, if_pos (by omega), if_pos trivial, wrap_id (by omega) (by omega)]
  have h := key a.length 0 (by omega) (by omega) (by omega)
  unfold laws_eqIntS.f
  simpa using h

theorem markIntS_ev (a : List Int) (m : Int) (h0 : 0 ≤ m) (hm : m ≤ 1000000000000000000) (hn : a.length ≤ 1000000000000000000) :
    Ev (fun k => laws_markIntS.f k a m) (m + a.length, mk64 a.length m) := by
  have key : ∀ (d : Nat) (i : Nat) (r : List Int), r.length = d → i + d = a.length → Ev (fun k => laws_markIntS.l0 k (mk64 i m ++ r) (m + i) i) (m + a.length, mk64 a.length m) := by
    intro d
    induction d with
    | zero =>
      intro i r hr hd
      obtain rfl : r = [] := List.length_eq_zero_iff.1 hr
      refine Ev.step (f := fun _ => some (m + a.length, mk64 a.length m)) (fun k => ?_) (Ev.now _)
      simp only [laws_markIntS.l0]; rw [if_neg (by simp [mk64_len])]
      rw [show i = a.length by omega]; simp
    | succ d ih =>
      intro i r hr hd
      refine Ev.step (f := fun k => laws_markIntS.l0 k (mk64 (i + 1) m ++ r.tail) (m + (i + 1 : Nat)) (i + 1 : Nat)) (fun k => ?_) (ih (i + 1) r.tail (by simp [hr]) (by omega))
      simp only [laws_markIntS.l0]; rw [if_pos (by simp [mk64_len]; omega), if_pos (by omega), wrap_id (by omega) (by omega), wrap_id (by omega) (by omega)]
      rw [set_mid _ _ _ _ (by simp [mk64_len]) (by omega), mk64_succ]; push_cast; rw [Int.add_assoc]
  have h := key a.length 0 a rfl (by omega)
  unfold laws_markIntS.f
  simpa [mk64] using h

theorem heldIntS_ev (n : Nat) (m : Int) (h0 : 0 ≤ m) (hm : m ≤ 1000000000000000000) (hn : n ≤ 1000000000000000000) :
    Ev (fun k => laws_heldIntS.f k (mk64 n m) m) (m + n) := by
  have key : ∀ (d : Nat) (i : Nat), i + d = n → Ev (fun k => laws_heldIntS.l0 k (mk64 n m) (m + i) i) (m + n) := by
    intro d
    induction d with
    | zero =>
      intro i hd
      refine Ev.step (f := fun _ => some (m + n)) (fun k => ?_) (Ev.now _)
      simp only [laws_heldIntS.l0]; rw [if_neg (by simp [mk64_len]; omega)]
      rw [show i = n by omega]
    | succ d ih =>
      intro i hd
      refine Ev.step (f := fun k => laws_heldIntS.l0 k (mk64 n m) (m + (i + 1 : Nat)) (i + 1 : Nat)) (fun k => ?_) (ih (i + 1) (by omega))
      simp only [laws_heldIntS.l0]; rw [if_pos (by simp [mk64_len]; omega), if_pos (by omega), if_pos (by rw [rd_mk64 _ _ _ (by omega) (by omega)]), wrap_id (by omega) (by omega), wrap_id (by omega) (by omega)]
      push_cast; rw [Int.add_assoc]
  have h := key n 0 (by omega)
  unfold laws_heldIntS.f
  simpa using h

theorem spec_l3Turn_ev (n : Nat) (h : n < 4294967296) : Ev (fun k => spec_l3Turn.f k n) ((cn n : Nat) : Int) := by
  have key : ∀ (d i m : Nat), i + d = 8 → m < 4294967296 → Ev (fun k => spec_l3Turn.l0 k m i) ((citer d m : Nat) : Int) := by
    intro d
    induction d with
    | zero =>
      intro i m hi hm
      refine Ev.step (f := fun _ => some (m : Int)) (fun k => ?_) (Ev.now _)
      simp only [spec_l3Turn.l0]; rw [if_neg (by omega)]
    | succ d ih =>
      intro i m hi hm
      refine Ev.step (fun k => ?_) (ih (i + 1) (cstep m) (by omega) (cstep_lt m hm))
      simp only [spec_l3Turn.l0]
      rw [if_pos (by omega), and_one, Int.tdiv_eq_ediv_of_nonneg (by omega), wrap_id (n := (m : Int) / 2) (by omega) (by omega), wrap_id (n := (i : Int) + 1) (by omega) (by omega)]
      unfold cstep
      by_cases ho : m % 2 = 1
      · rw [if_pos (by omega), if_pos ho, show ((m : Int) / 2) = ((m / 2 : Nat) : Int) by omega, show (3988292384 : Int) = ((3988292384 : Nat) : Int) by rfl, xorN _ _ (by omega) (by decide)]
        push_cast; rfl
      · rw [if_neg (by omega), if_neg ho, show ((m : Int) / 2) = ((m / 2 : Nat) : Int) by omega]
        push_cast; rfl
  have := key 8 0 n (by omega) h
  unfold spec_l3Turn.f cn
  simpa using this

theorem impl_crcNumber_ev (n : Nat) (h : n < 4294967296) : Ev (fun k => impl_crcNumber.f k n) ((cn n : Nat) : Int) := by
  have key : ∀ (d i m : Nat), i + d = 8 → m < 4294967296 → Ev (fun k => impl_crcNumber.l0 k m i) ((citer d m : Nat) : Int) := by
    intro d
    induction d with
    | zero =>
      intro i m hi hm
      refine Ev.step (f := fun _ => some (m : Int)) (fun k => ?_) (Ev.now _)
      simp only [impl_crcNumber.l0]; rw [if_neg (by omega)]
    | succ d ih =>
      intro i m hi hm
      refine Ev.step (fun k => ?_) (ih (i + 1) (cstep m) (by omega) (cstep_lt m hm))
      simp only [impl_crcNumber.l0]
      rw [if_pos (by omega), Int.tmod_eq_emod_of_nonneg (by omega), Int.tdiv_eq_ediv_of_nonneg (by omega), wrap_id (n := (m : Int) / 2) (by omega) (by omega), wrap_id (n := (i : Int) + 1) (by omega) (by omega)]
      unfold cstep
      by_cases ho : m % 2 = 1
      · rw [if_pos (by omega), if_pos ho, show ((m : Int) / 2) = ((m / 2 : Nat) : Int) by omega, show (3988292384 : Int) = ((3988292384 : Nat) : Int) by rfl, xorN _ _ (by omega) (by decide)]
        push_cast; rfl
      · rw [if_neg (by omega), if_neg ho, show ((m : Int) / 2) = ((m / 2 : Nat) : Int) by omega]
        push_cast; rfl
  have := key 8 0 n (by omega) h
  unfold impl_crcNumber.f cn
  simpa using this

/-- The table. -/
def crctab : List Int := (List.range 256).map fun i : Nat => ((cn i : Nat) : Int)
theorem crctab_len : crctab.length = 256 := by simp [crctab]
theorem impl_CrcTable_ev : Ev (fun k => impl_CrcTable.f k) crctab := by
  have key : ∀ (d i : Nat), i + d = 256 → Ev (fun k => impl_CrcTable.l0 k ((List.range i).map fun i : Nat => ((cn i : Nat) : Int)) i) crctab := by
    intro d
    induction d with
    | zero =>
      intro i hi
      refine Ev.step (f := fun _ => some crctab) (fun k => ?_) (Ev.now _)
      simp only [impl_CrcTable.l0]; rw [if_neg (by omega), show i = 256 by omega]; rfl
    | succ d ih =>
      intro i hi
      have h := ih (i + 1) (by omega)
      rw [List.range_succ, List.map_append] at h
      refine Ev.step (f := fun k => (impl_crcNumber.f k (i : Int)).bind fun t => impl_CrcTable.l0 k (((List.range i).map fun i : Nat => ((cn i : Nat) : Int)) ++ [t]) ((i + 1 : Nat) : Int)) (fun k => ?_) ?_
      · simp only [impl_CrcTable.l0]; rw [if_pos (by omega), wrap_id (by omega) (by omega)]; simp only [if_pos (show (((List.range i).map fun i : Nat => ((cn i : Nat) : Int))).length < 17592186044416 by simp; omega)]; push_cast; rfl -- (by omega) (by omega)]; push_cast; rfl
      · refine Ev.bind (impl_crcNumber_ev i (by omega)) ?_
        exact h
  have := key 256 0 (by omega)
  unfold impl_CrcTable.f
  simpa using this

theorem spec_CrcTable_ev : Ev (fun k => spec_CrcTable.f k) crctab := by
  have key : ∀ (d i : Nat), i + d = 256 → Ev (fun k => spec_CrcTable.l0 k ((List.range i).map fun i : Nat => ((cn i : Nat) : Int)) i) crctab := by
    intro d
    induction d with
    | zero =>
      intro i hi
      refine Ev.step (f := fun _ => some crctab) (fun k => ?_) (Ev.now _)
      simp only [spec_CrcTable.l0]; rw [if_neg (by omega), show i = 256 by omega]; rfl
    | succ d ih =>
      intro i hi
      have h := ih (i + 1) (by omega)
      rw [List.range_succ, List.map_append] at h
      refine Ev.step (f := fun k => (spec_l3Turn.f k (i : Int)).bind fun t => spec_CrcTable.l0 k (((List.range i).map fun i : Nat => ((cn i : Nat) : Int)) ++ [t]) ((i + 1 : Nat) : Int)) (fun k => ?_) ?_
      · simp only [spec_CrcTable.l0]; rw [if_pos (by omega), wrap_id (by omega) (by omega)]; simp only [if_pos (show (((List.range i).map fun i : Nat => ((cn i : Nat) : Int))).length < 17592186044416 by simp; omega)]; push_cast; rfl -- (by omega) (by omega)]; push_cast; rfl
      · refine Ev.bind (spec_l3Turn_ev i (by omega)) ?_
        exact h
  have := key 256 0 (by omega)
  unfold spec_CrcTable.f
  simpa using this

theorem FnExactCrcTable : laws_FnExactCrcTable.Pure := by
  have e1 := spec_CrcTable_ev
  have e2 := impl_CrcTable_ev
  have hlen : crctab.length ≤ 1000000000000000000 := by rw [crctab_len]; decide
  generalize crctab = r at e1 e2 hlen
  refine Ev.rounds (g := fun k => laws_FnExactCrcTable.f k) ?_
  unfold laws_FnExactCrcTable.f
  refine Ev.bind e1 ?_
  refine Ev.bind e2 ?_
  refine Ev.bind (eqIntS_self _ hlen) ?_
  simp only [if_true]
  refine Ev.bind (markIntS_ev _ 1 (by omega) (by omega) hlen) ?_
  refine Ev.bind (heldIntS_ev _ 1 (by omega) (by omega) hlen) ?_
  simp only [if_neg (show ¬ (1 + (r.length : Int) < 0) by omega), if_true]
  refine Ev.bind e2 ?_
  refine Ev.bind (eqIntS_self _ hlen) ?_
  simp only [if_true]
  refine Ev.bind (heldIntS_ev _ 1 (by omega) (by omega) hlen) ?_
  simp only [if_neg (show ¬ (1 + (r.length : Int) < 0) by omega), if_true]
  exact Ev.now _

end Go.Proofs.Ytoehjhmkeaofeaa.Pure
