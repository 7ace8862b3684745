-- Written by a program of this seat's prover (wip/myprint.sh) over the loaded functions.
import Derived.Test.YtjbghmdbceekiaaPFnExactTreePackx0
import Derived.Test.YtjbghmdbceekiaaPFnExactTreePackx3
namespace Go.Proofs.Ytjbghmdbceekiaa.PFnExactTreePack
open Go.RowKit Go.Proofs.YtjbghmdbceekiaaW.PrintWords Go.Proofs.YtjbghmdbceekiaaW.PrintLast Go.Proofs.YtjbghmdbceekiaaW.PrintMore
attribute [local go_sem] max2_int min2_int max_two min_two max_three min_three max_four min_four   -- for this text's walks alone
set_option linter.unusedVariables false
set_option linter.unusedSimpArgs false

mutual
def spec_l4Check.j0 : Nat → List (S74) → Int → Int → Bool → Option (Int)
 | 0, _, _, _, _ => none
 | k + 1, x0, x1, x2, x27 => if x27 = true then (some (-1)) else (if 0 ≤ x1 then (if x1 < (x0.length : Int) then (spec_l4Check.l0 k x0 x2 (wrap64 (x1 + 1)) 0 0 ((rd_T74 x0 x1).f0) ((rd_T74 x0 x1).f1) ((rd_T74 x0 x1).f2) ((rd_T74 x0 x1).f3) ((rd_T74 x0 x1).f4)) else (none)) else (none))
def spec_l4Check.l0 : Nat → List (S74) → Int → Int → Int → Int → Int → Int → Int → ByteArray → Int → Option (Int)
 | 0, _, _, _, _, _, _, _, _, _, _ => none
 | k + 1, x0, x2, x8, x9, x10, x141000, x141001, x141002, x141003, x141004 => if x10 < x141004 then (if x8 ≥ (x0.length : Int) then (some (-1)) else (if 0 ≤ x8 then (if x8 < (x0.length : Int) then (if x141000 = 9 then (if ((rd_T74 x0 x8).f0) = x141002 then (if ((rd_T74 x0 x8).f1) = 0 then (if x141000 = 12 then (if ((rd_T74 x0 x8).f1) ≤ x9 then (spec_l4Check.j2 k x0 x2 x8 x10 true x141000 x141001 x141002 x141003 x141004 ((rd_T74 x0 x8).f0) ((rd_T74 x0 x8).f1) ((rd_T74 x0 x8).f2) ((rd_T74 x0 x8).f3) ((rd_T74 x0 x8).f4)) else (spec_l4Check.j2 k x0 x2 x8 x10 (decide (((rd_T74 x0 x8).f1) > 1000)) x141000 x141001 x141002 x141003 x141004 ((rd_T74 x0 x8).f0) ((rd_T74 x0 x8).f1) ((rd_T74 x0 x8).f2) ((rd_T74 x0 x8).f3) ((rd_T74 x0 x8).f4))) else (spec_l4Check.j2 k x0 x2 x8 x10 false x141000 x141001 x141002 x141003 x141004 ((rd_T74 x0 x8).f0) ((rd_T74 x0 x8).f1) ((rd_T74 x0 x8).f2) ((rd_T74 x0 x8).f3) ((rd_T74 x0 x8).f4))) else (spec_l4Check.j2 k x0 x2 x8 x10 true x141000 x141001 x141002 x141003 x141004 ((rd_T74 x0 x8).f0) ((rd_T74 x0 x8).f1) ((rd_T74 x0 x8).f2) ((rd_T74 x0 x8).f3) ((rd_T74 x0 x8).f4))) else (spec_l4Check.j2 k x0 x2 x8 x10 true x141000 x141001 x141002 x141003 x141004 ((rd_T74 x0 x8).f0) ((rd_T74 x0 x8).f1) ((rd_T74 x0 x8).f2) ((rd_T74 x0 x8).f3) ((rd_T74 x0 x8).f4))) else (if x141000 = 12 then (if ((rd_T74 x0 x8).f1) ≤ x9 then (spec_l4Check.j2 k x0 x2 x8 x10 true x141000 x141001 x141002 x141003 x141004 ((rd_T74 x0 x8).f0) ((rd_T74 x0 x8).f1) ((rd_T74 x0 x8).f2) ((rd_T74 x0 x8).f3) ((rd_T74 x0 x8).f4)) else (spec_l4Check.j2 k x0 x2 x8 x10 (decide (((rd_T74 x0 x8).f1) > 1000)) x141000 x141001 x141002 x141003 x141004 ((rd_T74 x0 x8).f0) ((rd_T74 x0 x8).f1) ((rd_T74 x0 x8).f2) ((rd_T74 x0 x8).f3) ((rd_T74 x0 x8).f4))) else (spec_l4Check.j2 k x0 x2 x8 x10 false x141000 x141001 x141002 x141003 x141004 ((rd_T74 x0 x8).f0) ((rd_T74 x0 x8).f1) ((rd_T74 x0 x8).f2) ((rd_T74 x0 x8).f3) ((rd_T74 x0 x8).f4)))) else (none)) else (none))) else (some x8)
def spec_l4Check.j2 : Nat → List (S74) → Int → Int → Int → Bool → Int → Int → Int → ByteArray → Int → Int → Int → Int → ByteArray → Int → Option (Int)
 | 0, _, _, _, _, _, _, _, _, _, _, _, _, _, _, _ => none
 | k + 1, x0, x2, x8, x10, x78, x141000, x141001, x141002, x141003, x141004, x143000, x143001, x143002, x143003, x143004 => if x78 = true then (some (-1)) else ((spec_l4Check.f k x0 x8 (wrap64 (x2 + 1))).bind fun t143 => (if t143 < 0 then (some (-1)) else (spec_l4Check.l0 k x0 x2 t143 x143001 (wrap64 (x10 + 1)) x141000 x141001 x141002 x141003 x141004)))
def spec_l4Check.f : Nat → List (S74) → Int → Int → Option (Int)
 | 0, _, _, _ => none
 | k + 1, l0, a1, a2 => if a1 ≥ (l0.length : Int) then (spec_l4Check.j0 k l0 a1 a2 true) else (if a2 > 12 then (spec_l4Check.j0 k l0 a1 a2 true) else (if 0 ≤ a1 then (if a1 < (l0.length : Int) then ((spec_l4Plain.f k ((rd_T74 l0 a1).f0) ((rd_T74 l0 a1).f1) ((rd_T74 l0 a1).f2) ((rd_T74 l0 a1).f3) ((rd_T74 l0 a1).f4)).bind fun t138 => (spec_l4Check.j0 k l0 a1 a2 (!t138))) else (none)) else (none)))
end
theorem spec_l4Check.mono_l : ∀ k, (∀ y0 y1 y2, LeO (spec_l4Check.f k y0 y1 y2) (spec_l4Check.f (k + 1) y0 y1 y2)) ∧ (∀ y0 y1 y2 y3, LeO (spec_l4Check.j0 k y0 y1 y2 y3) (spec_l4Check.j0 (k + 1) y0 y1 y2 y3)) ∧ (∀ y0 y1 y2 y3 y4 y5 y6 y7 y8 y9, LeO (spec_l4Check.l0 k y0 y1 y2 y3 y4 y5 y6 y7 y8 y9) (spec_l4Check.l0 (k + 1) y0 y1 y2 y3 y4 y5 y6 y7 y8 y9)) ∧ (∀ y0 y1 y2 y3 y4 y5 y6 y7 y8 y9 y10 y11 y12 y13 y14, LeO (spec_l4Check.j2 k y0 y1 y2 y3 y4 y5 y6 y7 y8 y9 y10 y11 y12 y13 y14) (spec_l4Check.j2 (k + 1) y0 y1 y2 y3 y4 y5 y6 y7 y8 y9 y10 y11 y12 y13 y14))
 | 0 => ⟨fun _ _ _ r h => by simp [spec_l4Check.f] at h, fun _ _ _ _ r h => by simp [spec_l4Check.j0] at h, fun _ _ _ _ _ _ _ _ _ _ r h => by simp [spec_l4Check.l0] at h, fun _ _ _ _ _ _ _ _ _ _ _ _ _ _ _ r h => by simp [spec_l4Check.j2] at h⟩
 | k + 1 => by
  obtain ⟨ih0, ih1, ih2, ih3⟩ := spec_l4Check.mono_l k
  refine ⟨?_, ?_, ?_, ?_⟩
  ·intro y0 y1 y2
   unfold spec_l4Check.f
   repeat' first
   |(with_reducible exact ih0 _ _ _)
   |(with_reducible exact ih1 _ _ _ _)
   |(with_reducible exact ih2 _ _ _ _ _ _ _ _ _ _)
   |(with_reducible exact ih3 _ _ _ _ _ _ _ _ _ _ _ _ _ _ _)
   |(with_reducible exact spec_l4Plain.mono _ _ _ _ _ _)
   |(with_reducible exact LeO.refl _)
   |(with_reducible exact LeO.none _)
   |(with_reducible refine LeO.ite ?_ ?_)
   |(with_reducible refine LeO.bind ?_ (fun _ => ?_))
   | exact ih0 _ _ _
   | exact ih1 _ _ _ _
   | exact ih2 _ _ _ _ _ _ _ _ _ _
   | exact ih3 _ _ _ _ _ _ _ _ _ _ _ _ _ _ _
   | exact spec_l4Plain.mono _ _ _ _ _ _
   | exact LeO.none _
   | refine LeO.ite ?_ ?_
   | refine LeO.bind ?_ (fun _ => ?_)
  ·intro y0 y1 y2 y3
   unfold spec_l4Check.j0
   repeat' first
   |(with_reducible exact ih0 _ _ _)
   |(with_reducible exact ih1 _ _ _ _)
   |(with_reducible exact ih2 _ _ _ _ _ _ _ _ _ _)
   |(with_reducible exact ih3 _ _ _ _ _ _ _ _ _ _ _ _ _ _ _)
   |(with_reducible exact spec_l4Plain.mono _ _ _ _ _ _)
   |(with_reducible exact LeO.refl _)
   |(with_reducible exact LeO.none _)
   |(with_reducible refine LeO.ite ?_ ?_)
   |(with_reducible refine LeO.bind ?_ (fun _ => ?_))
   | exact ih0 _ _ _
   | exact ih1 _ _ _ _
   | exact ih2 _ _ _ _ _ _ _ _ _ _
   | exact ih3 _ _ _ _ _ _ _ _ _ _ _ _ _ _ _
   | exact spec_l4Plain.mono _ _ _ _ _ _
   | exact LeO.none _
   | refine LeO.ite ?_ ?_
   | refine LeO.bind ?_ (fun _ => ?_)
  ·intro y0 y1 y2 y3 y4 y5 y6 y7 y8 y9
   unfold spec_l4Check.l0
   repeat' first
   |(with_reducible exact ih0 _ _ _)
   |(with_reducible exact ih1 _ _ _ _)
   |(with_reducible exact ih2 _ _ _ _ _ _ _ _ _ _)
   |(with_reducible exact ih3 _ _ _ _ _ _ _ _ _ _ _ _ _ _ _)
   |(with_reducible exact spec_l4Plain.mono _ _ _ _ _ _)
   |(with_reducible exact LeO.refl _)
   |(with_reducible exact LeO.none _)
   |(with_reducible refine LeO.ite ?_ ?_)
   |(with_reducible refine LeO.bind ?_ (fun _ => ?_))
   | exact ih0 _ _ _
   | exact ih1 _ _ _ _
   | exact ih2 _ _ _ _ _ _ _ _ _ _
   | exact ih3 _ _ _ _ _ _ _ _ _ _ _ _ _ _ _
   | exact spec_l4Plain.mono _ _ _ _ _ _
   | exact LeO.none _
   | refine LeO.ite ?_ ?_
   | refine LeO.bind ?_ (fun _ => ?_)
  ·intro y0 y1 y2 y3 y4 y5 y6 y7 y8 y9 y10 y11 y12 y13 y14
   unfold spec_l4Check.j2
   repeat' first
   |(with_reducible exact ih0 _ _ _)
   |(with_reducible exact ih1 _ _ _ _)
   |(with_reducible exact ih2 _ _ _ _ _ _ _ _ _ _)
   |(with_reducible exact ih3 _ _ _ _ _ _ _ _ _ _ _ _ _ _ _)
   |(with_reducible exact spec_l4Plain.mono _ _ _ _ _ _)
   |(with_reducible exact LeO.refl _)
   |(with_reducible exact LeO.none _)
   |(with_reducible refine LeO.ite ?_ ?_)
   |(with_reducible refine LeO.bind ?_ (fun _ => ?_))
   | exact ih0 _ _ _
   | exact ih1 _ _ _ _
   | exact ih2 _ _ _ _ _ _ _ _ _ _
   | exact ih3 _ _ _ _ _ _ _ _ _ _ _ _ _ _ _
   | exact spec_l4Plain.mono _ _ _ _ _ _
   | exact LeO.none _
   | refine LeO.ite ?_ ?_
   | refine LeO.bind ?_ (fun _ => ?_)
theorem spec_l4Check.mono : ∀ a0 a1 a2 k, LeO (spec_l4Check.f k a0 a1 a2) (spec_l4Check.f (k + 1) a0 a1 a2) := by
 intro a0 a1 a2 k
 obtain ⟨ih0, ih1, ih2, ih3⟩ := spec_l4Check.mono_l k
 exact ih0 a0 a1 a2
set_option maxHeartbeats 8000000 in
set_option maxRecDepth 100000 in
theorem spec_l4Check.calls (k : Nat) : ∀ (A0 : Option Addr) (c0 : Nat) (l0 : List (S74)) (a1 : Int) (a2 : Int) (r : Int) (w : World) (hr0 : Kd.C k74 w A0 l0.length l0) (hc0 : l0.length ≤ c0) (h : spec_l4Check.f k l0 a1 a2 = some r),
  Calls Try.prog 67 #[.slice A0 l0.length c0, .int .i64 a1, .int .i64 a2] w fun e w' => e = .returned (.int .i64 r) ∧ Below w.heap.size w w' := by
 induction k using Nat.strongRecOn with
 | _ k ih =>
 intro A0 c0 l0 a1 a2 r w hr0 hc0 h
 cases k with
 | zero => exact absurd h (by simp [spec_l4Check.f])
 | succ k =>
 simp only [spec_l4Check.f] at h
 have hu74 := Try.underlying74
 have HR0 := Aside0.mk hr0
 have HC0 := Aside0.mk hc0
 clear hr0 hc0
 have HB := Aside0.mk (Below.refl w.heap.size w)
 have H : (if a1 ≥ (l0.length : Int) then (spec_l4Check.j0 k l0 a1 a2 true) else (if a2 > 12 then (spec_l4Check.j0 k l0 a1 a2 true) else (if 0 ≤ a1 then (if a1 < (l0.length : Int) then ((spec_l4Plain.f k ((rd_T74 l0 a1).f0) ((rd_T74 l0 a1).f1) ((rd_T74 l0 a1).f2) ((rd_T74 l0 a1).f3) ((rd_T74 l0 a1).f4)).bind fun t138 => (spec_l4Check.j0 k l0 a1 a2 (!t138))) else (none)) else (none)))) = some r := h
 clear h
 have HC4 := Aside0.mk H
 clear H
 go_enter Try.func67, Try.ntmps67
 go_upto_region 1 with (fail)
 go_cut [27] (fun v27 wc => ∃ (kq : Nat) (x27_3 : Bool), v27 = .bool x27_3 ∧ Aside0 (spec_l4Check.j0 kq l0 a1 a2 x27_3 = some r) ∧ Aside0 (kq ≤ k) ∧ Aside0 (Below w.heap.size w wc))
 case first =>
  have H := HC4.out
  clear HC4
  by_cases c5 : a1 ≥ (l0.length : Int)
  ·rw [if_pos c5] at H
   have c5b0 : decide ((l0.length : Int) ≤ a1) = true := decide_eq_true c5
   clear c5
   (first|rw [c5b0]|(simp only [i64_w, i32_w];rw [c5b0])|rw [c5b2]|skip)
   have H' := Aside0.mk H
   clear H
   go_wp2
   go_meet
   case rel => exact ⟨_, (true), (by first|rfl|(simp;done)|(simp [*];done)), H', ⟨by first|omega|exact Nat.le_refl _⟩, ⟨by repeat (first|(with_reducible first|exact HB.out|apply below_alloc|apply pw_below_drewN|apply below_drew1)|exact HB.out)⟩⟩
  ·rw [if_neg c5] at H
   have c5b0 : decide ((l0.length : Int) ≤ a1) = false := decide_eq_false c5
   clear c5
   (first|rw [c5b0]|(simp only [i64_w, i32_w];rw [c5b0])|rw [c5b2]|skip)
   by_cases c6 : a2 > 12
   ·rw [if_pos c6] at H
    have c6b0 : decide (12 < a2) = true := decide_eq_true c6
    clear c6
    have H' := Aside0.mk H
    clear H
    go_wp2
    go_meet
    case rel => exact ⟨_, (true), (by first|rfl|(simp;done)|(simp [*];done)), H', ⟨by first|omega|exact Nat.le_refl _⟩, ⟨by repeat (first|(with_reducible first|exact HB.out|apply below_alloc|apply pw_below_drewN|apply below_drew1)|exact HB.out)⟩⟩
   ·rw [if_neg c6] at H
    have c6b0 : decide (12 < a2) = false := decide_eq_false c6
    clear c6
    by_cases c7 : 0 ≤ a1
    ·rw [if_pos c7] at H
     have c7b0 : decide (0 ≤ a1) = true := decide_eq_true c7
     clear c7
     by_cases c8 : a1 < (l0.length : Int)
     ·rw [if_pos c8] at H
      have c8b0 : decide (a1 < (l0.length : Int)) = true := decide_eq_true c8
      clear c8
      replace H := Option.bind_eq_some_iff.mp H
      obtain ⟨t138, A90, H⟩ := H
      replace H : (spec_l4Check.j0 k l0 a1 a2 (!t138)) = some r := H
      have A9 := Aside0.mk A90
      clear A90
      have H' := Aside0.mk H
      clear H
      have p137 : 0 ≤ (a1 : Int) := of_decide_eq_true (by first|(with_reducible assumption)|assumption)
      have q137 : a1 < (l0.length : Int) := of_decide_eq_true (by first|(with_reducible assumption)|assumption)
      obtain ⟨ad137, e137, hx137_0, hx137_1, hx137_2, hx137_3, hx137_4⟩ := at_T74 HR0.out a1 p137 q137
      cases e137
      replace hx137_0 := (HB.out.cell (World.block_lt_of_cell? w _ hx137_0)).trans hx137_0
      replace hx137_1 := (HB.out.cell (World.block_lt_of_cell? w _ hx137_1)).trans hx137_1
      replace hx137_2 := (HB.out.cell (World.block_lt_of_cell? w _ hx137_2)).trans hx137_2
      replace hx137_3 := (HB.out.cell (World.block_lt_of_cell? w _ hx137_3)).trans hx137_3
      replace hx137_4 := (HB.out.cell (World.block_lt_of_cell? w _ hx137_4)).trans hx137_4
      replace p137 := eq_true p137
      replace q137 := eq_true q137
      go_wp2_with (first|(go_at_call 93;(with_reducible refine (spec_l4Plain.calls k ((rd_T74 l0 a1).f0) ((rd_T74 l0 a1).f1) ((rd_T74 l0 a1).f2) ((rd_T74 l0 a1).f3) ((rd_T74 l0 a1).f4) t138 _ A9.out).mono ?_);rintro e w10 ⟨rfl, hb⟩;have n0_ := Aside0.mk (below_step (by repeat (first|(with_reducible first|exact HB.out|apply below_alloc|apply pw_below_drewN|apply below_drew1)|exact HB.out)) hb);clear HB;have HB := n0_;clear n0_;(try clear hb);(try clear hb2);(try clear hk);(try clear hi)))
      go_meet
      case rel => exact ⟨_, (!t138), (by first|rfl|(simp;done)|(simp [*];done)), H', ⟨by first|omega|exact Nat.le_refl _⟩, ⟨by repeat (first|(with_reducible first|exact HB.out|apply below_alloc|apply pw_below_drewN|apply below_drew1)|exact HB.out)⟩⟩
     ·rw [if_neg c8] at H
      exact absurd H (by simp)
    ·rw [if_neg c7] at H
     exact absurd H (by simp)
 case rest =>
  clear HC4
  try clear p1
  try clear q1
  try clear hx1
  try clear p2
  try clear c5
  try clear c5b0
  try clear c5b2
  try clear c6
  try clear c6b0
  try clear c7
  try clear c7b0
  try clear c8
  try clear c8b0
  try clear hx137_0
  try clear hx137_1
  try clear hx137_2
  try clear hx137_3
  try clear hx137_4
  try clear p137
  try clear q137
  obtain ⟨kq, x27_3, rfl, HA, HJ3, HB⟩ := hcut
  cases kq with
  | zero => exact absurd HA.out (by simp [spec_l4Check.j0])
  | succ kj3 =>
   have H := HA.out
   clear HA
   simp only [spec_l4Check.j0] at H
   by_cases c11 : x27_3 = true
   ·subst c11
    have H1 : (some (-1)) = some r := by rw [if_pos rfl] at H;exact H
    clear H
    have H := H1
    clear H1
    obtain rfl := Option.some.inj H
    go_wp2
    go_ret
    exact ⟨by first|rfl|(simp [errW_none, errW_some] <;> rfl)|(simp [*, errW_none, errW_some] <;> rfl)|(exfalso;simp only [Bool.not_eq_true', Bool.not_eq_false', decide_eq_false_iff_not, decide_eq_true_eq, decide_eq_decide, Int.not_lt, Int.not_le] at *;omega), by repeat (first|(with_reducible first|exact HB.out|apply below_alloc|apply pw_below_drewN|apply below_drew1)|exact HB.out)⟩
   ·replace c11 := Bool.eq_false_iff.mpr c11
    subst c11
    have H1 : (if 0 ≤ a1 then (if a1 < (l0.length : Int) then (spec_l4Check.l0 kj3 l0 a2 (wrap64 (a1 + 1)) 0 0 ((rd_T74 l0 a1).f0) ((rd_T74 l0 a1).f1) ((rd_T74 l0 a1).f2) ((rd_T74 l0 a1).f3) ((rd_T74 l0 a1).f4)) else (none)) else (none)) = some r := by rw [if_neg (show ¬ (false = true) by decide)] at H;exact H
    clear H
    have H := H1
    clear H1
    by_cases c12 : 0 ≤ a1
    ·rw [if_pos c12] at H
     have c12b0 : decide (0 ≤ a1) = true := decide_eq_true c12
     clear c12
     by_cases c13 : a1 < (l0.length : Int)
     ·rw [if_pos c13] at H
      have c13b0 : decide (a1 < (l0.length : Int)) = true := decide_eq_true c13
      clear c13
      have H' := Aside0.mk H
      clear H
      have p139 : 0 ≤ (a1 : Int) := of_decide_eq_true (by first|(with_reducible assumption)|assumption)
      have q139 : a1 < (l0.length : Int) := of_decide_eq_true (by first|(with_reducible assumption)|assumption)
      obtain ⟨ad139, e139, hx139_0, hx139_1, hx139_2, hx139_3, hx139_4⟩ := at_T74 HR0.out a1 p139 q139
      cases e139
      replace hx139_0 := (HB.out.cell (World.block_lt_of_cell? w _ hx139_0)).trans hx139_0
      replace hx139_1 := (HB.out.cell (World.block_lt_of_cell? w _ hx139_1)).trans hx139_1
      replace hx139_2 := (HB.out.cell (World.block_lt_of_cell? w _ hx139_2)).trans hx139_2
      replace hx139_3 := (HB.out.cell (World.block_lt_of_cell? w _ hx139_3)).trans hx139_3
      replace hx139_4 := (HB.out.cell (World.block_lt_of_cell? w _ hx139_4)).trans hx139_4
      replace p139 := eq_true p139
      replace q139 := eq_true q139
      go_wp2_with (first|((with_reducible refine gate_dst (N := 7) rfl ?_);refine box_event ?hg (N := 7) ?hd (cs := #[.int .i64 0, .int .i64 0, .int .i64 0, .string (⟨#[]⟩ : ByteArray), .int .i64 0]) (t := 74) ?hr ?_;(case hd => rfl);(case hg => rfl);(case hr => first|(go_simp;done)|(go_simp;rfl));intro gb140 hg w14 hbox hb;have n0_ := Aside0.mk (below_step (by repeat (first|(with_reducible first|exact HB.out|apply below_alloc|apply pw_below_drewN|apply below_drew1)|exact HB.out)) hb);have n1_ := Aside0.mk (hbox);have n2_ := Aside0.mk ((by rw [hg];exact (below_size (by repeat (first|(with_reducible first|exact HB.out|apply below_alloc|apply pw_below_drewN|apply below_drew1)|exact HB.out))) : w.heap.size ≤ gb140));have n3_ := Aside0.mk ((by rw [hg];exact (below_size (by repeat (first|(with_reducible first|exact HB.out|apply below_alloc|apply pw_below_drewN|apply below_drew1)|exact HB.out))) : w.heap.size ≤ gb140));clear HB;have HB := n0_;have BK140 := n1_;have GW140 := n2_;have GE140 := n3_;clear n0_ n1_ n2_ n3_;clear hb hbox hg;obtain ⟨hcz15_0, hcz15_1, hcz15_2, hcz15_3, hcz15_4, hfz15_0, hfz15_1, hfz15_2, hfz15_3, hfz15_4⟩ := blk5_ BK140.out))
      go_loopg [8, 9, 10] kj3 (fun kq v8 v9 v10 w' => ∃ (x8_2 : Int) (x9_2 : Int) (x10_2 : Int), v8 = .int .i64 x8_2 ∧ v9 = .int .i64 x9_2 ∧ v10 = .int .i64 x10_2 ∧ Aside0 (spec_l4Check.l0 kq l0 a2 x8_2 x9_2 x10_2 ((rd_T74 l0 a1).f0) ((rd_T74 l0 a1).f1) ((rd_T74 l0 a1).f2) ((rd_T74 l0 a1).f3) ((rd_T74 l0 a1).f4) = some r) ∧ Aside0 (kq ≤ kj3) ∧ Aside0 (w'.heap[gb140]? = some (.cells #[.int .i64 ((rd_T74 l0 a1).f0), .int .i64 ((rd_T74 l0 a1).f1), .int .i64 ((rd_T74 l0 a1).f2), .string ((rd_T74 l0 a1).f3), .int .i64 ((rd_T74 l0 a1).f4)] 74 (0, 0))) ∧ Aside0 (Below w.heap.size w w'))
      case atStart => exact ⟨(wrap64 (a1 + 1)), (0), (0), (by first|rfl|(simp;done)|(simp [*];done)), (by first|rfl|(simp;done)|(simp [*];done)), (by first|rfl|(simp;done)|(simp [*];done)), H', ⟨Nat.le_refl _⟩, ⟨by (with_reducible repeat (first|refine blk_drewN ?_ _|refine blk_drew ?_|refine blk_alloc ?_ _));refine blk_put (cs := #[.int .i64 ((rd_T74 l0 a1).f0), .int .i64 ((rd_T74 l0 a1).f1), .int .i64 ((rd_T74 l0 a1).f2), .string ((rd_T74 l0 a1).f3), .int .i64 0]) ?_ 4 _ rfl;(with_reducible repeat (first|refine blk_drewN ?_ _|refine blk_drew ?_|refine blk_alloc ?_ _));refine blk_put (cs := #[.int .i64 ((rd_T74 l0 a1).f0), .int .i64 ((rd_T74 l0 a1).f1), .int .i64 ((rd_T74 l0 a1).f2), .string (⟨#[]⟩ : ByteArray), .int .i64 0]) ?_ 3 _ rfl;(with_reducible repeat (first|refine blk_drewN ?_ _|refine blk_drew ?_|refine blk_alloc ?_ _));refine blk_put (cs := #[.int .i64 ((rd_T74 l0 a1).f0), .int .i64 ((rd_T74 l0 a1).f1), .int .i64 0, .string (⟨#[]⟩ : ByteArray), .int .i64 0]) ?_ 2 _ rfl;(with_reducible repeat (first|refine blk_drewN ?_ _|refine blk_drew ?_|refine blk_alloc ?_ _));refine blk_put (cs := #[.int .i64 ((rd_T74 l0 a1).f0), .int .i64 0, .int .i64 0, .string (⟨#[]⟩ : ByteArray), .int .i64 0]) ?_ 1 _ rfl;(with_reducible repeat (first|refine blk_drewN ?_ _|refine blk_drew ?_|refine blk_alloc ?_ _));refine blk_put (cs := #[.int .i64 0, .int .i64 0, .int .i64 0, .string (⟨#[]⟩ : ByteArray), .int .i64 0]) ?_ 0 _ rfl;(with_reducible repeat (first|refine blk_drewN ?_ _|refine blk_drew ?_|refine blk_alloc ?_ _));exact BK140.out⟩, ⟨by repeat (first|(with_reducible first|exact HB.out|apply below_alloc|apply pw_below_drewN|apply below_drew1|refine below_set ?_ GE140.out)|exact HB.out)⟩⟩
      case round =>
       clear H'
       try clear c1
       try clear p1
       try clear q1
       try clear hx1
       try clear p2
       try clear c5
       try clear c5b0
       try clear c5b2
       try clear c6
       try clear c6b0
       try clear p6
       try clear c7
       try clear c7b0
       try clear c8
       try clear c8b0
       try clear c11
       try clear c12
       try clear c12b0
       try clear c13
       try clear c13b0
       try clear p13
       try clear q13
       try clear hx13
       try clear hcz15_0
       try clear hcz15_1
       try clear hcz15_2
       try clear hcz15_3
       try clear hcz15_4
       try clear hfz15_0
       try clear hfz15_1
       try clear hfz15_2
       try clear hfz15_3
       try clear hfz15_4
       try clear hx137_0
       try clear hx137_1
       try clear hx137_2
       try clear hx137_3
       try clear hx137_4
       try clear hx139_0
       try clear hx139_1
       try clear hx139_2
       try clear hx139_3
       try clear hx139_4
       try clear p1
       try clear p137
       try clear p139
       try clear p2
       try clear q1
       try clear q137
       try clear q139
       obtain ⟨x8_2, x9_2, x10_2, rfl, rfl, rfl, HA, HK2, BK140, HB⟩ := hrel
       cases gk with
       | zero => exact absurd HA.out (by simp [spec_l4Check.l0])
       | succ k2 =>
        have H := HA.out
        clear HA
        simp only [spec_l4Check.l0] at H
        by_cases c16 : x10_2 < ((rd_T74 l0 a1).f4)
        ·rw [if_pos c16] at H
         have c16b0 : decide (x10_2 < ((rd_T74 l0 a1).f4)) = true := decide_eq_true c16
         clear c16
         by_cases c17 : x8_2 ≥ (l0.length : Int)
         ·rw [if_pos c17] at H
          have c17b0 : decide ((l0.length : Int) ≤ x8_2) = true := decide_eq_true c17
          clear c17
          obtain rfl := Option.some.inj H
          obtain ⟨hcz18_0, hcz18_1, hcz18_2, hcz18_3, hcz18_4, hfz18_0, hfz18_1, hfz18_2, hfz18_3, hfz18_4⟩ := blk5_ BK140.out
          go_wp2
          go_ret
          exact ⟨by first|rfl|(simp [errW_none, errW_some] <;> rfl)|(simp [*, errW_none, errW_some] <;> rfl)|(exfalso;simp only [Bool.not_eq_true', Bool.not_eq_false', decide_eq_false_iff_not, decide_eq_true_eq, decide_eq_decide, Int.not_lt, Int.not_le] at *;omega), by repeat (first|(with_reducible first|exact HB.out|apply below_alloc|apply pw_below_drewN|apply below_drew1|refine below_set ?_ GE140.out)|exact HB.out)⟩
         ·rw [if_neg c17] at H
          have c17b0 : decide ((l0.length : Int) ≤ x8_2) = false := decide_eq_false c17
          clear c17
          by_cases c19 : 0 ≤ x8_2
          ·rw [if_pos c19] at H
           have c19b0 : decide (0 ≤ x8_2) = true := decide_eq_true c19
           clear c19
           by_cases c20 : x8_2 < (l0.length : Int)
           ·rw [if_pos c20] at H
            have c20b0 : decide (x8_2 < (l0.length : Int)) = true := decide_eq_true c20
            clear c20
            have HC21 := Aside0.mk H
            clear H
            obtain ⟨hcz22_0, hcz22_1, hcz22_2, hcz22_3, hcz22_4, hfz22_0, hfz22_1, hfz22_2, hfz22_3, hfz22_4⟩ := blk5_ BK140.out
            have p141 : 0 ≤ (x8_2 : Int) := of_decide_eq_true (by first|(with_reducible assumption)|assumption)
            have q141 : x8_2 < (l0.length : Int) := of_decide_eq_true (by first|(with_reducible assumption)|assumption)
            obtain ⟨ad141, e141, hx141_0, hx141_1, hx141_2, hx141_3, hx141_4⟩ := at_T74 HR0.out x8_2 p141 q141
            obtain rfl : ad139 = ad141 := (by injection e141)
            replace hx141_0 := (HB.out.cell (World.block_lt_of_cell? w _ hx141_0)).trans hx141_0
            replace hx141_1 := (HB.out.cell (World.block_lt_of_cell? w _ hx141_1)).trans hx141_1
            replace hx141_2 := (HB.out.cell (World.block_lt_of_cell? w _ hx141_2)).trans hx141_2
            replace hx141_3 := (HB.out.cell (World.block_lt_of_cell? w _ hx141_3)).trans hx141_3
            replace hx141_4 := (HB.out.cell (World.block_lt_of_cell? w _ hx141_4)).trans hx141_4
            replace p141 := eq_true p141
            replace q141 := eq_true q141
            go_upto_region 12 with (first|((with_reducible refine gate_dst (N := 11) rfl ?_);refine box_event ?hg (N := 11) ?hd (cs := #[.int .i64 0, .int .i64 0, .int .i64 0, .string (⟨#[]⟩ : ByteArray), .int .i64 0]) (t := 74) ?hr ?_;(case hd => rfl);(case hg => rfl);(case hr => first|(go_simp;done)|(go_simp;rfl));intro gb142 hg w23 hbox hb;have n0_ := Aside0.mk (blk_below (g := gb140) (o := .cells #[.int .i64 ((rd_T74 l0 a1).f0), .int .i64 ((rd_T74 l0 a1).f1), .int .i64 ((rd_T74 l0 a1).f2), .string ((rd_T74 l0 a1).f3), .int .i64 ((rd_T74 l0 a1).f4)] 74 (0, 0)) (by (with_reducible repeat (first|refine blk_drewN ?_ _|refine blk_drew ?_|refine blk_alloc ?_ _));exact BK140.out) hb);have n1_ := Aside0.mk (below_step (by repeat (first|(with_reducible first|exact HB.out|apply below_alloc|apply pw_below_drewN|apply below_drew1|refine below_set ?_ GE140.out)|exact HB.out)) hb);have n2_ := Aside0.mk (hbox);have n3_ := Aside0.mk ((by rw [hg];exact (below_size (by repeat (first|(with_reducible first|exact HB.out|apply below_alloc|apply pw_below_drewN|apply below_drew1|refine below_set ?_ GE140.out)|exact HB.out))) : w.heap.size ≤ gb142));have n4_ := Aside0.mk ((by rw [hg];exact (below_size (by repeat (first|(with_reducible first|exact HB.out|apply below_alloc|apply pw_below_drewN|apply below_drew1|refine below_set ?_ GE140.out)|exact HB.out))) : w.heap.size ≤ gb142));have n5_ := Aside0.mk ((by rw [hg];exact Nat.ne_of_lt (blk_lt (g := gb140) (o := .cells #[.int .i64 ((rd_T74 l0 a1).f0), .int .i64 ((rd_T74 l0 a1).f1), .int .i64 ((rd_T74 l0 a1).f2), .string ((rd_T74 l0 a1).f3), .int .i64 ((rd_T74 l0 a1).f4)] 74 (0, 0)) (by (with_reducible repeat (first|refine blk_drewN ?_ _|refine blk_drew ?_|refine blk_alloc ?_ _));exact BK140.out)) : gb140 ≠ gb142));have n6_ := Aside0.mk ((by rw [hg];exact Nat.ne_of_gt (blk_lt (g := gb140) (o := .cells #[.int .i64 ((rd_T74 l0 a1).f0), .int .i64 ((rd_T74 l0 a1).f1), .int .i64 ((rd_T74 l0 a1).f2), .string ((rd_T74 l0 a1).f3), .int .i64 ((rd_T74 l0 a1).f4)] 74 (0, 0)) (by (with_reducible repeat (first|refine blk_drewN ?_ _|refine blk_drew ?_|refine blk_alloc ?_ _));exact BK140.out)) : gb142 ≠ gb140));clear BK140;clear HB;have BK140 := n0_;have HB := n1_;have BK142 := n2_;have GW142 := n3_;have GE142 := n4_;have NB140_142 := n5_;have NB142_140 := n6_;clear n0_ n1_ n2_ n3_ n4_ n5_ n6_;clear hb hbox hg;have hnb24 := NB142_140.out;have hnc24 := NB140_142.out;obtain ⟨hcz25_0, hcz25_1, hcz25_2, hcz25_3, hcz25_4, hfz25_0, hfz25_1, hfz25_2, hfz25_3, hfz25_4⟩ := blk5_ BK142.out))
            (try simp only [Act.put, List.setIfInBounds_toArray, List.set_cons_zero, List.set_cons_succ])
            go_cut [78] (fun v78 wc => ∃ (kq : Nat) (x78_20 : Bool), v78 = .bool x78_20 ∧ Aside0 (spec_l4Check.j2 kq l0 a2 x8_2 x10_2 x78_20 ((rd_T74 l0 a1).f0) ((rd_T74 l0 a1).f1) ((rd_T74 l0 a1).f2) ((rd_T74 l0 a1).f3) ((rd_T74 l0 a1).f4) ((rd_T74 l0 x8_2).f0) ((rd_T74 l0 x8_2).f1) ((rd_T74 l0 x8_2).f2) ((rd_T74 l0 x8_2).f3) ((rd_T74 l0 x8_2).f4) = some r) ∧ Aside0 (kq ≤ k2) ∧ Aside0 (wc.heap[gb140]? = some (.cells #[.int .i64 ((rd_T74 l0 a1).f0), .int .i64 ((rd_T74 l0 a1).f1), .int .i64 ((rd_T74 l0 a1).f2), .string ((rd_T74 l0 a1).f3), .int .i64 ((rd_T74 l0 a1).f4)] 74 (0, 0))) ∧ Aside0 (wc.heap[gb142]? = some (.cells #[.int .i64 ((rd_T74 l0 x8_2).f0), .int .i64 ((rd_T74 l0 x8_2).f1), .int .i64 ((rd_T74 l0 x8_2).f2), .string ((rd_T74 l0 x8_2).f3), .int .i64 ((rd_T74 l0 x8_2).f4)] 74 (0, 0))) ∧ Aside0 (Below w.heap.size w wc))
            case first =>
             have H := HC21.out
             clear HC21
             by_cases c26 : ((rd_T74 l0 a1).f0) = 9
             ·rw [if_pos c26] at H
              have c26b0 : (((rd_T74 l0 a1).f0) == 9) = true := beq_iff_eq.mpr c26
              have c26b1 : (((rd_T74 l0 a1).f0) != 9) = false := bne_eq_false_iff_eq.mpr c26
              clear c26
              (first|rw [c26b0]|(simp only [i64_w, i32_w];rw [c26b0])|rw [c26b2]|skip)
              by_cases c27 : ((rd_T74 l0 x8_2).f0) = ((rd_T74 l0 a1).f2)
              ·rw [if_pos c27] at H
               have c27b0 : (((rd_T74 l0 x8_2).f0) == ((rd_T74 l0 a1).f2)) = true := beq_iff_eq.mpr c27
               have c27b1 : (((rd_T74 l0 x8_2).f0) != ((rd_T74 l0 a1).f2)) = false := bne_eq_false_iff_eq.mpr c27
               clear c27
               by_cases c28 : ((rd_T74 l0 x8_2).f1) = 0
               ·rw [if_pos c28] at H
                have c28b0 : (((rd_T74 l0 x8_2).f1) == 0) = true := beq_iff_eq.mpr c28
                have c28b1 : (((rd_T74 l0 x8_2).f1) != 0) = false := bne_eq_false_iff_eq.mpr c28
                clear c28
                by_cases c29 : ((rd_T74 l0 a1).f0) = 12
                ·rw [if_pos c29] at H
                 have c29b0 : (((rd_T74 l0 a1).f0) == 12) = true := beq_iff_eq.mpr c29
                 have c29b1 : (((rd_T74 l0 a1).f0) != 12) = false := bne_eq_false_iff_eq.mpr c29
                 clear c29
                 by_cases c30 : ((rd_T74 l0 x8_2).f1) ≤ x9_2
                 ·rw [if_pos c30] at H
                  have c30b0 : decide (((rd_T74 l0 x8_2).f1) ≤ x9_2) = true := decide_eq_true c30
                  clear c30
                  have H' := Aside0.mk H
                  clear H
                  have hnb31 := NB140_142.out
                  have hnc31 := NB142_140.out
                  obtain ⟨hcz32_0, hcz32_1, hcz32_2, hcz32_3, hcz32_4, hfz32_0, hfz32_1, hfz32_2, hfz32_3, hfz32_4⟩ := blk5_ BK140.out
                  obtain ⟨hcz33_0, hcz33_1, hcz33_2, hcz33_3, hcz33_4, hfz33_0, hfz33_1, hfz33_2, hfz33_3, hfz33_4⟩ := blk5_ BK142.out
                  go_wp2
                  go_meet
                  case rel => exact ⟨_, (true), (by first|rfl|(simp;done)|(simp [*];done)), H', ⟨by have := HJ3.out;have := HK2.out;first|omega|exact Nat.le_refl _⟩, ⟨by (with_reducible repeat (first|refine blk_drewN ?_ _|refine blk_drew ?_|refine blk_alloc ?_ _));refine blk_far ?_ NB140_142.out _;(with_reducible repeat (first|refine blk_drewN ?_ _|refine blk_drew ?_|refine blk_alloc ?_ _));refine blk_far ?_ NB140_142.out _;(with_reducible repeat (first|refine blk_drewN ?_ _|refine blk_drew ?_|refine blk_alloc ?_ _));refine blk_far ?_ NB140_142.out _;(with_reducible repeat (first|refine blk_drewN ?_ _|refine blk_drew ?_|refine blk_alloc ?_ _));refine blk_far ?_ NB140_142.out _;(with_reducible repeat (first|refine blk_drewN ?_ _|refine blk_drew ?_|refine blk_alloc ?_ _));refine blk_far ?_ NB140_142.out _;(with_reducible repeat (first|refine blk_drewN ?_ _|refine blk_drew ?_|refine blk_alloc ?_ _));exact BK140.out⟩, ⟨by (with_reducible repeat (first|refine blk_drewN ?_ _|refine blk_drew ?_|refine blk_alloc ?_ _));refine blk_put (cs := #[.int .i64 ((rd_T74 l0 x8_2).f0), .int .i64 ((rd_T74 l0 x8_2).f1), .int .i64 ((rd_T74 l0 x8_2).f2), .string ((rd_T74 l0 x8_2).f3), .int .i64 0]) ?_ 4 _ rfl;(with_reducible repeat (first|refine blk_drewN ?_ _|refine blk_drew ?_|refine blk_alloc ?_ _));refine blk_put (cs := #[.int .i64 ((rd_T74 l0 x8_2).f0), .int .i64 ((rd_T74 l0 x8_2).f1), .int .i64 ((rd_T74 l0 x8_2).f2), .string (⟨#[]⟩ : ByteArray), .int .i64 0]) ?_ 3 _ rfl;(with_reducible repeat (first|refine blk_drewN ?_ _|refine blk_drew ?_|refine blk_alloc ?_ _));refine blk_put (cs := #[.int .i64 ((rd_T74 l0 x8_2).f0), .int .i64 ((rd_T74 l0 x8_2).f1), .int .i64 0, .string (⟨#[]⟩ : ByteArray), .int .i64 0]) ?_ 2 _ rfl;(with_reducible repeat (first|refine blk_drewN ?_ _|refine blk_drew ?_|refine blk_alloc ?_ _));refine blk_put (cs := #[.int .i64 ((rd_T74 l0 x8_2).f0), .int .i64 0, .int .i64 0, .string (⟨#[]⟩ : ByteArray), .int .i64 0]) ?_ 1 _ rfl;(with_reducible repeat (first|refine blk_drewN ?_ _|refine blk_drew ?_|refine blk_alloc ?_ _));refine blk_put (cs := #[.int .i64 0, .int .i64 0, .int .i64 0, .string (⟨#[]⟩ : ByteArray), .int .i64 0]) ?_ 0 _ rfl;(with_reducible repeat (first|refine blk_drewN ?_ _|refine blk_drew ?_|refine blk_alloc ?_ _));exact BK142.out⟩, ⟨by repeat (first|(with_reducible first|exact HB.out|apply below_alloc|apply pw_below_drewN|apply below_drew1|refine below_set ?_ GE140.out|refine below_set ?_ GE142.out)|exact HB.out)⟩⟩
                 ·rw [if_neg c30] at H
                  have c30b0 : decide (((rd_T74 l0 x8_2).f1) ≤ x9_2) = false := decide_eq_false c30
                  clear c30
                  have H' := Aside0.mk H
                  clear H
                  have hnb34 := NB140_142.out
                  have hnc34 := NB142_140.out
                  obtain ⟨hcz35_0, hcz35_1, hcz35_2, hcz35_3, hcz35_4, hfz35_0, hfz35_1, hfz35_2, hfz35_3, hfz35_4⟩ := blk5_ BK140.out
                  obtain ⟨hcz36_0, hcz36_1, hcz36_2, hcz36_3, hcz36_4, hfz36_0, hfz36_1, hfz36_2, hfz36_3, hfz36_4⟩ := blk5_ BK142.out
                  go_wp2
                  go_meet
                  case rel => exact ⟨_, (decide (((rd_T74 l0 x8_2).f1) > 1000)), (by first|rfl|(simp;done)|(simp [*];done)), H', ⟨by have := HJ3.out;have := HK2.out;first|omega|exact Nat.le_refl _⟩, ⟨by (with_reducible repeat (first|refine blk_drewN ?_ _|refine blk_drew ?_|refine blk_alloc ?_ _));refine blk_far ?_ NB140_142.out _;(with_reducible repeat (first|refine blk_drewN ?_ _|refine blk_drew ?_|refine blk_alloc ?_ _));refine blk_far ?_ NB140_142.out _;(with_reducible repeat (first|refine blk_drewN ?_ _|refine blk_drew ?_|refine blk_alloc ?_ _));refine blk_far ?_ NB140_142.out _;(with_reducible repeat (first|refine blk_drewN ?_ _|refine blk_drew ?_|refine blk_alloc ?_ _));refine blk_far ?_ NB140_142.out _;(with_reducible repeat (first|refine blk_drewN ?_ _|refine blk_drew ?_|refine blk_alloc ?_ _));refine blk_far ?_ NB140_142.out _;(with_reducible repeat (first|refine blk_drewN ?_ _|refine blk_drew ?_|refine blk_alloc ?_ _));exact BK140.out⟩, ⟨by (with_reducible repeat (first|refine blk_drewN ?_ _|refine blk_drew ?_|refine blk_alloc ?_ _));refine blk_put (cs := #[.int .i64 ((rd_T74 l0 x8_2).f0), .int .i64 ((rd_T74 l0 x8_2).f1), .int .i64 ((rd_T74 l0 x8_2).f2), .string ((rd_T74 l0 x8_2).f3), .int .i64 0]) ?_ 4 _ rfl;(with_reducible repeat (first|refine blk_drewN ?_ _|refine blk_drew ?_|refine blk_alloc ?_ _));refine blk_put (cs := #[.int .i64 ((rd_T74 l0 x8_2).f0), .int .i64 ((rd_T74 l0 x8_2).f1), .int .i64 ((rd_T74 l0 x8_2).f2), .string (⟨#[]⟩ : ByteArray), .int .i64 0]) ?_ 3 _ rfl;(with_reducible repeat (first|refine blk_drewN ?_ _|refine blk_drew ?_|refine blk_alloc ?_ _));refine blk_put (cs := #[.int .i64 ((rd_T74 l0 x8_2).f0), .int .i64 ((rd_T74 l0 x8_2).f1), .int .i64 0, .string (⟨#[]⟩ : ByteArray), .int .i64 0]) ?_ 2 _ rfl;(with_reducible repeat (first|refine blk_drewN ?_ _|refine blk_drew ?_|refine blk_alloc ?_ _));refine blk_put (cs := #[.int .i64 ((rd_T74 l0 x8_2).f0), .int .i64 0, .int .i64 0, .string (⟨#[]⟩ : ByteArray), .int .i64 0]) ?_ 1 _ rfl;(with_reducible repeat (first|refine blk_drewN ?_ _|refine blk_drew ?_|refine blk_alloc ?_ _));refine blk_put (cs := #[.int .i64 0, .int .i64 0, .int .i64 0, .string (⟨#[]⟩ : ByteArray), .int .i64 0]) ?_ 0 _ rfl;(with_reducible repeat (first|refine blk_drewN ?_ _|refine blk_drew ?_|refine blk_alloc ?_ _));exact BK142.out⟩, ⟨by repeat (first|(with_reducible first|exact HB.out|apply below_alloc|apply pw_below_drewN|apply below_drew1|refine below_set ?_ GE140.out|refine below_set ?_ GE142.out)|exact HB.out)⟩⟩
                ·rw [if_neg c29] at H
                 have c29b0 : (((rd_T74 l0 a1).f0) == 12) = false := beq_eq_false_iff_ne.mpr c29
                 have c29b1 : (((rd_T74 l0 a1).f0) != 12) = true := bne_iff_ne.mpr c29
                 have H' := Aside0.mk H
                 clear H
                 have hnb37 := NB140_142.out
                 have hnc37 := NB142_140.out
                 obtain ⟨hcz38_0, hcz38_1, hcz38_2, hcz38_3, hcz38_4, hfz38_0, hfz38_1, hfz38_2, hfz38_3, hfz38_4⟩ := blk5_ BK140.out
                 obtain ⟨hcz39_0, hcz39_1, hcz39_2, hcz39_3, hcz39_4, hfz39_0, hfz39_1, hfz39_2, hfz39_3, hfz39_4⟩ := blk5_ BK142.out
                 go_wp2
                 go_meet
                 case rel => exact ⟨_, (false), (by first|rfl|(simp;done)|(simp [*];done)), H', ⟨by have := HJ3.out;have := HK2.out;first|omega|exact Nat.le_refl _⟩, ⟨by (with_reducible repeat (first|refine blk_drewN ?_ _|refine blk_drew ?_|refine blk_alloc ?_ _));refine blk_far ?_ NB140_142.out _;(with_reducible repeat (first|refine blk_drewN ?_ _|refine blk_drew ?_|refine blk_alloc ?_ _));refine blk_far ?_ NB140_142.out _;(with_reducible repeat (first|refine blk_drewN ?_ _|refine blk_drew ?_|refine blk_alloc ?_ _));refine blk_far ?_ NB140_142.out _;(with_reducible repeat (first|refine blk_drewN ?_ _|refine blk_drew ?_|refine blk_alloc ?_ _));refine blk_far ?_ NB140_142.out _;(with_reducible repeat (first|refine blk_drewN ?_ _|refine blk_drew ?_|refine blk_alloc ?_ _));refine blk_far ?_ NB140_142.out _;(with_reducible repeat (first|refine blk_drewN ?_ _|refine blk_drew ?_|refine blk_alloc ?_ _));exact BK140.out⟩, ⟨by (with_reducible repeat (first|refine blk_drewN ?_ _|refine blk_drew ?_|refine blk_alloc ?_ _));refine blk_put (cs := #[.int .i64 ((rd_T74 l0 x8_2).f0), .int .i64 ((rd_T74 l0 x8_2).f1), .int .i64 ((rd_T74 l0 x8_2).f2), .string ((rd_T74 l0 x8_2).f3), .int .i64 0]) ?_ 4 _ rfl;(with_reducible repeat (first|refine blk_drewN ?_ _|refine blk_drew ?_|refine blk_alloc ?_ _));refine blk_put (cs := #[.int .i64 ((rd_T74 l0 x8_2).f0), .int .i64 ((rd_T74 l0 x8_2).f1), .int .i64 ((rd_T74 l0 x8_2).f2), .string (⟨#[]⟩ : ByteArray), .int .i64 0]) ?_ 3 _ rfl;(with_reducible repeat (first|refine blk_drewN ?_ _|refine blk_drew ?_|refine blk_alloc ?_ _));refine blk_put (cs := #[.int .i64 ((rd_T74 l0 x8_2).f0), .int .i64 ((rd_T74 l0 x8_2).f1), .int .i64 0, .string (⟨#[]⟩ : ByteArray), .int .i64 0]) ?_ 2 _ rfl;(with_reducible repeat (first|refine blk_drewN ?_ _|refine blk_drew ?_|refine blk_alloc ?_ _));refine blk_put (cs := #[.int .i64 ((rd_T74 l0 x8_2).f0), .int .i64 0, .int .i64 0, .string (⟨#[]⟩ : ByteArray), .int .i64 0]) ?_ 1 _ rfl;(with_reducible repeat (first|refine blk_drewN ?_ _|refine blk_drew ?_|refine blk_alloc ?_ _));refine blk_put (cs := #[.int .i64 0, .int .i64 0, .int .i64 0, .string (⟨#[]⟩ : ByteArray), .int .i64 0]) ?_ 0 _ rfl;(with_reducible repeat (first|refine blk_drewN ?_ _|refine blk_drew ?_|refine blk_alloc ?_ _));exact BK142.out⟩, ⟨by repeat (first|(with_reducible first|exact HB.out|apply below_alloc|apply pw_below_drewN|apply below_drew1|refine below_set ?_ GE140.out|refine below_set ?_ GE142.out)|exact HB.out)⟩⟩
               ·rw [if_neg c28] at H
                have c28b0 : (((rd_T74 l0 x8_2).f1) == 0) = false := beq_eq_false_iff_ne.mpr c28
                have c28b1 : (((rd_T74 l0 x8_2).f1) != 0) = true := bne_iff_ne.mpr c28
                have H' := Aside0.mk H
                clear H
                have hnb40 := NB140_142.out
                have hnc40 := NB142_140.out
                obtain ⟨hcz41_0, hcz41_1, hcz41_2, hcz41_3, hcz41_4, hfz41_0, hfz41_1, hfz41_2, hfz41_3, hfz41_4⟩ := blk5_ BK140.out
                obtain ⟨hcz42_0, hcz42_1, hcz42_2, hcz42_3, hcz42_4, hfz42_0, hfz42_1, hfz42_2, hfz42_3, hfz42_4⟩ := blk5_ BK142.out
                go_wp2
                go_meet
                case rel => exact ⟨_, (true), (by first|rfl|(simp;done)|(simp [*];done)), H', ⟨by have := HJ3.out;have := HK2.out;first|omega|exact Nat.le_refl _⟩, ⟨by (with_reducible repeat (first|refine blk_drewN ?_ _|refine blk_drew ?_|refine blk_alloc ?_ _));refine blk_far ?_ NB140_142.out _;(with_reducible repeat (first|refine blk_drewN ?_ _|refine blk_drew ?_|refine blk_alloc ?_ _));refine blk_far ?_ NB140_142.out _;(with_reducible repeat (first|refine blk_drewN ?_ _|refine blk_drew ?_|refine blk_alloc ?_ _));refine blk_far ?_ NB140_142.out _;(with_reducible repeat (first|refine blk_drewN ?_ _|refine blk_drew ?_|refine blk_alloc ?_ _));refine blk_far ?_ NB140_142.out _;(with_reducible repeat (first|refine blk_drewN ?_ _|refine blk_drew ?_|refine blk_alloc ?_ _));refine blk_far ?_ NB140_142.out _;(with_reducible repeat (first|refine blk_drewN ?_ _|refine blk_drew ?_|refine blk_alloc ?_ _));exact BK140.out⟩, ⟨by (with_reducible repeat (first|refine blk_drewN ?_ _|refine blk_drew ?_|refine blk_alloc ?_ _));refine blk_put (cs := #[.int .i64 ((rd_T74 l0 x8_2).f0), .int .i64 ((rd_T74 l0 x8_2).f1), .int .i64 ((rd_T74 l0 x8_2).f2), .string ((rd_T74 l0 x8_2).f3), .int .i64 0]) ?_ 4 _ rfl;(with_reducible repeat (first|refine blk_drewN ?_ _|refine blk_drew ?_|refine blk_alloc ?_ _));refine blk_put (cs := #[.int .i64 ((rd_T74 l0 x8_2).f0), .int .i64 ((rd_T74 l0 x8_2).f1), .int .i64 ((rd_T74 l0 x8_2).f2), .string (⟨#[]⟩ : ByteArray), .int .i64 0]) ?_ 3 _ rfl;(with_reducible repeat (first|refine blk_drewN ?_ _|refine blk_drew ?_|refine blk_alloc ?_ _));refine blk_put (cs := #[.int .i64 ((rd_T74 l0 x8_2).f0), .int .i64 ((rd_T74 l0 x8_2).f1), .int .i64 0, .string (⟨#[]⟩ : ByteArray), .int .i64 0]) ?_ 2 _ rfl;(with_reducible repeat (first|refine blk_drewN ?_ _|refine blk_drew ?_|refine blk_alloc ?_ _));refine blk_put (cs := #[.int .i64 ((rd_T74 l0 x8_2).f0), .int .i64 0, .int .i64 0, .string (⟨#[]⟩ : ByteArray), .int .i64 0]) ?_ 1 _ rfl;(with_reducible repeat (first|refine blk_drewN ?_ _|refine blk_drew ?_|refine blk_alloc ?_ _));refine blk_put (cs := #[.int .i64 0, .int .i64 0, .int .i64 0, .string (⟨#[]⟩ : ByteArray), .int .i64 0]) ?_ 0 _ rfl;(with_reducible repeat (first|refine blk_drewN ?_ _|refine blk_drew ?_|refine blk_alloc ?_ _));exact BK142.out⟩, ⟨by repeat (first|(with_reducible first|exact HB.out|apply below_alloc|apply pw_below_drewN|apply below_drew1|refine below_set ?_ GE140.out|refine below_set ?_ GE142.out)|exact HB.out)⟩⟩
              ·rw [if_neg c27] at H
               have c27b0 : (((rd_T74 l0 x8_2).f0) == ((rd_T74 l0 a1).f2)) = false := beq_eq_false_iff_ne.mpr c27
               have c27b1 : (((rd_T74 l0 x8_2).f0) != ((rd_T74 l0 a1).f2)) = true := bne_iff_ne.mpr c27
               have H' := Aside0.mk H
               clear H
               have hnb43 := NB140_142.out
               have hnc43 := NB142_140.out
               obtain ⟨hcz44_0, hcz44_1, hcz44_2, hcz44_3, hcz44_4, hfz44_0, hfz44_1, hfz44_2, hfz44_3, hfz44_4⟩ := blk5_ BK140.out
               obtain ⟨hcz45_0, hcz45_1, hcz45_2, hcz45_3, hcz45_4, hfz45_0, hfz45_1, hfz45_2, hfz45_3, hfz45_4⟩ := blk5_ BK142.out
               go_wp2
               go_meet
               case rel => exact ⟨_, (true), (by first|rfl|(simp;done)|(simp [*];done)), H', ⟨by have := HJ3.out;have := HK2.out;first|omega|exact Nat.le_refl _⟩, ⟨by (with_reducible repeat (first|refine blk_drewN ?_ _|refine blk_drew ?_|refine blk_alloc ?_ _));refine blk_far ?_ NB140_142.out _;(with_reducible repeat (first|refine blk_drewN ?_ _|refine blk_drew ?_|refine blk_alloc ?_ _));refine blk_far ?_ NB140_142.out _;(with_reducible repeat (first|refine blk_drewN ?_ _|refine blk_drew ?_|refine blk_alloc ?_ _));refine blk_far ?_ NB140_142.out _;(with_reducible repeat (first|refine blk_drewN ?_ _|refine blk_drew ?_|refine blk_alloc ?_ _));refine blk_far ?_ NB140_142.out _;(with_reducible repeat (first|refine blk_drewN ?_ _|refine blk_drew ?_|refine blk_alloc ?_ _));refine blk_far ?_ NB140_142.out _;(with_reducible repeat (first|refine blk_drewN ?_ _|refine blk_drew ?_|refine blk_alloc ?_ _));exact BK140.out⟩, ⟨by (with_reducible repeat (first|refine blk_drewN ?_ _|refine blk_drew ?_|refine blk_alloc ?_ _));refine blk_put (cs := #[.int .i64 ((rd_T74 l0 x8_2).f0), .int .i64 ((rd_T74 l0 x8_2).f1), .int .i64 ((rd_T74 l0 x8_2).f2), .string ((rd_T74 l0 x8_2).f3), .int .i64 0]) ?_ 4 _ rfl;(with_reducible repeat (first|refine blk_drewN ?_ _|refine blk_drew ?_|refine blk_alloc ?_ _));refine blk_put (cs := #[.int .i64 ((rd_T74 l0 x8_2).f0), .int .i64 ((rd_T74 l0 x8_2).f1), .int .i64 ((rd_T74 l0 x8_2).f2), .string (⟨#[]⟩ : ByteArray), .int .i64 0]) ?_ 3 _ rfl;(with_reducible repeat (first|refine blk_drewN ?_ _|refine blk_drew ?_|refine blk_alloc ?_ _));refine blk_put (cs := #[.int .i64 ((rd_T74 l0 x8_2).f0), .int .i64 ((rd_T74 l0 x8_2).f1), .int .i64 0, .string (⟨#[]⟩ : ByteArray), .int .i64 0]) ?_ 2 _ rfl;(with_reducible repeat (first|refine blk_drewN ?_ _|refine blk_drew ?_|refine blk_alloc ?_ _));refine blk_put (cs := #[.int .i64 ((rd_T74 l0 x8_2).f0), .int .i64 0, .int .i64 0, .string (⟨#[]⟩ : ByteArray), .int .i64 0]) ?_ 1 _ rfl;(with_reducible repeat (first|refine blk_drewN ?_ _|refine blk_drew ?_|refine blk_alloc ?_ _));refine blk_put (cs := #[.int .i64 0, .int .i64 0, .int .i64 0, .string (⟨#[]⟩ : ByteArray), .int .i64 0]) ?_ 0 _ rfl;(with_reducible repeat (first|refine blk_drewN ?_ _|refine blk_drew ?_|refine blk_alloc ?_ _));exact BK142.out⟩, ⟨by repeat (first|(with_reducible first|exact HB.out|apply below_alloc|apply pw_below_drewN|apply below_drew1|refine below_set ?_ GE140.out|refine below_set ?_ GE142.out)|exact HB.out)⟩⟩
             ·rw [if_neg c26] at H
              have c26b0 : (((rd_T74 l0 a1).f0) == 9) = false := beq_eq_false_iff_ne.mpr c26
              have c26b1 : (((rd_T74 l0 a1).f0) != 9) = true := bne_iff_ne.mpr c26
              (first|rw [c26b0]|(simp only [i64_w, i32_w];rw [c26b0])|rw [c26b2]|skip)
              by_cases c46 : ((rd_T74 l0 a1).f0) = 12
              ·rw [if_pos c46] at H
               have c46b0 : (((rd_T74 l0 a1).f0) == 12) = true := beq_iff_eq.mpr c46
               have c46b1 : (((rd_T74 l0 a1).f0) != 12) = false := bne_eq_false_iff_eq.mpr c46
               clear c46
               by_cases c47 : ((rd_T74 l0 x8_2).f1) ≤ x9_2
               ·rw [if_pos c47] at H
                have c47b0 : decide (((rd_T74 l0 x8_2).f1) ≤ x9_2) = true := decide_eq_true c47
                clear c47
                have H' := Aside0.mk H
                clear H
                have hnb48 := NB140_142.out
                have hnc48 := NB142_140.out
                obtain ⟨hcz49_0, hcz49_1, hcz49_2, hcz49_3, hcz49_4, hfz49_0, hfz49_1, hfz49_2, hfz49_3, hfz49_4⟩ := blk5_ BK140.out
                obtain ⟨hcz50_0, hcz50_1, hcz50_2, hcz50_3, hcz50_4, hfz50_0, hfz50_1, hfz50_2, hfz50_3, hfz50_4⟩ := blk5_ BK142.out
                go_wp2
                go_meet
                case rel => exact ⟨_, (true), (by first|rfl|(simp;done)|(simp [*];done)), H', ⟨by have := HJ3.out;have := HK2.out;first|omega|exact Nat.le_refl _⟩, ⟨by (with_reducible repeat (first|refine blk_drewN ?_ _|refine blk_drew ?_|refine blk_alloc ?_ _));refine blk_far ?_ NB140_142.out _;(with_reducible repeat (first|refine blk_drewN ?_ _|refine blk_drew ?_|refine blk_alloc ?_ _));refine blk_far ?_ NB140_142.out _;(with_reducible repeat (first|refine blk_drewN ?_ _|refine blk_drew ?_|refine blk_alloc ?_ _));refine blk_far ?_ NB140_142.out _;(with_reducible repeat (first|refine blk_drewN ?_ _|refine blk_drew ?_|refine blk_alloc ?_ _));refine blk_far ?_ NB140_142.out _;(with_reducible repeat (first|refine blk_drewN ?_ _|refine blk_drew ?_|refine blk_alloc ?_ _));refine blk_far ?_ NB140_142.out _;(with_reducible repeat (first|refine blk_drewN ?_ _|refine blk_drew ?_|refine blk_alloc ?_ _));exact BK140.out⟩, ⟨by (with_reducible repeat (first|refine blk_drewN ?_ _|refine blk_drew ?_|refine blk_alloc ?_ _));refine blk_put (cs := #[.int .i64 ((rd_T74 l0 x8_2).f0), .int .i64 ((rd_T74 l0 x8_2).f1), .int .i64 ((rd_T74 l0 x8_2).f2), .string ((rd_T74 l0 x8_2).f3), .int .i64 0]) ?_ 4 _ rfl;(with_reducible repeat (first|refine blk_drewN ?_ _|refine blk_drew ?_|refine blk_alloc ?_ _));refine blk_put (cs := #[.int .i64 ((rd_T74 l0 x8_2).f0), .int .i64 ((rd_T74 l0 x8_2).f1), .int .i64 ((rd_T74 l0 x8_2).f2), .string (⟨#[]⟩ : ByteArray), .int .i64 0]) ?_ 3 _ rfl;(with_reducible repeat (first|refine blk_drewN ?_ _|refine blk_drew ?_|refine blk_alloc ?_ _));refine blk_put (cs := #[.int .i64 ((rd_T74 l0 x8_2).f0), .int .i64 ((rd_T74 l0 x8_2).f1), .int .i64 0, .string (⟨#[]⟩ : ByteArray), .int .i64 0]) ?_ 2 _ rfl;(with_reducible repeat (first|refine blk_drewN ?_ _|refine blk_drew ?_|refine blk_alloc ?_ _));refine blk_put (cs := #[.int .i64 ((rd_T74 l0 x8_2).f0), .int .i64 0, .int .i64 0, .string (⟨#[]⟩ : ByteArray), .int .i64 0]) ?_ 1 _ rfl;(with_reducible repeat (first|refine blk_drewN ?_ _|refine blk_drew ?_|refine blk_alloc ?_ _));refine blk_put (cs := #[.int .i64 0, .int .i64 0, .int .i64 0, .string (⟨#[]⟩ : ByteArray), .int .i64 0]) ?_ 0 _ rfl;(with_reducible repeat (first|refine blk_drewN ?_ _|refine blk_drew ?_|refine blk_alloc ?_ _));exact BK142.out⟩, ⟨by repeat (first|(with_reducible first|exact HB.out|apply below_alloc|apply pw_below_drewN|apply below_drew1|refine below_set ?_ GE140.out|refine below_set ?_ GE142.out)|exact HB.out)⟩⟩
               ·rw [if_neg c47] at H
                have c47b0 : decide (((rd_T74 l0 x8_2).f1) ≤ x9_2) = false := decide_eq_false c47
                clear c47
                have H' := Aside0.mk H
                clear H
                have hnb51 := NB140_142.out
                have hnc51 := NB142_140.out
                obtain ⟨hcz52_0, hcz52_1, hcz52_2, hcz52_3, hcz52_4, hfz52_0, hfz52_1, hfz52_2, hfz52_3, hfz52_4⟩ := blk5_ BK140.out
                obtain ⟨hcz53_0, hcz53_1, hcz53_2, hcz53_3, hcz53_4, hfz53_0, hfz53_1, hfz53_2, hfz53_3, hfz53_4⟩ := blk5_ BK142.out
                go_wp2
                go_meet
                case rel => exact ⟨_, (decide (((rd_T74 l0 x8_2).f1) > 1000)), (by first|rfl|(simp;done)|(simp [*];done)), H', ⟨by have := HJ3.out;have := HK2.out;first|omega|exact Nat.le_refl _⟩, ⟨by (with_reducible repeat (first|refine blk_drewN ?_ _|refine blk_drew ?_|refine blk_alloc ?_ _));refine blk_far ?_ NB140_142.out _;(with_reducible repeat (first|refine blk_drewN ?_ _|refine blk_drew ?_|refine blk_alloc ?_ _));refine blk_far ?_ NB140_142.out _;(with_reducible repeat (first|refine blk_drewN ?_ _|refine blk_drew ?_|refine blk_alloc ?_ _));refine blk_far ?_ NB140_142.out _;(with_reducible repeat (first|refine blk_drewN ?_ _|refine blk_drew ?_|refine blk_alloc ?_ _));refine blk_far ?_ NB140_142.out _;(with_reducible repeat (first|refine blk_drewN ?_ _|refine blk_drew ?_|refine blk_alloc ?_ _));refine blk_far ?_ NB140_142.out _;(with_reducible repeat (first|refine blk_drewN ?_ _|refine blk_drew ?_|refine blk_alloc ?_ _));exact BK140.out⟩, ⟨by (with_reducible repeat (first|refine blk_drewN ?_ _|refine blk_drew ?_|refine blk_alloc ?_ _));refine blk_put (cs := #[.int .i64 ((rd_T74 l0 x8_2).f0), .int .i64 ((rd_T74 l0 x8_2).f1), .int .i64 ((rd_T74 l0 x8_2).f2), .string ((rd_T74 l0 x8_2).f3), .int .i64 0]) ?_ 4 _ rfl;(with_reducible repeat (first|refine blk_drewN ?_ _|refine blk_drew ?_|refine blk_alloc ?_ _));refine blk_put (cs := #[.int .i64 ((rd_T74 l0 x8_2).f0), .int .i64 ((rd_T74 l0 x8_2).f1), .int .i64 ((rd_T74 l0 x8_2).f2), .string (⟨#[]⟩ : ByteArray), .int .i64 0]) ?_ 3 _ rfl;(with_reducible repeat (first|refine blk_drewN ?_ _|refine blk_drew ?_|refine blk_alloc ?_ _));refine blk_put (cs := #[.int .i64 ((rd_T74 l0 x8_2).f0), .int .i64 ((rd_T74 l0 x8_2).f1), .int .i64 0, .string (⟨#[]⟩ : ByteArray), .int .i64 0]) ?_ 2 _ rfl;(with_reducible repeat (first|refine blk_drewN ?_ _|refine blk_drew ?_|refine blk_alloc ?_ _));refine blk_put (cs := #[.int .i64 ((rd_T74 l0 x8_2).f0), .int .i64 0, .int .i64 0, .string (⟨#[]⟩ : ByteArray), .int .i64 0]) ?_ 1 _ rfl;(with_reducible repeat (first|refine blk_drewN ?_ _|refine blk_drew ?_|refine blk_alloc ?_ _));refine blk_put (cs := #[.int .i64 0, .int .i64 0, .int .i64 0, .string (⟨#[]⟩ : ByteArray), .int .i64 0]) ?_ 0 _ rfl;(with_reducible repeat (first|refine blk_drewN ?_ _|refine blk_drew ?_|refine blk_alloc ?_ _));exact BK142.out⟩, ⟨by repeat (first|(with_reducible first|exact HB.out|apply below_alloc|apply pw_below_drewN|apply below_drew1|refine below_set ?_ GE140.out|refine below_set ?_ GE142.out)|exact HB.out)⟩⟩
              ·rw [if_neg c46] at H
               have c46b0 : (((rd_T74 l0 a1).f0) == 12) = false := beq_eq_false_iff_ne.mpr c46
               have c46b1 : (((rd_T74 l0 a1).f0) != 12) = true := bne_iff_ne.mpr c46
               have H' := Aside0.mk H
               clear H
               have hnb54 := NB140_142.out
               have hnc54 := NB142_140.out
               obtain ⟨hcz55_0, hcz55_1, hcz55_2, hcz55_3, hcz55_4, hfz55_0, hfz55_1, hfz55_2, hfz55_3, hfz55_4⟩ := blk5_ BK140.out
               go_wp2
               go_meet
               case rel => exact ⟨_, (false), (by first|rfl|(simp;done)|(simp [*];done)), H', ⟨by have := HJ3.out;have := HK2.out;first|omega|exact Nat.le_refl _⟩, ⟨by (with_reducible repeat (first|refine blk_drewN ?_ _|refine blk_drew ?_|refine blk_alloc ?_ _));refine blk_far ?_ NB140_142.out _;(with_reducible repeat (first|refine blk_drewN ?_ _|refine blk_drew ?_|refine blk_alloc ?_ _));refine blk_far ?_ NB140_142.out _;(with_reducible repeat (first|refine blk_drewN ?_ _|refine blk_drew ?_|refine blk_alloc ?_ _));refine blk_far ?_ NB140_142.out _;(with_reducible repeat (first|refine blk_drewN ?_ _|refine blk_drew ?_|refine blk_alloc ?_ _));refine blk_far ?_ NB140_142.out _;(with_reducible repeat (first|refine blk_drewN ?_ _|refine blk_drew ?_|refine blk_alloc ?_ _));refine blk_far ?_ NB140_142.out _;(with_reducible repeat (first|refine blk_drewN ?_ _|refine blk_drew ?_|refine blk_alloc ?_ _));exact BK140.out⟩, ⟨by (with_reducible repeat (first|refine blk_drewN ?_ _|refine blk_drew ?_|refine blk_alloc ?_ _));refine blk_put (cs := #[.int .i64 ((rd_T74 l0 x8_2).f0), .int .i64 ((rd_T74 l0 x8_2).f1), .int .i64 ((rd_T74 l0 x8_2).f2), .string ((rd_T74 l0 x8_2).f3), .int .i64 0]) ?_ 4 _ rfl;(with_reducible repeat (first|refine blk_drewN ?_ _|refine blk_drew ?_|refine blk_alloc ?_ _));refine blk_put (cs := #[.int .i64 ((rd_T74 l0 x8_2).f0), .int .i64 ((rd_T74 l0 x8_2).f1), .int .i64 ((rd_T74 l0 x8_2).f2), .string (⟨#[]⟩ : ByteArray), .int .i64 0]) ?_ 3 _ rfl;(with_reducible repeat (first|refine blk_drewN ?_ _|refine blk_drew ?_|refine blk_alloc ?_ _));refine blk_put (cs := #[.int .i64 ((rd_T74 l0 x8_2).f0), .int .i64 ((rd_T74 l0 x8_2).f1), .int .i64 0, .string (⟨#[]⟩ : ByteArray), .int .i64 0]) ?_ 2 _ rfl;(with_reducible repeat (first|refine blk_drewN ?_ _|refine blk_drew ?_|refine blk_alloc ?_ _));refine blk_put (cs := #[.int .i64 ((rd_T74 l0 x8_2).f0), .int .i64 0, .int .i64 0, .string (⟨#[]⟩ : ByteArray), .int .i64 0]) ?_ 1 _ rfl;(with_reducible repeat (first|refine blk_drewN ?_ _|refine blk_drew ?_|refine blk_alloc ?_ _));refine blk_put (cs := #[.int .i64 0, .int .i64 0, .int .i64 0, .string (⟨#[]⟩ : ByteArray), .int .i64 0]) ?_ 0 _ rfl;(with_reducible repeat (first|refine blk_drewN ?_ _|refine blk_drew ?_|refine blk_alloc ?_ _));exact BK142.out⟩, ⟨by repeat (first|(with_reducible first|exact HB.out|apply below_alloc|apply pw_below_drewN|apply below_drew1|refine below_set ?_ GE140.out|refine below_set ?_ GE142.out)|exact HB.out)⟩⟩
            case rest =>
             clear HC21
             try clear c1
             try clear p1
             try clear q1
             try clear hx1
             try clear c2
             try clear p2
             try clear c3
             try clear c4
             try clear c5
             try clear c5b0
             try clear c5b2
             try clear c6
             try clear c6b0
             try clear p6
             try clear c7
             try clear c7b0
             try clear c8
             try clear c8b0
             try clear c11
             try clear c12
             try clear c12b0
             try clear c13
             try clear c13b0
             try clear p13
             try clear q13
             try clear hx13
             try clear p14
             try clear q14
             try clear hx14
             try clear c16
             try clear c16b0
             try clear c17
             try clear c17b0
             try clear c19
             try clear c19b0
             try clear c20
             try clear c20b0
             try clear c24
             try clear c26
             try clear c26b0
             try clear c26b1
             try clear c26b2
             try clear c27
             try clear c27b0
             try clear c27b1
             try clear c28
             try clear c28b0
             try clear c28b1
             try clear c29
             try clear c29b0
             try clear c29b1
             try clear c30
             try clear c30b0
             try clear c31
             try clear c34
             try clear c37
             try clear c40
             try clear c43
             try clear c46
             try clear c46b0
             try clear c46b1
             try clear c47
             try clear c47b0
             try clear c48
             try clear c51
             try clear c54
             try clear hcz15_0
             try clear hcz15_1
             try clear hcz15_2
             try clear hcz15_3
             try clear hcz15_4
             try clear hcz18_0
             try clear hcz18_1
             try clear hcz18_2
             try clear hcz18_3
             try clear hcz18_4
             try clear hcz22_0
             try clear hcz22_1
             try clear hcz22_2
             try clear hcz22_3
             try clear hcz22_4
             try clear hcz25_0
             try clear hcz25_1
             try clear hcz25_2
             try clear hcz25_3
             try clear hcz25_4
             try clear hcz32_0
             try clear hcz32_1
             try clear hcz32_2
             try clear hcz32_3
             try clear hcz32_4
             try clear hcz33_0
             try clear hcz33_1
             try clear hcz33_2
             try clear hcz33_3
             try clear hcz33_4
             try clear hcz35_0
             try clear hcz35_1
             try clear hcz35_2
             try clear hcz35_3
             try clear hcz35_4
             try clear hcz36_0
             try clear hcz36_1
             try clear hcz36_2
             try clear hcz36_3
             try clear hcz36_4
             try clear hcz38_0
             try clear hcz38_1
             try clear hcz38_2
             try clear hcz38_3
             try clear hcz38_4
             try clear hcz39_0
             try clear hcz39_1
             try clear hcz39_2
             try clear hcz39_3
             try clear hcz39_4
             try clear hcz41_0
             try clear hcz41_1
             try clear hcz41_2
             try clear hcz41_3
             try clear hcz41_4
             try clear hcz42_0
             try clear hcz42_1
             try clear hcz42_2
             try clear hcz42_3
             try clear hcz42_4
             try clear hcz44_0
             try clear hcz44_1
             try clear hcz44_2
             try clear hcz44_3
             try clear hcz44_4
             try clear hcz45_0
             try clear hcz45_1
             try clear hcz45_2
             try clear hcz45_3
             try clear hcz45_4
             try clear hcz49_0
             try clear hcz49_1
             try clear hcz49_2
             try clear hcz49_3
             try clear hcz49_4
             try clear hcz50_0
             try clear hcz50_1
             try clear hcz50_2
             try clear hcz50_3
             try clear hcz50_4
             try clear hcz52_0
             try clear hcz52_1
             try clear hcz52_2
             try clear hcz52_3
             try clear hcz52_4
             try clear hcz53_0
             try clear hcz53_1
             try clear hcz53_2
             try clear hcz53_3
             try clear hcz53_4
             try clear hcz55_0
             try clear hcz55_1
             try clear hcz55_2
             try clear hcz55_3
             try clear hcz55_4
             try clear hfz15_0
             try clear hfz15_1
             try clear hfz15_2
             try clear hfz15_3
             try clear hfz15_4
             try clear hfz18_0
             try clear hfz18_1
             try clear hfz18_2
             try clear hfz18_3
             try clear hfz18_4
             try clear hfz22_0
             try clear hfz22_1
             try clear hfz22_2
             try clear hfz22_3
             try clear hfz22_4
             try clear hfz25_0
             try clear hfz25_1
             try clear hfz25_2
             try clear hfz25_3
             try clear hfz25_4
             try clear hfz32_0
             try clear hfz32_1
             try clear hfz32_2
             try clear hfz32_3
             try clear hfz32_4
             try clear hfz33_0
             try clear hfz33_1
             try clear hfz33_2
             try clear hfz33_3
             try clear hfz33_4
             try clear hfz35_0
             try clear hfz35_1
             try clear hfz35_2
             try clear hfz35_3
             try clear hfz35_4
             try clear hfz36_0
             try clear hfz36_1
             try clear hfz36_2
             try clear hfz36_3
             try clear hfz36_4
             try clear hfz38_0
             try clear hfz38_1
             try clear hfz38_2
             try clear hfz38_3
             try clear hfz38_4
             try clear hfz39_0
             try clear hfz39_1
             try clear hfz39_2
             try clear hfz39_3
             try clear hfz39_4
             try clear hfz41_0
             try clear hfz41_1
             try clear hfz41_2
             try clear hfz41_3
             try clear hfz41_4
             try clear hfz42_0
             try clear hfz42_1
             try clear hfz42_2
             try clear hfz42_3
             try clear hfz42_4
             try clear hfz44_0
             try clear hfz44_1
             try clear hfz44_2
             try clear hfz44_3
             try clear hfz44_4
             try clear hfz45_0
             try clear hfz45_1
             try clear hfz45_2
             try clear hfz45_3
             try clear hfz45_4
             try clear hfz49_0
             try clear hfz49_1
             try clear hfz49_2
             try clear hfz49_3
             try clear hfz49_4
             try clear hfz50_0
             try clear hfz50_1
             try clear hfz50_2
             try clear hfz50_3
             try clear hfz50_4
             try clear hfz52_0
             try clear hfz52_1
             try clear hfz52_2
             try clear hfz52_3
             try clear hfz52_4
             try clear hfz53_0
             try clear hfz53_1
             try clear hfz53_2
             try clear hfz53_3
             try clear hfz53_4
             try clear hfz55_0
             try clear hfz55_1
             try clear hfz55_2
             try clear hfz55_3
             try clear hfz55_4
             try clear hx137_0
             try clear hx137_1
             try clear hx137_2
             try clear hx137_3
             try clear hx137_4
             try clear hx139_0
             try clear hx139_1
             try clear hx139_2
             try clear hx139_3
             try clear hx139_4
             try clear hx141_0
             try clear hx141_1
             try clear hx141_2
             try clear hx141_3
             try clear hx141_4
             try clear p1
             try clear p13
             try clear p137
             try clear p139
             try clear p141
             try clear p2
             try clear p6
             try clear q1
             try clear q13
             try clear q137
             try clear q139
             try clear q141
             obtain ⟨kq, x78_20, rfl, HA, HJ20, BK140, BK142, HB⟩ := hcut
             cases kq with
             | zero => exact absurd HA.out (by simp [spec_l4Check.j2])
             | succ kj20 =>
              have H := HA.out
              clear HA
              simp only [spec_l4Check.j2] at H
              by_cases c56 : x78_20 = true
              ·subst c56
               have H1 : (some (-1)) = some r := by rw [if_pos rfl] at H;exact H
               clear H
               have H := H1
               clear H1
               obtain rfl := Option.some.inj H
               go_wp2
               go_ret
               exact ⟨by first|rfl|(simp [errW_none, errW_some] <;> rfl)|(simp [*, errW_none, errW_some] <;> rfl)|(exfalso;simp only [Bool.not_eq_true', Bool.not_eq_false', decide_eq_false_iff_not, decide_eq_true_eq, decide_eq_decide, Int.not_lt, Int.not_le] at *;omega), by repeat (first|(with_reducible first|exact HB.out|apply below_alloc|apply pw_below_drewN|apply below_drew1|refine below_set ?_ GE140.out|refine below_set ?_ GE142.out)|exact HB.out)⟩
              ·replace c56 := Bool.eq_false_iff.mpr c56
               subst c56
               have H1 : ((spec_l4Check.f kj20 l0 x8_2 (wrap64 (a2 + 1))).bind fun t143 => (if t143 < 0 then (some (-1)) else (spec_l4Check.l0 kj20 l0 a2 t143 ((rd_T74 l0 x8_2).f1) (wrap64 (x10_2 + 1)) ((rd_T74 l0 a1).f0) ((rd_T74 l0 a1).f1) ((rd_T74 l0 a1).f2) ((rd_T74 l0 a1).f3) ((rd_T74 l0 a1).f4)))) = some r := by rw [if_neg (show ¬ (false = true) by decide)] at H;exact H
               clear H
               have H := H1
               clear H1
               replace H := Option.bind_eq_some_iff.mp H
               obtain ⟨t143, A570, H⟩ := H
               replace H : (if t143 < 0 then (some (-1)) else (spec_l4Check.l0 kj20 l0 a2 t143 ((rd_T74 l0 x8_2).f1) (wrap64 (x10_2 + 1)) ((rd_T74 l0 a1).f0) ((rd_T74 l0 a1).f1) ((rd_T74 l0 a1).f2) ((rd_T74 l0 a1).f3) ((rd_T74 l0 a1).f4))) = some r := H
               have A57 := Aside0.mk A570
               clear A570
               by_cases c58 : t143 < 0
               ·rw [if_pos c58] at H
                have c58b0 : decide (t143 < 0) = true := decide_eq_true c58
                clear c58
                obtain rfl := Option.some.inj H
                have hnb59 := NB142_140.out
                have hnc59 := NB140_142.out
                obtain ⟨hcz60_0, hcz60_1, hcz60_2, hcz60_3, hcz60_4, hfz60_0, hfz60_1, hfz60_2, hfz60_3, hfz60_4⟩ := blk5_ BK142.out
                go_wp2_with (first|((with_reducible refine gate_callee (f := 67) rfl ?_);refine goesL_ (some 85) rfl rfl Try.func67 (by kernel_rfl) rfl #[.slice (some ad139) l0.length c0, .int .i64 x8_2, .int .i64 (wrap64 (a2 + 1))] rfl (by (try simp only [List.map_toArray, List.map_cons, List.map_nil]);first|done|rfl|(simp only [List.length_drop, List.length_take];rfl)) ?_;(with_reducible refine (ih kj20 (by have := HJ3.out;have := HK2.out;have := HJ20.out;omega) _ _ l0 x8_2 (wrap64 (a2 + 1)) t143 _ ?side1 ?side2 A57.out).mono ?_);(case side1 => repeat (first|exact (Kd.C_below HR0.out HB.out)|(with_reducible refine Kd.C_alloc ?_ _)|(with_reducible refine Kd.C_drewN ?_ _)|(with_reducible refine Kd.C_drew ?_)));(case side2 => exact HC0.out);rintro e w61 ⟨rfl, hb⟩;refine ⟨_, rfl, ?_⟩;have n0_ := Aside0.mk (blk_below (g := gb140) (o := .cells #[.int .i64 ((rd_T74 l0 a1).f0), .int .i64 ((rd_T74 l0 a1).f1), .int .i64 ((rd_T74 l0 a1).f2), .string ((rd_T74 l0 a1).f3), .int .i64 ((rd_T74 l0 a1).f4)] 74 (0, 0)) (by (with_reducible repeat (first|refine blk_drewN ?_ _|refine blk_drew ?_|refine blk_alloc ?_ _));exact BK140.out) hb);have n1_ := Aside0.mk (blk_below (g := gb142) (o := .cells #[.int .i64 ((rd_T74 l0 x8_2).f0), .int .i64 ((rd_T74 l0 x8_2).f1), .int .i64 ((rd_T74 l0 x8_2).f2), .string ((rd_T74 l0 x8_2).f3), .int .i64 ((rd_T74 l0 x8_2).f4)] 74 (0, 0)) (by (with_reducible repeat (first|refine blk_drewN ?_ _|refine blk_drew ?_|refine blk_alloc ?_ _));exact BK142.out) hb);have n2_ := Aside0.mk (below_step (by repeat (first|(with_reducible first|exact HB.out|apply below_alloc|apply pw_below_drewN|apply below_drew1|refine below_set ?_ GE140.out|refine below_set ?_ GE142.out)|exact HB.out)) hb);clear BK140;clear BK142;clear HB;have BK140 := n0_;have BK142 := n1_;have HB := n2_;clear n0_ n1_ n2_;(try clear hb);(try clear hb2);(try clear hk);(try clear hi)))
                go_ret
                exact ⟨by first|rfl|(simp [errW_none, errW_some] <;> rfl)|(simp [*, errW_none, errW_some] <;> rfl)|(exfalso;simp only [Bool.not_eq_true', Bool.not_eq_false', decide_eq_false_iff_not, decide_eq_true_eq, decide_eq_decide, Int.not_lt, Int.not_le] at *;omega), by repeat (first|(with_reducible first|exact HB.out|apply below_alloc|apply pw_below_drewN|apply below_drew1|refine below_set ?_ GE140.out|refine below_set ?_ GE142.out)|exact HB.out)⟩
               ·rw [if_neg c58] at H
                have c58b0 : decide (t143 < 0) = false := decide_eq_false c58
                clear c58
                have H' := Aside0.mk H
                clear H
                have hnb62 := NB142_140.out
                have hnc62 := NB140_142.out
                obtain ⟨hcz63_0, hcz63_1, hcz63_2, hcz63_3, hcz63_4, hfz63_0, hfz63_1, hfz63_2, hfz63_3, hfz63_4⟩ := blk5_ BK142.out
                go_wp2_with (first|((with_reducible refine gate_callee (f := 67) rfl ?_);refine goesL_ (some 85) rfl rfl Try.func67 (by kernel_rfl) rfl #[.slice (some ad139) l0.length c0, .int .i64 x8_2, .int .i64 (wrap64 (a2 + 1))] rfl (by (try simp only [List.map_toArray, List.map_cons, List.map_nil]);first|done|rfl|(simp only [List.length_drop, List.length_take];rfl)) ?_;(with_reducible refine (ih kj20 (by have := HJ3.out;have := HK2.out;have := HJ20.out;omega) _ _ l0 x8_2 (wrap64 (a2 + 1)) t143 _ ?side1 ?side2 A57.out).mono ?_);(case side1 => repeat (first|exact (Kd.C_below HR0.out HB.out)|(with_reducible refine Kd.C_alloc ?_ _)|(with_reducible refine Kd.C_drewN ?_ _)|(with_reducible refine Kd.C_drew ?_)));(case side2 => exact HC0.out);rintro e w64 ⟨rfl, hb⟩;refine ⟨_, rfl, ?_⟩;have n0_ := Aside0.mk (blk_below (g := gb140) (o := .cells #[.int .i64 ((rd_T74 l0 a1).f0), .int .i64 ((rd_T74 l0 a1).f1), .int .i64 ((rd_T74 l0 a1).f2), .string ((rd_T74 l0 a1).f3), .int .i64 ((rd_T74 l0 a1).f4)] 74 (0, 0)) (by (with_reducible repeat (first|refine blk_drewN ?_ _|refine blk_drew ?_|refine blk_alloc ?_ _));exact BK140.out) hb);have n1_ := Aside0.mk (blk_below (g := gb142) (o := .cells #[.int .i64 ((rd_T74 l0 x8_2).f0), .int .i64 ((rd_T74 l0 x8_2).f1), .int .i64 ((rd_T74 l0 x8_2).f2), .string ((rd_T74 l0 x8_2).f3), .int .i64 ((rd_T74 l0 x8_2).f4)] 74 (0, 0)) (by (with_reducible repeat (first|refine blk_drewN ?_ _|refine blk_drew ?_|refine blk_alloc ?_ _));exact BK142.out) hb);have n2_ := Aside0.mk (below_step (by repeat (first|(with_reducible first|exact HB.out|apply below_alloc|apply pw_below_drewN|apply below_drew1|refine below_set ?_ GE140.out|refine below_set ?_ GE142.out)|exact HB.out)) hb);clear BK140;clear BK142;clear HB;have BK140 := n0_;have BK142 := n1_;have HB := n2_;clear n0_ n1_ n2_;(try clear hb);(try clear hb2);(try clear hk);(try clear hi)))
                go_roundg kj20
                case measure => have := HJ3.out;have := HK2.out;have := HJ20.out;omega
                case rel => exact ⟨(t143), (((rd_T74 l0 x8_2).f1)), (wrap64 (x10_2 + 1)), (by first|rfl|(simp;done)|(simp [*];done)), (by first|rfl|(simp;done)|(simp [*];done)), (by first|rfl|(simp;done)|(simp [*];done)), H', ⟨by have := HJ3.out;have := HK2.out;have := HJ20.out;omega⟩, ⟨by (with_reducible repeat (first|refine blk_drewN ?_ _|refine blk_drew ?_|refine blk_alloc ?_ _));exact BK140.out⟩, ⟨by repeat (first|(with_reducible first|exact HB.out|apply below_alloc|apply pw_below_drewN|apply below_drew1|refine below_set ?_ GE140.out|refine below_set ?_ GE142.out)|exact HB.out)⟩⟩
           ·rw [if_neg c20] at H
            exact absurd H (by simp)
          ·rw [if_neg c19] at H
           exact absurd H (by simp)
        ·rw [if_neg c16] at H
         have c16b0 : decide (x10_2 < ((rd_T74 l0 a1).f4)) = false := decide_eq_false c16
         clear c16
         obtain rfl := Option.some.inj H
         obtain ⟨hcz65_0, hcz65_1, hcz65_2, hcz65_3, hcz65_4, hfz65_0, hfz65_1, hfz65_2, hfz65_3, hfz65_4⟩ := blk5_ BK140.out
         go_wp2
         go_ret
         exact ⟨by first|rfl|(simp [errW_none, errW_some] <;> rfl)|(simp [*, errW_none, errW_some] <;> rfl)|(exfalso;simp only [Bool.not_eq_true', Bool.not_eq_false', decide_eq_false_iff_not, decide_eq_true_eq, decide_eq_decide, Int.not_lt, Int.not_le] at *;omega), by repeat (first|(with_reducible first|exact HB.out|apply below_alloc|apply pw_below_drewN|apply below_drew1|refine below_set ?_ GE140.out)|exact HB.out)⟩
     ·rw [if_neg c13] at H
      exact absurd H (by simp)
    ·rw [if_neg c12] at H
     exact absurd H (by simp)

end Go.Proofs.Ytjbghmdbceekiaa.PFnExactTreePack
