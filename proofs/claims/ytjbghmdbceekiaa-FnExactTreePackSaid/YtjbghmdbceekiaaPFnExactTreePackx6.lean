-- Written by a program of this seat's prover (wip/myprint.sh) over the loaded functions.
import Derived.Test.YtjbghmdbceekiaaPFnExactTreePackx0
import Derived.Test.YtjbghmdbceekiaaPFnExactTreePackx5
namespace Go.Proofs.Ytjbghmdbceekiaa.PFnExactTreePack
open Go.RowKit Go.Proofs.YtjbghmdbceekiaaW.PrintWords Go.Proofs.YtjbghmdbceekiaaW.PrintLast Go.Proofs.YtjbghmdbceekiaaW.PrintMore
attribute [local go_sem] max2_int min2_int max_two min_two max_three min_three max_four min_four   -- for this text's walks alone
set_option linter.unusedVariables false
set_option linter.unusedSimpArgs false

mutual
def spec_l4Pack.j0 : Nat → List (S74) → Int → List Int → Int → Bool → Int → Int → Int → ByteArray → Int → Option (List Int × Int)
 | 0, _, _, _, _, _, _, _, _, _, _ => none
 | k + 1, x0, x7, x8, x25, x26, x165000, x165001, x165002, x165003, x165004 => if x26 = true then ((spec_ZigPut.f k x165002).bind fun t168 => (some (t168, x7))) else (if x25 = 8 then ((spec_UvarPut.f k (x165003.size : Int)).bind fun t171 => (if x165003.size ≤ 140737488355328 then ((some (bytesOf x165003 : List Int)).bind fun y174 => (if t171.length + y174.length < 140737488355328 then (some ((t171 ++ y174), x7)) else (none))) else (none))) else (if x25 = 9 then (if x165004 ≤ 14 then (if x8.length < 140737488355328 then (spec_l4Pack.j1 k x0 x7 (x8 ++ [(wrap64 ((wrap64 (16 * x165004)) + x165002)) % 256]) x165000 x165001 x165002 x165003 x165004) else (none)) else (if x8.length < 140737488355328 then ((some (x8 ++ [(wrap64 (240 + x165002)) % 256] : List Int)).bind fun y183 => ((spec_UvarPut.f k x165004).bind fun t186 => (if y183.length + t186.length < 140737488355328 then (spec_l4Pack.j1 k x0 x7 (y183 ++ t186) x165000 x165001 x165002 x165003 x165004) else (none)))) else (none))) else (if x25 = 12 then (spec_l4Pack.l1 k x0 x7 x8 0 0 x165000 x165001 x165002 x165003 x165004) else (some (x8, x7)))))
def spec_l4Pack.j1 : Nat → List (S74) → Int → List Int → Int → Int → Int → ByteArray → Int → Option (List Int × Int)
 | 0, _, _, _, _, _, _, _, _ => none
 | k + 1, x0, x7, x8, x165000, x165001, x165002, x165003, x165004 => spec_l4Pack.l0 k x0 x7 x8 0 x165000 x165001 x165002 x165003 x165004
def spec_l4Pack.l0 : Nat → List (S74) → Int → List Int → Int → Int → Int → Int → ByteArray → Int → Option (List Int × Int)
 | 0, _, _, _, _, _, _, _, _, _ => none
 | k + 1, x0, x7, x8, x9, x165000, x165001, x165002, x165003, x165004 => if x9 < x165004 then ((spec_l4Pack.f k x0 x7).bind fun bt192 => (if x8.length + bt192.1.length < 140737488355328 then (spec_l4Pack.l0 k x0 bt192.2 (x8 ++ bt192.1) (wrap64 (x9 + 1)) x165000 x165001 x165002 x165003 x165004) else (none))) else (some (x8, x7))
def spec_l4Pack.l1 : Nat → List (S74) → Int → List Int → Int → Int → Int → Int → Int → ByteArray → Int → Option (List Int × Int)
 | 0, _, _, _, _, _, _, _, _, _, _ => none
 | k + 1, x0, x7, x8, x12, x13, x165000, x165001, x165002, x165003, x165004 => if x13 < x165004 then (if 0 ≤ x7 then (if x7 < (x0.length : Int) then (if (wrap64 (((rd_T74 x0 x7).f1) - x12)) ≤ 15 then (if x8.length < 140737488355328 then ((some (x8 ++ [(wrap64 ((wrap64 (16 * (wrap64 (((rd_T74 x0 x7).f1) - x12)))) + ((rd_T74 x0 x7).f0))) % 256] : List Int)).bind fun y204 => ((spec_l4Pack.f k x0 x7).bind fun bt207 => (if y204.length + bt207.1.length < 140737488355328 then (spec_l4Pack.l1 k x0 bt207.2 (y204 ++ bt207.1) ((rd_T74 x0 x7).f1) (wrap64 (x13 + 1)) x165000 x165001 x165002 x165003 x165004) else (none)))) else (none)) else (if x8.length < 140737488355328 then ((some (x8 ++ [((rd_T74 x0 x7).f0) % 256] : List Int)).bind fun y214 => ((spec_ZigPut.f k ((rd_T74 x0 x7).f1)).bind fun t217 => (if y214.length + t217.length < 140737488355328 then ((some (y214 ++ t217 : List Int)).bind fun y220 => ((spec_l4Pack.f k x0 x7).bind fun bt223 => (if y220.length + bt223.1.length < 140737488355328 then (spec_l4Pack.l1 k x0 bt223.2 (y220 ++ bt223.1) ((rd_T74 x0 x7).f1) (wrap64 (x13 + 1)) x165000 x165001 x165002 x165003 x165004) else (none)))) else (none)))) else (none))) else (none)) else (none)) else (if x8.length < 140737488355328 then (some ((x8 ++ [0]), x7)) else (none))
def spec_l4Pack.f : Nat → List (S74) → Int → Option (List Int × Int)
 | 0, _, _ => none
 | k + 1, l0, a1 => if 0 ≤ a1 then (if a1 < (l0.length : Int) then ((some (([] : List Int) : List Int)).bind fun y165 => (if ((rd_T74 l0 a1).f0) = 5 then (spec_l4Pack.j0 k l0 (wrap64 (a1 + 1)) y165 ((rd_T74 l0 a1).f0) (((rd_T74 l0 a1).f0) == 5) ((rd_T74 l0 a1).f0) ((rd_T74 l0 a1).f1) ((rd_T74 l0 a1).f2) ((rd_T74 l0 a1).f3) ((rd_T74 l0 a1).f4)) else (spec_l4Pack.j0 k l0 (wrap64 (a1 + 1)) y165 ((rd_T74 l0 a1).f0) (((rd_T74 l0 a1).f0) == 6) ((rd_T74 l0 a1).f0) ((rd_T74 l0 a1).f1) ((rd_T74 l0 a1).f2) ((rd_T74 l0 a1).f3) ((rd_T74 l0 a1).f4)))) else (none)) else (none)
end
theorem spec_l4Pack.mono_l : ∀ k, (∀ y0 y1, LeO (spec_l4Pack.f k y0 y1) (spec_l4Pack.f (k + 1) y0 y1)) ∧ (∀ y0 y1 y2 y3 y4 y5 y6 y7 y8 y9, LeO (spec_l4Pack.j0 k y0 y1 y2 y3 y4 y5 y6 y7 y8 y9) (spec_l4Pack.j0 (k + 1) y0 y1 y2 y3 y4 y5 y6 y7 y8 y9)) ∧ (∀ y0 y1 y2 y3 y4 y5 y6 y7, LeO (spec_l4Pack.j1 k y0 y1 y2 y3 y4 y5 y6 y7) (spec_l4Pack.j1 (k + 1) y0 y1 y2 y3 y4 y5 y6 y7)) ∧ (∀ y0 y1 y2 y3 y4 y5 y6 y7 y8, LeO (spec_l4Pack.l0 k y0 y1 y2 y3 y4 y5 y6 y7 y8) (spec_l4Pack.l0 (k + 1) y0 y1 y2 y3 y4 y5 y6 y7 y8)) ∧ (∀ y0 y1 y2 y3 y4 y5 y6 y7 y8 y9, LeO (spec_l4Pack.l1 k y0 y1 y2 y3 y4 y5 y6 y7 y8 y9) (spec_l4Pack.l1 (k + 1) y0 y1 y2 y3 y4 y5 y6 y7 y8 y9))
 | 0 => ⟨fun _ _ r h => by simp [spec_l4Pack.f] at h, fun _ _ _ _ _ _ _ _ _ _ r h => by simp [spec_l4Pack.j0] at h, fun _ _ _ _ _ _ _ _ r h => by simp [spec_l4Pack.j1] at h, fun _ _ _ _ _ _ _ _ _ r h => by simp [spec_l4Pack.l0] at h, fun _ _ _ _ _ _ _ _ _ _ r h => by simp [spec_l4Pack.l1] at h⟩
 | k + 1 => by
  obtain ⟨ih0, ih1, ih2, ih3, ih4⟩ := spec_l4Pack.mono_l k
  refine ⟨?_, ?_, ?_, ?_, ?_⟩
  ·intro y0 y1
   unfold spec_l4Pack.f
   repeat' first
   |(with_reducible exact ih0 _ _)
   |(with_reducible exact ih1 _ _ _ _ _ _ _ _ _ _)
   |(with_reducible exact ih2 _ _ _ _ _ _ _ _)
   |(with_reducible exact ih3 _ _ _ _ _ _ _ _ _)
   |(with_reducible exact ih4 _ _ _ _ _ _ _ _ _ _)
   |(with_reducible exact spec_UvarPut.mono _ _)
   |(with_reducible exact spec_ZigPut.mono _ _)
   |(with_reducible exact LeO.refl _)
   |(with_reducible exact LeO.none _)
   |(with_reducible refine LeO.ite ?_ ?_)
   |(with_reducible refine LeO.bind ?_ (fun _ => ?_))
   | exact ih0 _ _
   | exact ih1 _ _ _ _ _ _ _ _ _ _
   | exact ih2 _ _ _ _ _ _ _ _
   | exact ih3 _ _ _ _ _ _ _ _ _
   | exact ih4 _ _ _ _ _ _ _ _ _ _
   | exact spec_UvarPut.mono _ _
   | exact spec_ZigPut.mono _ _
   | exact LeO.none _
   | refine LeO.ite ?_ ?_
   | refine LeO.bind ?_ (fun _ => ?_)
  ·intro y0 y1 y2 y3 y4 y5 y6 y7 y8 y9
   unfold spec_l4Pack.j0
   repeat' first
   |(with_reducible exact ih0 _ _)
   |(with_reducible exact ih1 _ _ _ _ _ _ _ _ _ _)
   |(with_reducible exact ih2 _ _ _ _ _ _ _ _)
   |(with_reducible exact ih3 _ _ _ _ _ _ _ _ _)
   |(with_reducible exact ih4 _ _ _ _ _ _ _ _ _ _)
   |(with_reducible exact spec_UvarPut.mono _ _)
   |(with_reducible exact spec_ZigPut.mono _ _)
   |(with_reducible exact LeO.refl _)
   |(with_reducible exact LeO.none _)
   |(with_reducible refine LeO.ite ?_ ?_)
   |(with_reducible refine LeO.bind ?_ (fun _ => ?_))
   | exact ih0 _ _
   | exact ih1 _ _ _ _ _ _ _ _ _ _
   | exact ih2 _ _ _ _ _ _ _ _
   | exact ih3 _ _ _ _ _ _ _ _ _
   | exact ih4 _ _ _ _ _ _ _ _ _ _
   | exact spec_UvarPut.mono _ _
   | exact spec_ZigPut.mono _ _
   | exact LeO.none _
   | refine LeO.ite ?_ ?_
   | refine LeO.bind ?_ (fun _ => ?_)
  ·intro y0 y1 y2 y3 y4 y5 y6 y7
   unfold spec_l4Pack.j1
   repeat' first
   |(with_reducible exact ih0 _ _)
   |(with_reducible exact ih1 _ _ _ _ _ _ _ _ _ _)
   |(with_reducible exact ih2 _ _ _ _ _ _ _ _)
   |(with_reducible exact ih3 _ _ _ _ _ _ _ _ _)
   |(with_reducible exact ih4 _ _ _ _ _ _ _ _ _ _)
   |(with_reducible exact spec_UvarPut.mono _ _)
   |(with_reducible exact spec_ZigPut.mono _ _)
   |(with_reducible exact LeO.refl _)
   |(with_reducible exact LeO.none _)
   |(with_reducible refine LeO.ite ?_ ?_)
   |(with_reducible refine LeO.bind ?_ (fun _ => ?_))
   | exact ih0 _ _
   | exact ih1 _ _ _ _ _ _ _ _ _ _
   | exact ih2 _ _ _ _ _ _ _ _
   | exact ih3 _ _ _ _ _ _ _ _ _
   | exact ih4 _ _ _ _ _ _ _ _ _ _
   | exact spec_UvarPut.mono _ _
   | exact spec_ZigPut.mono _ _
   | exact LeO.none _
   | refine LeO.ite ?_ ?_
   | refine LeO.bind ?_ (fun _ => ?_)
  ·intro y0 y1 y2 y3 y4 y5 y6 y7 y8
   unfold spec_l4Pack.l0
   repeat' first
   |(with_reducible exact ih0 _ _)
   |(with_reducible exact ih1 _ _ _ _ _ _ _ _ _ _)
   |(with_reducible exact ih2 _ _ _ _ _ _ _ _)
   |(with_reducible exact ih3 _ _ _ _ _ _ _ _ _)
   |(with_reducible exact ih4 _ _ _ _ _ _ _ _ _ _)
   |(with_reducible exact spec_UvarPut.mono _ _)
   |(with_reducible exact spec_ZigPut.mono _ _)
   |(with_reducible exact LeO.refl _)
   |(with_reducible exact LeO.none _)
   |(with_reducible refine LeO.ite ?_ ?_)
   |(with_reducible refine LeO.bind ?_ (fun _ => ?_))
   | exact ih0 _ _
   | exact ih1 _ _ _ _ _ _ _ _ _ _
   | exact ih2 _ _ _ _ _ _ _ _
   | exact ih3 _ _ _ _ _ _ _ _ _
   | exact ih4 _ _ _ _ _ _ _ _ _ _
   | exact spec_UvarPut.mono _ _
   | exact spec_ZigPut.mono _ _
   | exact LeO.none _
   | refine LeO.ite ?_ ?_
   | refine LeO.bind ?_ (fun _ => ?_)
  ·intro y0 y1 y2 y3 y4 y5 y6 y7 y8 y9
   unfold spec_l4Pack.l1
   repeat' first
   |(with_reducible exact ih0 _ _)
   |(with_reducible exact ih1 _ _ _ _ _ _ _ _ _ _)
   |(with_reducible exact ih2 _ _ _ _ _ _ _ _)
   |(with_reducible exact ih3 _ _ _ _ _ _ _ _ _)
   |(with_reducible exact ih4 _ _ _ _ _ _ _ _ _ _)
   |(with_reducible exact spec_UvarPut.mono _ _)
   |(with_reducible exact spec_ZigPut.mono _ _)
   |(with_reducible exact LeO.refl _)
   |(with_reducible exact LeO.none _)
   |(with_reducible refine LeO.ite ?_ ?_)
   |(with_reducible refine LeO.bind ?_ (fun _ => ?_))
   | exact ih0 _ _
   | exact ih1 _ _ _ _ _ _ _ _ _ _
   | exact ih2 _ _ _ _ _ _ _ _
   | exact ih3 _ _ _ _ _ _ _ _ _
   | exact ih4 _ _ _ _ _ _ _ _ _ _
   | exact spec_UvarPut.mono _ _
   | exact spec_ZigPut.mono _ _
   | exact LeO.none _
   | refine LeO.ite ?_ ?_
   | refine LeO.bind ?_ (fun _ => ?_)
theorem spec_l4Pack.mono : ∀ a0 a1 k, LeO (spec_l4Pack.f k a0 a1) (spec_l4Pack.f (k + 1) a0 a1) := by
 intro a0 a1 k
 obtain ⟨ih0, ih1, ih2, ih3, ih4⟩ := spec_l4Pack.mono_l k
 exact ih0 a0 a1
def spec_l4Pack.T9 : Bool × List (List Nat × List Nat) := (true, [([], []), ([0], [0]), ([1], [1]), ([2], [2]), ([], []), ([4], [4]), ([5], [5]), ([3, 6, 3], [3, 6]), ([], []), ([7, 7, 0, 1, 2, 3, 4, 5, 6, 7], [7]), ([8, 9, 0, 1, 2, 3, 4, 5, 6, 7, 8, 9], [8])])
def spec_l4Pack.B9 : List Nat := [0, 1, 3, 7, 0, 16, 48, 127, 0, 255, 1023]
theorem spec_l4Pack.tab9 : rtab .any (opsOf Try.f87 9) = spec_l4Pack.T9 := by kernel_rfl
theorem spec_l4Pack.bits9 : waitsOk spec_l4Pack.T9.2 spec_l4Pack.B9 = true := by kernel_rfl
set_option maxHeartbeats 8000000 in
set_option maxRecDepth 100000 in
theorem spec_l4Pack.calls (k : Nat) : ∀ (A0 : Option Addr) (c0 : Nat) (l0 : List (S74)) (a1 : Int) (r1 : List Int) (r2 : Int) (w : World) (hr0 : Kd.C k74 w A0 l0.length l0) (hc0 : l0.length ≤ c0) (h : spec_l4Pack.f k l0 a1 = some (r1, r2)),
  Calls Try.prog 87 #[.slice A0 l0.length c0, .int .i64 a1] w fun e w' => ∃ v0_ : Value, e = .returned (.tuple #[v0_, .int .i64 r2]) ∧ Kd.R (Kd.int .u8) 5 w' w.heap.size (fun _ => True) v0_ r1 ∧ Below w.heap.size w w' := by
 induction k using Nat.strongRecOn with
 | _ k ih =>
 intro A0 c0 l0 a1 r1 r2 w hr0 hc0 h
 cases k with
 | zero => exact absurd h (by simp [spec_l4Pack.f])
 | succ k =>
 simp only [spec_l4Pack.f] at h
 have hu74 := Try.underlying74
 have HR0 := Aside0.mk hr0
 have HC0 := Aside0.mk hc0
 clear hr0 hc0
 have HB := Aside0.mk (Below.refl w.heap.size w)
 have H : (if 0 ≤ a1 then (if a1 < (l0.length : Int) then ((some (([] : List Int) : List Int)).bind fun y165 => (if ((rd_T74 l0 a1).f0) = 5 then (spec_l4Pack.j0 k l0 (wrap64 (a1 + 1)) y165 ((rd_T74 l0 a1).f0) (((rd_T74 l0 a1).f0) == 5) ((rd_T74 l0 a1).f0) ((rd_T74 l0 a1).f1) ((rd_T74 l0 a1).f2) ((rd_T74 l0 a1).f3) ((rd_T74 l0 a1).f4)) else (spec_l4Pack.j0 k l0 (wrap64 (a1 + 1)) y165 ((rd_T74 l0 a1).f0) (((rd_T74 l0 a1).f0) == 6) ((rd_T74 l0 a1).f0) ((rd_T74 l0 a1).f1) ((rd_T74 l0 a1).f2) ((rd_T74 l0 a1).f3) ((rd_T74 l0 a1).f4)))) else (none)) else (none)) = some (r1, r2) := h
 clear h
 by_cases c3 : 0 ≤ a1
 ·rw [if_pos c3] at H
  have c3b0 : decide (0 ≤ a1) = true := decide_eq_true c3
  clear c3
  by_cases c4 : a1 < (l0.length : Int)
  ·rw [if_pos c4] at H
   have c4b0 : decide (a1 < (l0.length : Int)) = true := decide_eq_true c4
   clear c4
   obtain ⟨y165, hy165⟩ : ∃ y_ : List Int, y_ = (([] : List Int)) := ⟨_, rfl⟩
   replace H : (if ((rd_T74 l0 a1).f0) = 5 then (spec_l4Pack.j0 k l0 (wrap64 (a1 + 1)) y165 ((rd_T74 l0 a1).f0) (((rd_T74 l0 a1).f0) == 5) ((rd_T74 l0 a1).f0) ((rd_T74 l0 a1).f1) ((rd_T74 l0 a1).f2) ((rd_T74 l0 a1).f3) ((rd_T74 l0 a1).f4)) else (spec_l4Pack.j0 k l0 (wrap64 (a1 + 1)) y165 ((rd_T74 l0 a1).f0) (((rd_T74 l0 a1).f0) == 6) ((rd_T74 l0 a1).f0) ((rd_T74 l0 a1).f1) ((rd_T74 l0 a1).f2) ((rd_T74 l0 a1).f3) ((rd_T74 l0 a1).f4))) = some (r1, r2) := by first|(rw [hy165];with_reducible exact H)|(have H2_ := (Option.bind_some _ _).symm.trans H;rw [hy165];with_reducible exact H2_)|(have H2_ := (Option.bind_some _ _).symm.trans H;with_reducible exact H2_)|with_reducible exact H|(rw [hy165];exact H)|exact H
   have Ny165 := Aside0.mk hy165
   clear hy165
   have HC5 := Aside0.mk H
   clear H
   have p163 : 0 ≤ (a1 : Int) := of_decide_eq_true (by first|(with_reducible assumption)|assumption)
   have q163 : a1 < (l0.length : Int) := of_decide_eq_true (by first|(with_reducible assumption)|assumption)
   obtain ⟨ad163, e163, hx163_0, hx163_1, hx163_2, hx163_3, hx163_4⟩ := at_T74 HR0.out a1 p163 q163
   cases e163
   replace p163 := eq_true p163
   replace q163 := eq_true q163
   go_enter Try.func87, Try.ntmps87
   go_upto_if 26 with (first|((with_reducible refine gate_dst (N := 6) rfl ?_);refine box_event ?hg (N := 6) ?hd (cs := #[.int .i64 0, .int .i64 0, .int .i64 0, .string (⟨#[]⟩ : ByteArray), .int .i64 0]) (t := 74) ?hr ?_;(case hd => rfl);(case hg => rfl);(case hr => first|(go_simp;done)|(go_simp;rfl));intro gb164 hg w6 hbox hb;have n0_ := Aside0.mk (below_step (by repeat (first|(with_reducible first|exact HB.out|apply below_alloc|apply pw_below_drewN|apply below_drew1)|exact HB.out)) hb);have n1_ := Aside0.mk (hbox);have n2_ := Aside0.mk ((by rw [hg];exact (below_size (by repeat (first|(with_reducible first|exact HB.out|apply below_alloc|apply pw_below_drewN|apply below_drew1)|exact HB.out))) : w.heap.size ≤ gb164));have n3_ := Aside0.mk ((by rw [hg];exact (below_size (by repeat (first|(with_reducible first|exact HB.out|apply below_alloc|apply pw_below_drewN|apply below_drew1)|exact HB.out))) : w.heap.size ≤ gb164));clear HB;have HB := n0_;have BK164 := n1_;have GW164 := n2_;have GE164 := n3_;clear n0_ n1_ n2_ n3_;clear hb hbox hg;obtain ⟨hcz7_0, hcz7_1, hcz7_2, hcz7_3, hcz7_4, hfz7_0, hfz7_1, hfz7_2, hfz7_3, hfz7_4⟩ := blk5_ BK164.out)|((with_reducible refine gate_dst (N := 23) rfl ?_);refine Kd.R_lit (Kd.int .u8) _ 5 ?hg (N := 23) ?hd (xs := ([] : List Int)) (inner := []) (ok := fun _ => True) (okp := fun _ => True) ?hr ?hp (fun _ hk => hk) trivial (Below.refl _ _) (Nat.le_refl _) (by simp) ?_;(case hd => rfl);(case hg => rfl);(case hr => first|(go_simp;done)|(go_simp;rfl));(case hp => exact (Reps.none _ _));intro v166 w8 ho9 hb hg_ hnew_;clear hg_ hnew_;(first|rw [← Ny165.out] at ho9|(simp only [Int.reduceToNat] at ho9;rw [← Ny165.out] at ho9));have n0_ := Aside0.mk (Kd.R_lower ho9 (below_size (by repeat (first|(with_reducible first|exact HB.out|apply below_alloc|apply pw_below_drewN|apply below_drew1|refine below_set ?_ GE164.out)|exact HB.out))));have n1_ := Aside0.mk (blk_below (g := gb164) (o := .cells #[.int .i64 ((rd_T74 l0 a1).f0), .int .i64 ((rd_T74 l0 a1).f1), .int .i64 ((rd_T74 l0 a1).f2), .string ((rd_T74 l0 a1).f3), .int .i64 ((rd_T74 l0 a1).f4)] 74 (0, 0)) (by (with_reducible repeat (first|refine blk_drewN ?_ _|refine blk_drew ?_|refine blk_alloc ?_ _));refine blk_put (cs := #[.int .i64 ((rd_T74 l0 a1).f0), .int .i64 ((rd_T74 l0 a1).f1), .int .i64 ((rd_T74 l0 a1).f2), .string ((rd_T74 l0 a1).f3), .int .i64 0]) ?_ 4 _ rfl;(with_reducible repeat (first|refine blk_drewN ?_ _|refine blk_drew ?_|refine blk_alloc ?_ _));refine blk_put (cs := #[.int .i64 ((rd_T74 l0 a1).f0), .int .i64 ((rd_T74 l0 a1).f1), .int .i64 ((rd_T74 l0 a1).f2), .string (⟨#[]⟩ : ByteArray), .int .i64 0]) ?_ 3 _ rfl;(with_reducible repeat (first|refine blk_drewN ?_ _|refine blk_drew ?_|refine blk_alloc ?_ _));refine blk_put (cs := #[.int .i64 ((rd_T74 l0 a1).f0), .int .i64 ((rd_T74 l0 a1).f1), .int .i64 0, .string (⟨#[]⟩ : ByteArray), .int .i64 0]) ?_ 2 _ rfl;(with_reducible repeat (first|refine blk_drewN ?_ _|refine blk_drew ?_|refine blk_alloc ?_ _));refine blk_put (cs := #[.int .i64 ((rd_T74 l0 a1).f0), .int .i64 0, .int .i64 0, .string (⟨#[]⟩ : ByteArray), .int .i64 0]) ?_ 1 _ rfl;(with_reducible repeat (first|refine blk_drewN ?_ _|refine blk_drew ?_|refine blk_alloc ?_ _));refine blk_put (cs := #[.int .i64 0, .int .i64 0, .int .i64 0, .string (⟨#[]⟩ : ByteArray), .int .i64 0]) ?_ 0 _ rfl;(with_reducible repeat (first|refine blk_drewN ?_ _|refine blk_drew ?_|refine blk_alloc ?_ _));exact BK164.out) hb);have n2_ := Aside0.mk (below_step (by repeat (first|(with_reducible first|exact HB.out|apply below_alloc|apply pw_below_drewN|apply below_drew1|refine below_set ?_ GE164.out)|exact HB.out)) hb);clear BK164;clear HB;have HO167 := n0_;have BK164 := n1_;have HB := n2_;clear n0_ n1_ n2_;clear hb ho9;obtain ⟨hcz10_0, hcz10_1, hcz10_2, hcz10_3, hcz10_4, hfz10_0, hfz10_1, hfz10_2, hfz10_3, hfz10_4⟩ := blk5_ BK164.out))
   (try simp only [Act.put, List.setIfInBounds_toArray, List.set_cons_zero, List.set_cons_succ])
   go_cut [26] (fun v26 wc => ∃ (kq : Nat) (x26_4 : Bool), v26 = .bool x26_4 ∧ Aside0 (spec_l4Pack.j0 kq l0 (wrap64 (a1 + 1)) y165 ((rd_T74 l0 a1).f0) x26_4 ((rd_T74 l0 a1).f0) ((rd_T74 l0 a1).f1) ((rd_T74 l0 a1).f2) ((rd_T74 l0 a1).f3) ((rd_T74 l0 a1).f4) = some (r1, r2)) ∧ Aside0 (kq ≤ k) ∧ Aside0 (Kd.R (Kd.int .u8) 5 wc w.heap.size (fun _ => True) v166 y165) ∧ Aside0 (wc.heap[gb164]? = some (.cells #[.int .i64 ((rd_T74 l0 a1).f0), .int .i64 ((rd_T74 l0 a1).f1), .int .i64 ((rd_T74 l0 a1).f2), .string ((rd_T74 l0 a1).f3), .int .i64 ((rd_T74 l0 a1).f4)] 74 (0, 0))) ∧ Aside0 (Below w.heap.size w wc))
   case first =>
    have H := HC5.out
    clear HC5
    by_cases c11 : ((rd_T74 l0 a1).f0) = 5
    ·rw [if_pos c11] at H
     have c11b0 : (((rd_T74 l0 a1).f0) == 5) = true := beq_iff_eq.mpr c11
     have c11b1 : (((rd_T74 l0 a1).f0) != 5) = false := bne_eq_false_iff_eq.mpr c11
     clear c11
     (first|rw [c11b0]|(simp only [i64_w, i32_w];rw [c11b0])|rw [c11b2]|skip)
     have H' := Aside0.mk H
     clear H
     go_wp2
     go_meet
     case rel => exact ⟨_, ((((rd_T74 l0 a1).f0) == 5)), (by first|rfl|(simp;done)|(simp [*];done)), H', ⟨by first|omega|exact Nat.le_refl _⟩, ⟨by (with_reducible repeat (first|apply Kd.R_alloc|apply Kd.R_drewN|apply Kd.R_drew));exact HO167.out⟩, ⟨by (with_reducible repeat (first|refine blk_drewN ?_ _|refine blk_drew ?_|refine blk_alloc ?_ _));exact BK164.out⟩, ⟨by repeat (first|(with_reducible first|exact HB.out|apply below_alloc|apply pw_below_drewN|apply below_drew1|refine below_set ?_ GE164.out)|exact HB.out)⟩⟩
    ·rw [if_neg c11] at H
     have c11b0 : (((rd_T74 l0 a1).f0) == 5) = false := beq_eq_false_iff_ne.mpr c11
     have c11b1 : (((rd_T74 l0 a1).f0) != 5) = true := bne_iff_ne.mpr c11
     (first|rw [c11b0]|(simp only [i64_w, i32_w];rw [c11b0])|rw [c11b2]|skip)
     have H' := Aside0.mk H
     clear H
     go_wp2
     go_meet
     case rel => exact ⟨_, ((((rd_T74 l0 a1).f0) == 6)), (by first|rfl|(simp;done)|(simp [*];done)), H', ⟨by first|omega|exact Nat.le_refl _⟩, ⟨by (with_reducible repeat (first|apply Kd.R_alloc|apply Kd.R_drewN|apply Kd.R_drew));exact HO167.out⟩, ⟨by (with_reducible repeat (first|refine blk_drewN ?_ _|refine blk_drew ?_|refine blk_alloc ?_ _));exact BK164.out⟩, ⟨by repeat (first|(with_reducible first|exact HB.out|apply below_alloc|apply pw_below_drewN|apply below_drew1|refine below_set ?_ GE164.out)|exact HB.out)⟩⟩
   case rest =>
    clear HC5
    try clear c1
    try clear p1
    try clear q1
    try clear hx1
    try clear p2
    try clear c3
    try clear c3b0
    try clear c4
    try clear c4b0
    try clear p6
    try clear c8
    try clear c11
    try clear c11b0
    try clear c11b1
    try clear c11b2
    try clear hcz10_0
    try clear hcz10_1
    try clear hcz10_2
    try clear hcz10_3
    try clear hcz10_4
    try clear hcz7_0
    try clear hcz7_1
    try clear hcz7_2
    try clear hcz7_3
    try clear hcz7_4
    try clear hfz10_0
    try clear hfz10_1
    try clear hfz10_2
    try clear hfz10_3
    try clear hfz10_4
    try clear hfz7_0
    try clear hfz7_1
    try clear hfz7_2
    try clear hfz7_3
    try clear hfz7_4
    try clear hx163_0
    try clear hx163_1
    try clear hx163_2
    try clear hx163_3
    try clear hx163_4
    try clear p163
    try clear q163
    obtain ⟨kq, x26_4, rfl, HA, HJ4, HO_8, BK164, HB⟩ := hcut
    cases kq with
    | zero => exact absurd HA.out (by simp [spec_l4Pack.j0])
    | succ kj4 =>
     have H := HA.out
     clear HA
     simp only [spec_l4Pack.j0] at H
     by_cases c12 : x26_4 = true
     ·subst c12
      have H1 : ((spec_ZigPut.f kj4 ((rd_T74 l0 a1).f2)).bind fun t168 => (some (t168, (wrap64 (a1 + 1))))) = some (r1, r2) := by rw [if_pos rfl] at H;exact H
      clear H
      have H := H1
      clear H1
      replace H := Option.bind_eq_some_iff.mp H
      obtain ⟨t168, A130, H⟩ := H
      replace H : (some (t168, (wrap64 (a1 + 1)))) = some (r1, r2) := H
      have A13 := Aside0.mk A130
      clear A130
      simp only [Option.some.injEq, Prod.mk.injEq] at H
      obtain ⟨rfl, rfl⟩ := H
      obtain ⟨hcz14_0, hcz14_1, hcz14_2, hcz14_3, hcz14_4, hfz14_0, hfz14_1, hfz14_2, hfz14_3, hfz14_4⟩ := blk5_ BK164.out
      go_wp2_with (first|((with_reducible refine gate_callee (f := 101) rfl ?_);refine goesL_ (some 31) rfl rfl Try.func101 (by kernel_rfl) rfl #[.int .i64 ((rd_T74 l0 a1).f2)] rfl (by (try simp only [List.map_toArray, List.map_cons, List.map_nil]);first|done|rfl|(simp only [List.length_drop, List.length_take];rfl)) ?_;(with_reducible refine (spec_ZigPut.calls kj4 ((rd_T74 l0 a1).f2) t168 _ A13.out).mono ?_);rintro e w15 ⟨v169, rfl, ho0, hb⟩;refine ⟨_, rfl, ?_⟩;have n0_ := Aside0.mk (Kd.R_elder' (by (with_reducible repeat (first|apply Kd.R_alloc|apply Kd.R_drewN|apply Kd.R_drew));exact HO_8.out) (Kd.R_base ho0) hb);have n1_ := Aside0.mk (Kd.R_lower (Kd.R_new' ho0 (Kd.R_lt (by (with_reducible repeat (first|apply Kd.R_alloc|apply Kd.R_drewN|apply Kd.R_drew));exact HO_8.out))) (below_size (by repeat (first|(with_reducible first|exact HB.out|apply below_alloc|apply pw_below_drewN|apply below_drew1|refine below_set ?_ GE164.out)|exact HB.out))));have n2_ := Aside0.mk (blk_below (g := gb164) (o := .cells #[.int .i64 ((rd_T74 l0 a1).f0), .int .i64 ((rd_T74 l0 a1).f1), .int .i64 ((rd_T74 l0 a1).f2), .string ((rd_T74 l0 a1).f3), .int .i64 ((rd_T74 l0 a1).f4)] 74 (0, 0)) (by (with_reducible repeat (first|refine blk_drewN ?_ _|refine blk_drew ?_|refine blk_alloc ?_ _));exact BK164.out) hb);have n3_ := Aside0.mk (below_step (by repeat (first|(with_reducible first|exact HB.out|apply below_alloc|apply pw_below_drewN|apply below_drew1|refine below_set ?_ GE164.out)|exact HB.out)) hb);clear HO_8;clear BK164;clear HB;have HO_8 := n0_;have HO170 := n1_;have BK164 := n2_;have HB := n3_;clear n0_ n1_ n2_ n3_;(try clear hb);(try clear hb2);(try clear hk);(try clear hi);(try clear ho0)))
      go_ret2
      exact ⟨_, by first|rfl|(simp [errW_none, errW_some] <;> rfl)|(simp [*, errW_none, errW_some] <;> rfl)|(exfalso;simp only [Bool.not_eq_true', Bool.not_eq_false', decide_eq_false_iff_not, decide_eq_true_eq, decide_eq_decide, Int.not_lt, Int.not_le] at *;omega), by (with_reducible repeat (first|apply Kd.R_alloc|apply Kd.R_drewN|apply Kd.R_drew));exact Kd.R_mono HO170.out (fun _ hk => trivial), by repeat (first|(with_reducible first|exact HB.out|apply below_alloc|apply pw_below_drewN|apply below_drew1|refine below_set ?_ GE164.out)|exact HB.out)⟩
     ·replace c12 := Bool.eq_false_iff.mpr c12
      subst c12
      have H1 : (if ((rd_T74 l0 a1).f0) = 8 then ((spec_UvarPut.f kj4 (((rd_T74 l0 a1).f3).size : Int)).bind fun t171 => (if ((rd_T74 l0 a1).f3).size ≤ 140737488355328 then ((some (bytesOf ((rd_T74 l0 a1).f3) : List Int)).bind fun y174 => (if t171.length + y174.length < 140737488355328 then (some ((t171 ++ y174), (wrap64 (a1 + 1)))) else (none))) else (none))) else (if ((rd_T74 l0 a1).f0) = 9 then (if ((rd_T74 l0 a1).f4) ≤ 14 then (if y165.length < 140737488355328 then (spec_l4Pack.j1 kj4 l0 (wrap64 (a1 + 1)) (y165 ++ [(wrap64 ((wrap64 (16 * ((rd_T74 l0 a1).f4))) + ((rd_T74 l0 a1).f2))) % 256]) ((rd_T74 l0 a1).f0) ((rd_T74 l0 a1).f1) ((rd_T74 l0 a1).f2) ((rd_T74 l0 a1).f3) ((rd_T74 l0 a1).f4)) else (none)) else (if y165.length < 140737488355328 then ((some (y165 ++ [(wrap64 (240 + ((rd_T74 l0 a1).f2))) % 256] : List Int)).bind fun y183 => ((spec_UvarPut.f kj4 ((rd_T74 l0 a1).f4)).bind fun t186 => (if y183.length + t186.length < 140737488355328 then (spec_l4Pack.j1 kj4 l0 (wrap64 (a1 + 1)) (y183 ++ t186) ((rd_T74 l0 a1).f0) ((rd_T74 l0 a1).f1) ((rd_T74 l0 a1).f2) ((rd_T74 l0 a1).f3) ((rd_T74 l0 a1).f4)) else (none)))) else (none))) else (if ((rd_T74 l0 a1).f0) = 12 then (spec_l4Pack.l1 kj4 l0 (wrap64 (a1 + 1)) y165 0 0 ((rd_T74 l0 a1).f0) ((rd_T74 l0 a1).f1) ((rd_T74 l0 a1).f2) ((rd_T74 l0 a1).f3) ((rd_T74 l0 a1).f4)) else (some (y165, (wrap64 (a1 + 1))))))) = some (r1, r2) := by rw [if_neg (show ¬ (false = true) by decide)] at H;exact H
      clear H
      have H := H1
      clear H1
      by_cases c16 : ((rd_T74 l0 a1).f0) = 8
      ·rw [if_pos c16] at H
       have c16b0 : (((rd_T74 l0 a1).f0) == 8) = true := beq_iff_eq.mpr c16
       have c16b1 : (((rd_T74 l0 a1).f0) != 8) = false := bne_eq_false_iff_eq.mpr c16
       clear c16
       replace H := Option.bind_eq_some_iff.mp H
       obtain ⟨t171, A170, H⟩ := H
       replace H : (if ((rd_T74 l0 a1).f3).size ≤ 140737488355328 then ((some (bytesOf ((rd_T74 l0 a1).f3) : List Int)).bind fun y174 => (if t171.length + y174.length < 140737488355328 then (some ((t171 ++ y174), (wrap64 (a1 + 1)))) else (none))) else (none)) = some (r1, r2) := H
       have A17 := Aside0.mk A170
       clear A170
       by_cases c18 : ((rd_T74 l0 a1).f3).size ≤ 140737488355328
       ·rw [if_pos c18] at H
        have c18b0 := eq_true c18
        have c18b1 : decide (((rd_T74 l0 a1).f3).size ≤ 140737488355328) = true := decide_eq_true c18
        clear c18
        obtain ⟨y174, hy174⟩ : ∃ y_ : List Int, y_ = (bytesOf ((rd_T74 l0 a1).f3)) := ⟨_, rfl⟩
        replace H : (if t171.length + y174.length < 140737488355328 then (some ((t171 ++ y174), (wrap64 (a1 + 1)))) else (none)) = some (r1, r2) := by first|(rw [hy174];with_reducible exact H)|(have H2_ := (Option.bind_some _ _).symm.trans H;rw [hy174];with_reducible exact H2_)|(have H2_ := (Option.bind_some _ _).symm.trans H;with_reducible exact H2_)|with_reducible exact H|(rw [hy174];exact H)|exact H
        have Ny174 := Aside0.mk hy174
        clear hy174
        by_cases c19 : t171.length + y174.length < 140737488355328
        ·rw [if_pos c19] at H
         have LMc19 := Aside0.mk c19
         clear c19
         obtain ⟨y177, hy177⟩ : ∃ y_ : List Int, y_ = (t171 ++ y174) := ⟨_, rfl⟩
         replace H : (some (y177, (wrap64 (a1 + 1)))) = some (r1, r2) := by first|(rw [hy177];with_reducible exact H)|(have H2_ := (Option.bind_some _ _).symm.trans H;rw [hy177];with_reducible exact H2_)|(have H2_ := (Option.bind_some _ _).symm.trans H;with_reducible exact H2_)|with_reducible exact H|(rw [hy177];exact H)|exact H
         have Ny177 := Aside0.mk hy177
         clear hy177
         simp only [Option.some.injEq, Prod.mk.injEq] at H
         obtain ⟨rfl, rfl⟩ := H
         try go_wp2
         (try (rw [drewN_self wc];generalize hq_ : World.drewN wc _ = wc;have n0_ : Aside0 (Kd.R (Kd.int .u8) 5 wc w.heap.size (fun _ => True) v166 y165) := ⟨by rw [← hq_];exact (by (with_reducible repeat (first|apply Kd.R_alloc|apply Kd.R_drewN|apply Kd.R_drew));exact HO_8.out)⟩;have n1_ : Aside0 (wc.heap[gb164]? = some (.cells #[.int .i64 ((rd_T74 l0 a1).f0), .int .i64 ((rd_T74 l0 a1).f1), .int .i64 ((rd_T74 l0 a1).f2), .string ((rd_T74 l0 a1).f3), .int .i64 ((rd_T74 l0 a1).f4)] 74 (0, 0))) := ⟨by rw [← hq_];exact (by (with_reducible repeat (first|refine blk_drewN ?_ _|refine blk_drew ?_|refine blk_alloc ?_ _));exact BK164.out)⟩;have n2_ : Aside0 (Below w.heap.size w wc) := ⟨by rw [← hq_];exact (by repeat (first|(with_reducible first|exact HB.out|apply below_alloc|apply pw_below_drewN|apply below_drew1|refine below_set ?_ GE164.out)|exact HB.out))⟩;clear HO_8 BK164 HB hq_;have HO_8 := n0_;have BK164 := n1_;have HB := n2_;clear n0_ n1_ n2_))
         have n0_ := Aside0.mk (Kd.R_drew HO_8.out)
         have n1_ := Aside0.mk (blk_drew BK164.out)
         have n2_ := Aside0.mk (below_drew1 HB.out)
         clear HO_8
         clear BK164
         clear HB
         have HO_8 := n0_
         have BK164 := n1_
         have HB := n2_
         clear n0_ n1_ n2_
         refine start_ (n := 11) (S := fun w' => w'.cell? ⟨gb164, 0, none⟩ = some (.int .i64 ((rd_T74 l0 a1).f0)) ∧ w'.cell? ⟨gb164, 1, none⟩ = some (.int .i64 ((rd_T74 l0 a1).f1)) ∧ w'.cell? ⟨gb164, 2, none⟩ = some (.int .i64 ((rd_T74 l0 a1).f2)) ∧ w'.cell? ⟨gb164, 3, none⟩ = some (.string ((rd_T74 l0 a1).f3)) ∧ w'.cell? ⟨gb164, 4, none⟩ = some (.int .i64 ((rd_T74 l0 a1).f4))) (ds := []) #[false, false, false, false, false, false, false, false, false, false, false] (by kernel_rfl) rfl rfl ⟨(blk_cell BK164.out 0).trans rfl, (blk_cell BK164.out 1).trans rfl, (blk_cell BK164.out 2).trans rfl, (blk_cell BK164.out 3).trans rfl, (blk_cell BK164.out 4).trans rfl⟩ (fun hHeld => ?_);refine with_tabW spec_l4Pack.tab9 spec_l4Pack.bits9 (fun HT_ HW_ => ?_)
         generalize wc.drew = w20 at HO_8 BK164 HB hHeld ⊢
         refine pure_ (i := 0) (N := some 35) (v := ?_) (a' := ?_) #[true, false, false, false, false, false, false, false, false, false, false] rfl rfl (any_of HT_.out (by kernel_rfl)) (fun _ _ _ h => h) (Or.inl ⟨by rfl, ?_⟩) ?_ ?_
         rotate_left
         ·intro w'
          go_simp
          with_reducible rfl
         rotate_left
         ·simp only [Act.put, List.setIfInBounds_toArray, List.set_cons_zero, List.set_cons_succ, i64_w, i32_w]
          rfl
         refine pure_ (i := 4) (N := some 39) (v := ?_) (a' := ?_) #[true, false, false, false, true, false, false, false, false, false, false] rfl rfl (any_of HT_.out (by kernel_rfl)) (fun _ _ _ h => h) (Or.inl ⟨by rfl, ?_⟩) ?_ ?_
         rotate_left
         ·intro w'
          go_simp
          with_reducible rfl
         rotate_left
         ·simp only [Act.put, List.setIfInBounds_toArray, List.set_cons_zero, List.set_cons_succ, i64_w, i32_w]
          rfl
         refine pure_ (i := 8) (N := some 43) (v := ?_) (a' := ?_) #[true, false, false, false, true, false, false, false, true, false, false] rfl rfl (any_of HT_.out (by kernel_rfl)) (fun _ _ _ h => h) (Or.inl ⟨by rfl, ?_⟩) ?_ ?_
         rotate_left
         ·intro w'
          go_simp
          with_reducible rfl
         rotate_left
         ·simp only [Act.put, List.setIfInBounds_toArray, List.set_cons_zero, List.set_cons_succ, i64_w, i32_w]
          rfl
         refine take_ (i := 1) (N := some 36) (v := ?_) (a' := ?_) #[true, true, false, false, true, false, false, false, true, false, false] rfl rfl (take_ofW HT_.out HW_.out (by kernel_rfl)) (fun _ _ _ h => h) (Or.inl ⟨by rfl, ?_⟩) hHeld ?_ ?_
         rotate_left
         ·rintro w' ⟨s0, s1, s2, s3, s4⟩
          go_simp
          with_reducible rfl
         rotate_left
         ·simp only [Act.put, List.setIfInBounds_toArray, List.set_cons_zero, List.set_cons_succ, i64_w, i32_w]
          rfl
         refine pure_ (i := 2) (N := some 37) (v := ?_) (a' := ?_) #[true, true, true, false, true, false, false, false, true, false, false] rfl rfl (any_of HT_.out (by kernel_rfl)) (fun _ _ _ h => h) (Or.inl ⟨by rfl, ?_⟩) ?_ ?_
         rotate_left
         ·intro w'
          go_simp
          with_reducible rfl
         rotate_left
         ·simp only [Act.put, List.setIfInBounds_toArray, List.set_cons_zero, List.set_cons_succ, i64_w, i32_w]
          rfl
         refine take_ (i := 5) (N := some 40) (v := ?_) (a' := ?_) #[true, true, true, false, true, true, false, false, true, false, false] rfl rfl (take_ofW HT_.out HW_.out (by kernel_rfl)) (fun _ _ _ h => h) (Or.inl ⟨by rfl, ?_⟩) hHeld ?_ ?_
         rotate_left
         ·rintro w' ⟨s0, s1, s2, s3, s4⟩
          go_simp
          with_reducible rfl
         rotate_left
         ·simp only [Act.put, List.setIfInBounds_toArray, List.set_cons_zero, List.set_cons_succ, i64_w, i32_w]
          rfl
         refine join_ (σ := Value × Value) 3 #[true, true, true, true, true, true, true, false, true, false, false] (fun s_ => [(38, s_.1), (41, s_.2)]) (fun s_ w' => (w'.cell? ⟨gb164, 0, none⟩ = some (.int .i64 ((rd_T74 l0 a1).f0)) ∧ w'.cell? ⟨gb164, 1, none⟩ = some (.int .i64 ((rd_T74 l0 a1).f1)) ∧ w'.cell? ⟨gb164, 2, none⟩ = some (.int .i64 ((rd_T74 l0 a1).f2)) ∧ w'.cell? ⟨gb164, 3, none⟩ = some (.string ((rd_T74 l0 a1).f3)) ∧ w'.cell? ⟨gb164, 4, none⟩ = some (.int .i64 ((rd_T74 l0 a1).f4))) ∧ (Kd.R (Kd.int .u8) 5 w' w.heap.size (fun k_ => some k_ ≠ (s_.2 : Value).ownBlock ∧ some k_ ≠ (v166 : Value).ownBlock) s_.1 t171) ∧ (Kd.B (Kd.int .u8) 5 w' w.heap.size (fun k_ => some k_ ≠ (s_.1 : Value).ownBlock ∧ some k_ ≠ (v166 : Value).ownBlock) s_.2 y174) ∧ (Kd.R (Kd.int .u8) 5 w' w.heap.size (fun k_ => some k_ ≠ (s_.1 : Value).ownBlock ∧ some k_ ≠ (s_.2 : Value).ownBlock) v166 y165) ∧ (w'.heap[gb164]? = some (.cells #[.int .i64 ((rd_T74 l0 a1).f0), .int .i64 ((rd_T74 l0 a1).f1), .int .i64 ((rd_T74 l0 a1).f2), .string ((rd_T74 l0 a1).f3), .int .i64 ((rd_T74 l0 a1).f4)] 74 (0, 0))) ∧ (Below w.heap.size w w')) ?_ ?_
         rotate_left
         ·intro hCont
          refine two_ (i := 3) (j := 6) (Ni := some 38) (Nj := some 41) #[true, true, true, true, true, true, false, false, true, false, false] #[true, true, true, false, true, true, true, false, true, false, false] rfl rfl rfl rfl (two_of HT_.out (by kernel_rfl)) (by decide) (by decide) (fun K hK => ?_) (fun K hK => ?_)
          ·skip
           refine goes_ Try.func102 (by kernel_rfl) rfl #[.int .i64 (((rd_T74 l0 a1).f3).size : Int)] (by rfl) rfl rfl (by (try simp only [List.map_toArray, List.map_cons, List.map_nil]);first|done|rfl|(simp only [List.length_drop, List.length_take];rfl)) ?_
           with_reducible refine (spec_UvarPut.calls kj4 (((rd_T74 l0 a1).f3).size : Int) t171 _ A17.out).mono ?_
           rintro e w21 ⟨v172, rfl, ho0, hb⟩
           refine ⟨_, rfl, ?_⟩
           have n0_ := Aside0.mk (Kd.R_elder' (by (with_reducible repeat (first|apply Kd.R_alloc|apply Kd.R_drewN|apply Kd.R_drew));exact HO_8.out) (Kd.R_base ho0) hb)
           have n1_ := Aside0.mk (Kd.R_lower (Kd.R_new' ho0 (Kd.R_lt (by (with_reducible repeat (first|apply Kd.R_alloc|apply Kd.R_drewN|apply Kd.R_drew));exact HO_8.out))) (below_size (by repeat (first|(with_reducible first|exact HB.out|apply below_alloc|apply pw_below_drewN|apply below_drew1|refine below_set ?_ GE164.out)|exact HB.out))))
           have n2_ := Aside0.mk (blk_below (g := gb164) (o := .cells #[.int .i64 ((rd_T74 l0 a1).f0), .int .i64 ((rd_T74 l0 a1).f1), .int .i64 ((rd_T74 l0 a1).f2), .string ((rd_T74 l0 a1).f3), .int .i64 ((rd_T74 l0 a1).f4)] 74 (0, 0)) (by (with_reducible repeat (first|refine blk_drewN ?_ _|refine blk_drew ?_|refine blk_alloc ?_ _));exact BK164.out) hb)
           have n3_ := Aside0.mk (below_step (by repeat (first|(with_reducible first|exact HB.out|apply below_alloc|apply pw_below_drewN|apply below_drew1|refine below_set ?_ GE164.out)|exact HB.out)) hb)
           clear HO_8
           clear BK164
           clear HB
           have HO_8 := n0_
           have HO173 := n1_
           have BK164 := n2_
           have HB := n3_
           clear n0_ n1_ n2_ n3_
           (try clear hb)
           (try clear hb2)
           (try clear hk)
           (try clear hi)
           (try clear ho0)
           refine hK.out _ _ ⟨(blk_cell BK164.out 0).trans rfl, (blk_cell BK164.out 1).trans rfl, (blk_cell BK164.out 2).trans rfl, (blk_cell BK164.out 3).trans rfl, (blk_cell BK164.out 4).trans rfl⟩ (fun hHeld => ?_)
           clear hK K
           refine norm_ (a' := ?_) ?_ ?_
           rotate_left
           ·show Act.put _ (some 38) _ = _
            simp only [Act.put, List.setIfInBounds_toArray, List.set_cons_zero, List.set_cons_succ, i64_w, i32_w]
            rfl
           refine one_ (i := 6) (N := some 41) #[true, true, true, true, true, true, true, false, true, false, false] rfl rfl (one_of HT_.out (by kernel_rfl)) (by decide) (fun K hK => ?_)
           refine Kd.B_bytes_step _ (by rfl) (N := 41) rfl 9 50 5 _ rfl ((rd_T74 l0 a1).f3) (by first|rfl|(go_simp;done)) y174 Ny174.out Try.underlying9 Try.underlying50 Try.underlying5 (of_decide_eq_true (by first|(with_reducible assumption)|assumption)) (ok := fun _ => True) (okp := fun _ => True) (fun _ hk => hk) trivial (Below.refl _ _) (Nat.le_refl _) ?_
           intro v175 w22 ho23 hb hg_ hnew_
           clear hg_ hnew_
           have n0_ := Aside0.mk (Kd.R_elder' (by (with_reducible repeat (first|apply Kd.R_alloc|apply Kd.R_drewN|apply Kd.R_drew));exact HO_8.out) (Kd.B_base ho23) hb)
           have n1_ := Aside0.mk (Kd.R_elder' (by (with_reducible repeat (first|apply Kd.R_alloc|apply Kd.R_drewN|apply Kd.R_drew));exact HO173.out) (Kd.B_base ho23) hb)
           have n2_ := Aside0.mk (Kd.B_lower (Kd.B_new' (Kd.B_new' ho23 (Kd.R_lt (by (with_reducible repeat (first|apply Kd.R_alloc|apply Kd.R_drewN|apply Kd.R_drew));exact HO_8.out))) (Kd.R_lt (by (with_reducible repeat (first|apply Kd.R_alloc|apply Kd.R_drewN|apply Kd.R_drew));exact HO173.out))) (below_size (by repeat (first|(with_reducible first|exact HB.out|apply below_alloc|apply pw_below_drewN|apply below_drew1|refine below_set ?_ GE164.out)|exact HB.out))))
           have n3_ := Aside0.mk (blk_below (g := gb164) (o := .cells #[.int .i64 ((rd_T74 l0 a1).f0), .int .i64 ((rd_T74 l0 a1).f1), .int .i64 ((rd_T74 l0 a1).f2), .string ((rd_T74 l0 a1).f3), .int .i64 ((rd_T74 l0 a1).f4)] 74 (0, 0)) (by (with_reducible repeat (first|refine blk_drewN ?_ _|refine blk_drew ?_|refine blk_alloc ?_ _));exact BK164.out) hb)
           have n4_ := Aside0.mk (below_step (by repeat (first|(with_reducible first|exact HB.out|apply below_alloc|apply pw_below_drewN|apply below_drew1|refine below_set ?_ GE164.out)|exact HB.out)) hb)
           clear HO_8
           clear HO173
           clear BK164
           clear HB
           have HO_8 := n0_
           have HO173 := n1_
           have HO176 := n2_
           have BK164 := n3_
           have HB := n4_
           clear n0_ n1_ n2_ n3_ n4_
           clear hb ho23
           refine hK.out _ _ ⟨(blk_cell BK164.out 0).trans rfl, (blk_cell BK164.out 1).trans rfl, (blk_cell BK164.out 2).trans rfl, (blk_cell BK164.out 3).trans rfl, (blk_cell BK164.out 4).trans rfl⟩ (fun hHeld => ?_)
           clear hK K
           refine norm_ (a' := ?_) ?_ ?_
           rotate_left
           ·show Act.put _ (some 41) _ = _
            simp only [Act.put, List.setIfInBounds_toArray, List.set_cons_zero, List.set_cons_succ, i64_w, i32_w]
            rfl
           exact norm_ (by simp only [putAll, Act.put, List.setIfInBounds_toArray, List.set_cons_zero, List.set_cons_succ]) (hCont (v172, v175) _ ⟨hHeld, (by (with_reducible repeat (first|apply Kd.R_alloc|apply Kd.R_drewN|apply Kd.R_drew));exact Kd.R_mono HO173.out (fun _ hk => ⟨hk.2, hk.1.2⟩)), (by (with_reducible repeat (first|apply Kd.B_alloc|apply Kd.B_drewN|apply Kd.B_drew));exact Kd.B_mono HO176.out (fun _ hk => ⟨hk.2, hk.1.2⟩)), (by (with_reducible repeat (first|apply Kd.R_alloc|apply Kd.R_drewN|apply Kd.R_drew));exact Kd.R_mono HO_8.out (fun _ hk => ⟨hk.1.2, hk.2⟩)), (by (with_reducible repeat (first|refine blk_drewN ?_ _|refine blk_drew ?_|refine blk_alloc ?_ _));exact BK164.out), (by repeat (first|(with_reducible first|exact HB.out|apply below_alloc|apply pw_below_drewN|apply below_drew1|refine below_set ?_ GE164.out)|exact HB.out))⟩)
          ·skip
           refine Kd.B_bytes_step _ (by rfl) (N := 41) rfl 9 50 5 _ rfl ((rd_T74 l0 a1).f3) (by first|rfl|(go_simp;done)) y174 Ny174.out Try.underlying9 Try.underlying50 Try.underlying5 (of_decide_eq_true (by first|(with_reducible assumption)|assumption)) (ok := fun _ => True) (okp := fun _ => True) (fun _ hk => hk) trivial (Below.refl _ _) (Nat.le_refl _) ?_
           intro v175 w21 ho22 hb hg_ hnew_
           clear hg_ hnew_
           have n0_ := Aside0.mk (Kd.R_elder' (by (with_reducible repeat (first|apply Kd.R_alloc|apply Kd.R_drewN|apply Kd.R_drew));exact HO_8.out) (Kd.B_base ho22) hb)
           have n1_ := Aside0.mk (Kd.B_lower (Kd.B_new' ho22 (Kd.R_lt (by (with_reducible repeat (first|apply Kd.R_alloc|apply Kd.R_drewN|apply Kd.R_drew));exact HO_8.out))) (below_size (by repeat (first|(with_reducible first|exact HB.out|apply below_alloc|apply pw_below_drewN|apply below_drew1|refine below_set ?_ GE164.out)|exact HB.out))))
           have n2_ := Aside0.mk (blk_below (g := gb164) (o := .cells #[.int .i64 ((rd_T74 l0 a1).f0), .int .i64 ((rd_T74 l0 a1).f1), .int .i64 ((rd_T74 l0 a1).f2), .string ((rd_T74 l0 a1).f3), .int .i64 ((rd_T74 l0 a1).f4)] 74 (0, 0)) (by (with_reducible repeat (first|refine blk_drewN ?_ _|refine blk_drew ?_|refine blk_alloc ?_ _));exact BK164.out) hb)
           have n3_ := Aside0.mk (below_step (by repeat (first|(with_reducible first|exact HB.out|apply below_alloc|apply pw_below_drewN|apply below_drew1|refine below_set ?_ GE164.out)|exact HB.out)) hb)
           clear HO_8
           clear BK164
           clear HB
           have HO_8 := n0_
           have HO176 := n1_
           have BK164 := n2_
           have HB := n3_
           clear n0_ n1_ n2_ n3_
           clear hb ho22
           refine hK.out _ _ ⟨(blk_cell BK164.out 0).trans rfl, (blk_cell BK164.out 1).trans rfl, (blk_cell BK164.out 2).trans rfl, (blk_cell BK164.out 3).trans rfl, (blk_cell BK164.out 4).trans rfl⟩ (fun hHeld => ?_)
           clear hK K
           refine norm_ (a' := ?_) ?_ ?_
           rotate_left
           ·show Act.put _ (some 41) _ = _
            simp only [Act.put, List.setIfInBounds_toArray, List.set_cons_zero, List.set_cons_succ, i64_w, i32_w]
            rfl
           refine one_ (i := 3) (N := some 38) #[true, true, true, true, true, true, true, false, true, false, false] rfl rfl (one_of HT_.out (by kernel_rfl)) (by decide) (fun K hK => ?_)
           refine goes_ Try.func102 (by kernel_rfl) rfl #[.int .i64 (((rd_T74 l0 a1).f3).size : Int)] (by rfl) rfl rfl (by (try simp only [List.map_toArray, List.map_cons, List.map_nil]);first|done|rfl|(simp only [List.length_drop, List.length_take];rfl)) ?_
           with_reducible refine (spec_UvarPut.calls kj4 (((rd_T74 l0 a1).f3).size : Int) t171 _ A17.out).mono ?_
           rintro e w23 ⟨v172, rfl, ho0, hb⟩
           refine ⟨_, rfl, ?_⟩
           have n0_ := Aside0.mk (Kd.R_elder' (by (with_reducible repeat (first|apply Kd.R_alloc|apply Kd.R_drewN|apply Kd.R_drew));exact HO_8.out) (Kd.R_base ho0) hb)
           have n1_ := Aside0.mk (Kd.B_elder' (by (with_reducible repeat (first|apply Kd.B_alloc|apply Kd.B_drewN|apply Kd.B_drew));exact HO176.out) (Kd.R_base ho0) hb)
           have n2_ := Aside0.mk (Kd.R_lower (Kd.R_new' (Kd.R_new' ho0 (Kd.R_lt (by (with_reducible repeat (first|apply Kd.R_alloc|apply Kd.R_drewN|apply Kd.R_drew));exact HO_8.out))) (Kd.B_lt (by (with_reducible repeat (first|apply Kd.B_alloc|apply Kd.B_drewN|apply Kd.B_drew));exact HO176.out))) (below_size (by repeat (first|(with_reducible first|exact HB.out|apply below_alloc|apply pw_below_drewN|apply below_drew1|refine below_set ?_ GE164.out)|exact HB.out))))
           have n3_ := Aside0.mk (blk_below (g := gb164) (o := .cells #[.int .i64 ((rd_T74 l0 a1).f0), .int .i64 ((rd_T74 l0 a1).f1), .int .i64 ((rd_T74 l0 a1).f2), .string ((rd_T74 l0 a1).f3), .int .i64 ((rd_T74 l0 a1).f4)] 74 (0, 0)) (by (with_reducible repeat (first|refine blk_drewN ?_ _|refine blk_drew ?_|refine blk_alloc ?_ _));exact BK164.out) hb)
           have n4_ := Aside0.mk (below_step (by repeat (first|(with_reducible first|exact HB.out|apply below_alloc|apply pw_below_drewN|apply below_drew1|refine below_set ?_ GE164.out)|exact HB.out)) hb)
           clear HO_8
           clear HO176
           clear BK164
           clear HB
           have HO_8 := n0_
           have HO176 := n1_
           have HO173 := n2_
           have BK164 := n3_
           have HB := n4_
           clear n0_ n1_ n2_ n3_ n4_
           (try clear hb)
           (try clear hb2)
           (try clear hk)
           (try clear hi)
           (try clear ho0)
           refine hK.out _ _ ⟨(blk_cell BK164.out 0).trans rfl, (blk_cell BK164.out 1).trans rfl, (blk_cell BK164.out 2).trans rfl, (blk_cell BK164.out 3).trans rfl, (blk_cell BK164.out 4).trans rfl⟩ (fun hHeld => ?_)
           clear hK K
           refine norm_ (a' := ?_) ?_ ?_
           rotate_left
           ·show Act.put _ (some 38) _ = _
            simp only [Act.put, List.setIfInBounds_toArray, List.set_cons_zero, List.set_cons_succ, i64_w, i32_w]
            rfl
           exact norm_ (by simp only [putAll, Act.put, List.setIfInBounds_toArray, List.set_cons_zero, List.set_cons_succ]) (hCont (v172, v175) _ ⟨hHeld, (by (with_reducible repeat (first|apply Kd.R_alloc|apply Kd.R_drewN|apply Kd.R_drew));exact Kd.R_mono HO173.out (fun _ hk => ⟨hk.2, hk.1.2⟩)), (by (with_reducible repeat (first|apply Kd.B_alloc|apply Kd.B_drewN|apply Kd.B_drew));exact Kd.B_mono HO176.out (fun _ hk => ⟨hk.2, hk.1.2⟩)), (by (with_reducible repeat (first|apply Kd.R_alloc|apply Kd.R_drewN|apply Kd.R_drew));exact Kd.R_mono HO_8.out (fun _ hk => ⟨hk.2, hk.1.2⟩)), (by (with_reducible repeat (first|refine blk_drewN ?_ _|refine blk_drew ?_|refine blk_alloc ?_ _));exact BK164.out), (by repeat (first|(with_reducible first|exact HB.out|apply below_alloc|apply pw_below_drewN|apply below_drew1|refine below_set ?_ GE164.out)|exact HB.out))⟩)
         rintro ⟨v172, v175⟩ w24 ⟨hS_, h0_, h1_, h2_, h3_, h4_⟩
         have n0_ : Aside0 (Kd.R (Kd.int .u8) 5 w24 w.heap.size (fun k_ => some k_ ≠ (v175 : Value).ownBlock ∧ some k_ ≠ (v166 : Value).ownBlock) v172 t171) := ⟨h0_⟩
         have n1_ : Aside0 (Kd.B (Kd.int .u8) 5 w24 w.heap.size (fun k_ => some k_ ≠ (v172 : Value).ownBlock ∧ some k_ ≠ (v166 : Value).ownBlock) v175 y174) := ⟨h1_⟩
         have n2_ : Aside0 (Kd.R (Kd.int .u8) 5 w24 w.heap.size (fun k_ => some k_ ≠ (v172 : Value).ownBlock ∧ some k_ ≠ (v175 : Value).ownBlock) v166 y165) := ⟨h2_⟩
         have n3_ : Aside0 (w24.heap[gb164]? = some (.cells #[.int .i64 ((rd_T74 l0 a1).f0), .int .i64 ((rd_T74 l0 a1).f1), .int .i64 ((rd_T74 l0 a1).f2), .string ((rd_T74 l0 a1).f3), .int .i64 ((rd_T74 l0 a1).f4)] 74 (0, 0))) := ⟨h3_⟩
         have n4_ : Aside0 (Below w.heap.size w w24) := ⟨h4_⟩
         clear HO_8
         clear BK164
         clear HB
         clear h0_ h1_ h2_ h3_ h4_
         have HO173 := n0_
         have HO176 := n1_
         have HO_8 := n2_
         have BK164 := n3_
         have HB := n4_
         clear n0_ n1_ n2_ n3_ n4_
         have hHeld : w24.cell? ⟨gb164, 0, none⟩ = some (.int .i64 ((rd_T74 l0 a1).f0)) ∧ w24.cell? ⟨gb164, 1, none⟩ = some (.int .i64 ((rd_T74 l0 a1).f1)) ∧ w24.cell? ⟨gb164, 2, none⟩ = some (.int .i64 ((rd_T74 l0 a1).f2)) ∧ w24.cell? ⟨gb164, 3, none⟩ = some (.string ((rd_T74 l0 a1).f3)) ∧ w24.cell? ⟨gb164, 4, none⟩ = some (.int .i64 ((rd_T74 l0 a1).f4)) := hS_
         obtain ⟨Ao26, co26, eo26⟩ := Kd.B_slice HO176.out
         (first|subst eo26|(injection eo26 with f1_ f2_ f3_;have f4_ := f1_.symm;have f5_ := f3_.symm;clear f1_ f2_ f3_;subst f4_;subst f5_))
         refine norm_ (a' := ?_) ?_ ?_
         rotate_left
         ·simp only [putAll, Act.put, List.setIfInBounds_toArray, List.set_cons_zero, List.set_cons_succ]
          rfl
         refine one_ (i := 7) (N := some 42) #[true, true, true, true, true, true, true, true, true, false, false] rfl rfl (one_of HT_.out (by kernel_rfl)) (by decide) (fun K hK => ?_)
         refine Kd.R_append_rows_step (Kd.int .u8) (w0 := w) w.heap.size (by rfl) (.tmp 38) (.tmp 41) 50 5 (.int .u8 0) 1 rfl Try.underlying50 info5 rfl (by decide) (by omega) v172 t171 y174 _ _ _ (fun k_ => some k_ ≠ (v166 : Value).ownBlock ∧ some k_ ≠ (.slice Ao26 y174.length co26 : Value).ownBlock) (fun _ => False) rfl rfl ?aO ?aR (fun _ _ h => h) (fun _ h => h.elim) ?aF ?aB ?aS ?aL ?_
         (case aR => repeat (first|exact (Kd.B_reads' HO176.out).2.2|(with_reducible refine Kd.C_alloc ?_ _)|(with_reducible refine Kd.C_drewN ?_ _)|(with_reducible refine Kd.C_drew ?_)))
         (case aB => exact (by repeat (first|(with_reducible first|exact HB.out|apply below_alloc|apply pw_below_drewN|apply below_drew1|refine below_set ?_ GE164.out)|exact HB.out)))
         (case aF => exact (fun k_ hk => ⟨Kd.fresh' (Kd.R_lt (by (with_reducible repeat (first|apply Kd.R_alloc|apply Kd.R_drewN|apply Kd.R_drew));exact HO_8.out)) k_ hk, Kd.fresh' (Kd.B_lt (by (with_reducible repeat (first|apply Kd.B_alloc|apply Kd.B_drewN|apply Kd.B_drew));exact HO176.out)) k_ hk⟩))
         (case aO => exact (by (with_reducible repeat (first|apply Kd.R_alloc|apply Kd.R_drewN|apply Kd.R_drew));exact Kd.R_mono HO173.out (fun _ hk => ⟨hk.2, hk.1⟩)))
         (case aS => exact (below_size (by repeat (first|(with_reducible first|exact HB.out|apply below_alloc|apply pw_below_drewN|apply below_drew1|refine below_set ?_ GE164.out)|exact HB.out))))
         (case aL => have := LMc19.out;omega)
         intro v178 w25 ho hb hg hat
         rw [← Ny177.out] at ho
         have n0_ := Aside0.mk (Kd.R_after (ok := (fun k_ => some k_ ≠ (.slice Ao26 y174.length co26 : Value).ownBlock)) (by (with_reducible repeat (first|apply Kd.R_alloc|apply Kd.R_drewN|apply Kd.R_drew));exact Kd.R_mono HO_8.out (fun _ hk => ⟨hk.2, hk.1⟩)) hg hat)
         have n1_ := Aside0.mk (blk_grown (g := gb164) (o := .cells #[.int .i64 ((rd_T74 l0 a1).f0), .int .i64 ((rd_T74 l0 a1).f1), .int .i64 ((rd_T74 l0 a1).f2), .string ((rd_T74 l0 a1).f3), .int .i64 ((rd_T74 l0 a1).f4)] 74 (0, 0)) (by (with_reducible repeat (first|refine blk_drewN ?_ _|refine blk_drew ?_|refine blk_alloc ?_ _));exact BK164.out) hg (Kd.R_ne HO173.out BK164.out (by decide)))
         have n2_ := Aside0.mk (Kd.B_after (ok := (fun k_ => some k_ ≠ (v166 : Value).ownBlock)) (by (with_reducible repeat (first|apply Kd.B_alloc|apply Kd.B_drewN|apply Kd.B_drew));exact Kd.B_mono HO176.out (fun _ hk => ⟨hk.2, hk.1⟩)) hg hat)
         have n3_ := Aside0.mk (hb)
         have n4_ := Aside0.mk (ho)
         clear HO_8
         clear BK164
         clear HO176
         clear HB
         clear HO173
         have HO_8 := n0_
         have BK164 := n1_
         have HO176 := n2_
         have HB := n3_
         have HO179 := n4_
         clear n0_ n1_ n2_ n3_ n4_
         clear ho hb hg hat
         refine hK.out _ _ ⟨(blk_cell BK164.out 0).trans rfl, (blk_cell BK164.out 1).trans rfl, (blk_cell BK164.out 2).trans rfl, (blk_cell BK164.out 3).trans rfl, (blk_cell BK164.out 4).trans rfl⟩ (fun hHeld => ?_)
         clear hK K
         refine norm_ (a' := ?_) ?_ ?_
         rotate_left
         ·show Act.put _ (some 42) _ = _
          simp only [Act.put, List.setIfInBounds_toArray, List.set_cons_zero, List.set_cons_succ, i64_w, i32_w]
          rfl
         refine pure_ (i := 9) (N := some 4) (v := ?_) (a' := ?_) #[true, true, true, true, true, true, true, true, true, true, false] rfl rfl (any_of HT_.out (by kernel_rfl)) (fun _ _ _ h => h) (Or.inl ⟨by rfl, ?_⟩) ?_ ?_
         rotate_left
         ·intro w'
          go_simp
          with_reducible rfl
         rotate_left
         ·simp only [Act.put, List.setIfInBounds_toArray, List.set_cons_zero, List.set_cons_succ, i64_w, i32_w]
          rfl
         refine pure_ (i := 10) (N := some 5) (v := ?_) (a' := ?_) #[true, true, true, true, true, true, true, true, true, true, true] rfl rfl (any_of HT_.out (by kernel_rfl)) (fun _ _ _ h => h) (Or.inl ⟨by rfl, ?_⟩) ?_ ?_
         rotate_left
         ·intro w'
          go_simp
          with_reducible rfl
         rotate_left
         ·simp only [Act.put, List.setIfInBounds_toArray, List.set_cons_zero, List.set_cons_succ, i64_w, i32_w]
          rfl
         refine done_ (done_of HT_.out (by kernel_rfl)) ?_
         (try simp only [setCell_drewN_])
         try go_wp2
         go_ret2
         exact ⟨_, by first|rfl|(simp [errW_none, errW_some] <;> rfl)|(simp [*, errW_none, errW_some] <;> rfl)|(exfalso;simp only [Bool.not_eq_true', Bool.not_eq_false', decide_eq_false_iff_not, decide_eq_true_eq, decide_eq_decide, Int.not_lt, Int.not_le] at *;omega), by (with_reducible repeat (first|apply Kd.R_alloc|apply Kd.R_drewN|apply Kd.R_drew));exact Kd.R_mono HO179.out (fun _ hk => trivial), by repeat (first|(with_reducible first|exact HB.out|apply below_alloc|apply pw_below_drewN|apply below_drew1|refine below_set ?_ GE164.out)|exact HB.out)⟩
        ·rw [if_neg c19] at H
         exact absurd H (by simp)
       ·rw [if_neg c18] at H
        exact absurd H (by simp)
      ·rw [if_neg c16] at H
       have c16b0 : (((rd_T74 l0 a1).f0) == 8) = false := beq_eq_false_iff_ne.mpr c16
       have c16b1 : (((rd_T74 l0 a1).f0) != 8) = true := bne_iff_ne.mpr c16
       by_cases c27 : ((rd_T74 l0 a1).f0) = 9
       ·rw [if_pos c27] at H
        have c27b0 : (((rd_T74 l0 a1).f0) == 9) = true := beq_iff_eq.mpr c27
        have c27b1 : (((rd_T74 l0 a1).f0) != 9) = false := bne_eq_false_iff_eq.mpr c27
        clear c27
        have HC28 := Aside0.mk H
        clear H
        obtain ⟨hcz29_0, hcz29_1, hcz29_2, hcz29_3, hcz29_4, hfz29_0, hfz29_1, hfz29_2, hfz29_3, hfz29_4⟩ := blk5_ BK164.out
        go_upto_if 48 with (fail)
        go_cut [8] (fun v8 wc => ∃ (kq : Nat) (x8_27 : List Int), Aside0 (spec_l4Pack.j1 kq l0 (wrap64 (a1 + 1)) x8_27 ((rd_T74 l0 a1).f0) ((rd_T74 l0 a1).f1) ((rd_T74 l0 a1).f2) ((rd_T74 l0 a1).f3) ((rd_T74 l0 a1).f4) = some (r1, r2)) ∧ Aside0 (kq ≤ kj4) ∧ Aside0 (Kd.R (Kd.int .u8) 5 wc w.heap.size (fun _ => True) v8 x8_27) ∧ Aside0 (wc.heap[gb164]? = some (.cells #[.int .i64 ((rd_T74 l0 a1).f0), .int .i64 ((rd_T74 l0 a1).f1), .int .i64 ((rd_T74 l0 a1).f2), .string ((rd_T74 l0 a1).f3), .int .i64 ((rd_T74 l0 a1).f4)] 74 (0, 0))) ∧ Aside0 (Below w.heap.size w wc))
        case first =>
         have H := HC28.out
         clear HC28
         by_cases c30 : ((rd_T74 l0 a1).f4) ≤ 14
         ·rw [if_pos c30] at H
          have c30b0 : decide (((rd_T74 l0 a1).f4) ≤ 14) = true := decide_eq_true c30
          clear c30
          (first|rw [c30b0]|(simp only [i64_w, i32_w];rw [c30b0])|rw [c30b2]|skip)
          by_cases c31 : y165.length < 140737488355328
          ·rw [if_pos c31] at H
           have LMc31 := Aside0.mk c31
           clear c31
           obtain ⟨y180, hy180⟩ : ∃ y_ : List Int, y_ = (y165 ++ [(wrap64 ((wrap64 (16 * ((rd_T74 l0 a1).f4))) + ((rd_T74 l0 a1).f2))) % 256]) := ⟨_, rfl⟩
           replace H : (spec_l4Pack.j1 kj4 l0 (wrap64 (a1 + 1)) y180 ((rd_T74 l0 a1).f0) ((rd_T74 l0 a1).f1) ((rd_T74 l0 a1).f2) ((rd_T74 l0 a1).f3) ((rd_T74 l0 a1).f4)) = some (r1, r2) := by first|(rw [hy180];with_reducible exact H)|(have H2_ := (Option.bind_some _ _).symm.trans H;rw [hy180];with_reducible exact H2_)|(have H2_ := (Option.bind_some _ _).symm.trans H;with_reducible exact H2_)|with_reducible exact H|(rw [hy180];exact H)|exact H
           have Ny180 := Aside0.mk hy180
           clear hy180
           have H' := Aside0.mk H
           clear H
           obtain ⟨hcz32_0, hcz32_1, hcz32_2, hcz32_3, hcz32_4, hfz32_0, hfz32_1, hfz32_2, hfz32_3, hfz32_4⟩ := blk5_ BK164.out
           go_wp2_with (first|((with_reducible refine gate_builtin (b := .append) (xs := #[.tmp 49, .tmp 57]) rfl ?_);at_builtin;refine Kd.R_append (Kd.int .u8) (w0 := w) w.heap.size rfl (.tmp 49) (.tmp 57) 50 5 (.int .u8 0) 1 rfl Try.underlying50 info5 rfl (by decide) (by omega) v166 y165 ((wrap64 ((wrap64 (16 * ((rd_T74 l0 a1).f4))) + ((rd_T74 l0 a1).f2))) % 256) [.int .u8 ((wrap64 ((wrap64 (16 * ((rd_T74 l0 a1).f4))) + ((rd_T74 l0 a1).f2))) % 256)] (fun _ => True) (fun _ => False) rfl rfl ?aP (fun _ hk => hk.elim) ?aF ?aO ?aB ?aS ?aL ?_;(case aP => exact rfl);(case aB => exact (by repeat (first|(with_reducible first|exact HB.out|apply below_alloc|apply pw_below_drewN|apply below_drew1|refine below_set ?_ GE164.out)|exact HB.out)));(case aF => exact (fun _ _ => trivial));(case aO => exact (by (with_reducible repeat (first|apply Kd.R_alloc|apply Kd.R_drewN|apply Kd.R_drew));exact HO_8.out));(case aS => exact (below_size (by repeat (first|(with_reducible first|exact HB.out|apply below_alloc|apply pw_below_drewN|apply below_drew1|refine below_set ?_ GE164.out)|exact HB.out))));(case aL => have := LMc31.out;omega);intro v181 w33 ho hb hg hat;rw [← Ny180.out] at ho;have n0_ := Aside0.mk (blk_grown (g := gb164) (o := .cells #[.int .i64 ((rd_T74 l0 a1).f0), .int .i64 ((rd_T74 l0 a1).f1), .int .i64 ((rd_T74 l0 a1).f2), .string ((rd_T74 l0 a1).f3), .int .i64 ((rd_T74 l0 a1).f4)] 74 (0, 0)) (by (with_reducible repeat (first|refine blk_drewN ?_ _|refine blk_drew ?_|refine blk_alloc ?_ _));exact BK164.out) hg (Kd.R_ne HO_8.out BK164.out (by decide)));have n1_ := Aside0.mk (hb);have n2_ := Aside0.mk (ho);clear BK164;clear HB;clear HO_8;have BK164 := n0_;have HB := n1_;have HO182 := n2_;clear n0_ n1_ n2_;clear ho hb hg hat))
           go_meet
           case rel => exact ⟨_, (y180), H', ⟨by have := HJ4.out;first|omega|exact Nat.le_refl _⟩, ⟨by (with_reducible repeat (first|apply Kd.R_alloc|apply Kd.R_drewN|apply Kd.R_drew));exact HO182.out⟩, ⟨by (with_reducible repeat (first|refine blk_drewN ?_ _|refine blk_drew ?_|refine blk_alloc ?_ _));exact BK164.out⟩, ⟨by repeat (first|(with_reducible first|exact HB.out|apply below_alloc|apply pw_below_drewN|apply below_drew1|refine below_set ?_ GE164.out)|exact HB.out)⟩⟩
          ·rw [if_neg c31] at H
           exact absurd H (by simp)
         ·rw [if_neg c30] at H
          have c30b0 : decide (((rd_T74 l0 a1).f4) ≤ 14) = false := decide_eq_false c30
          clear c30
          (first|rw [c30b0]|(simp only [i64_w, i32_w];rw [c30b0])|rw [c30b2]|skip)
          by_cases c34 : y165.length < 140737488355328
          ·rw [if_pos c34] at H
           have LMc34 := Aside0.mk c34
           clear c34
           obtain ⟨y183, hy183⟩ : ∃ y_ : List Int, y_ = (y165 ++ [(wrap64 (240 + ((rd_T74 l0 a1).f2))) % 256]) := ⟨_, rfl⟩
           replace H : ((spec_UvarPut.f kj4 ((rd_T74 l0 a1).f4)).bind fun t186 => (if y183.length + t186.length < 140737488355328 then (spec_l4Pack.j1 kj4 l0 (wrap64 (a1 + 1)) (y183 ++ t186) ((rd_T74 l0 a1).f0) ((rd_T74 l0 a1).f1) ((rd_T74 l0 a1).f2) ((rd_T74 l0 a1).f3) ((rd_T74 l0 a1).f4)) else (none))) = some (r1, r2) := by first|(rw [hy183];with_reducible exact H)|(have H2_ := (Option.bind_some _ _).symm.trans H;rw [hy183];with_reducible exact H2_)|(have H2_ := (Option.bind_some _ _).symm.trans H;with_reducible exact H2_)|with_reducible exact H|(rw [hy183];exact H)|exact H
           have Ny183 := Aside0.mk hy183
           clear hy183
           replace H := Option.bind_eq_some_iff.mp H
           obtain ⟨t186, A350, H⟩ := H
           replace H : (if y183.length + t186.length < 140737488355328 then (spec_l4Pack.j1 kj4 l0 (wrap64 (a1 + 1)) (y183 ++ t186) ((rd_T74 l0 a1).f0) ((rd_T74 l0 a1).f1) ((rd_T74 l0 a1).f2) ((rd_T74 l0 a1).f3) ((rd_T74 l0 a1).f4)) else (none)) = some (r1, r2) := H
           have A35 := Aside0.mk A350
           clear A350
           by_cases c36 : y183.length + t186.length < 140737488355328
           ·rw [if_pos c36] at H
            have LMc36 := Aside0.mk c36
            clear c36
            obtain ⟨y189, hy189⟩ : ∃ y_ : List Int, y_ = (y183 ++ t186) := ⟨_, rfl⟩
            replace H : (spec_l4Pack.j1 kj4 l0 (wrap64 (a1 + 1)) y189 ((rd_T74 l0 a1).f0) ((rd_T74 l0 a1).f1) ((rd_T74 l0 a1).f2) ((rd_T74 l0 a1).f3) ((rd_T74 l0 a1).f4)) = some (r1, r2) := by first|(rw [hy189];with_reducible exact H)|(have H2_ := (Option.bind_some _ _).symm.trans H;rw [hy189];with_reducible exact H2_)|(have H2_ := (Option.bind_some _ _).symm.trans H;with_reducible exact H2_)|with_reducible exact H|(rw [hy189];exact H)|exact H
            have Ny189 := Aside0.mk hy189
            clear hy189
            have H' := Aside0.mk H
            clear H
            obtain ⟨hcz37_0, hcz37_1, hcz37_2, hcz37_3, hcz37_4, hfz37_0, hfz37_1, hfz37_2, hfz37_3, hfz37_4⟩ := blk5_ BK164.out
            go_wp2_with (first|((with_reducible refine gate_builtin (b := .append) (xs := #[.tmp 59, .tmp 64]) rfl ?_);at_builtin;refine Kd.R_append (Kd.int .u8) (w0 := w) w.heap.size rfl (.tmp 59) (.tmp 64) 50 5 (.int .u8 0) 1 rfl Try.underlying50 info5 rfl (by decide) (by omega) v166 y165 ((wrap64 (240 + ((rd_T74 l0 a1).f2))) % 256) [.int .u8 ((wrap64 (240 + ((rd_T74 l0 a1).f2))) % 256)] (fun _ => True) (fun _ => False) rfl rfl ?aP (fun _ hk => hk.elim) ?aF ?aO ?aB ?aS ?aL ?_;(case aP => exact rfl);(case aB => exact (by repeat (first|(with_reducible first|exact HB.out|apply below_alloc|apply pw_below_drewN|apply below_drew1|refine below_set ?_ GE164.out)|exact HB.out)));(case aF => exact (fun _ _ => trivial));(case aO => exact (by (with_reducible repeat (first|apply Kd.R_alloc|apply Kd.R_drewN|apply Kd.R_drew));exact HO_8.out));(case aS => exact (below_size (by repeat (first|(with_reducible first|exact HB.out|apply below_alloc|apply pw_below_drewN|apply below_drew1|refine below_set ?_ GE164.out)|exact HB.out))));(case aL => have := LMc34.out;omega);intro v184 w38 ho hb hg hat;rw [← Ny183.out] at ho;have n0_ := Aside0.mk (blk_grown (g := gb164) (o := .cells #[.int .i64 ((rd_T74 l0 a1).f0), .int .i64 ((rd_T74 l0 a1).f1), .int .i64 ((rd_T74 l0 a1).f2), .string ((rd_T74 l0 a1).f3), .int .i64 ((rd_T74 l0 a1).f4)] 74 (0, 0)) (by (with_reducible repeat (first|refine blk_drewN ?_ _|refine blk_drew ?_|refine blk_alloc ?_ _));exact BK164.out) hg (Kd.R_ne HO_8.out BK164.out (by decide)));have n1_ := Aside0.mk (hb);have n2_ := Aside0.mk (ho);clear BK164;clear HB;clear HO_8;have BK164 := n0_;have HB := n1_;have HO185 := n2_;clear n0_ n1_ n2_;clear ho hb hg hat;obtain ⟨hcz39_0, hcz39_1, hcz39_2, hcz39_3, hcz39_4, hfz39_0, hfz39_1, hfz39_2, hfz39_3, hfz39_4⟩ := blk5_ BK164.out)|((with_reducible refine gate_callee (f := 102) rfl ?_);refine goesL_ (some 69) rfl rfl Try.func102 (by kernel_rfl) rfl #[.int .i64 ((rd_T74 l0 a1).f4)] rfl (by (try simp only [List.map_toArray, List.map_cons, List.map_nil]);first|done|rfl|(simp only [List.length_drop, List.length_take];rfl)) ?_;(with_reducible refine (spec_UvarPut.calls kj4 ((rd_T74 l0 a1).f4) t186 _ A35.out).mono ?_);rintro e w40 ⟨v187, rfl, ho0, hb⟩;refine ⟨_, rfl, ?_⟩;have n0_ := Aside0.mk (Kd.R_elder' (by (with_reducible repeat (first|apply Kd.R_alloc|apply Kd.R_drewN|apply Kd.R_drew));exact HO185.out) (Kd.R_base ho0) hb);have n1_ := Aside0.mk (Kd.R_lower (Kd.R_new' ho0 (Kd.R_lt (by (with_reducible repeat (first|apply Kd.R_alloc|apply Kd.R_drewN|apply Kd.R_drew));exact HO185.out))) (below_size (by repeat (first|(with_reducible first|exact HB.out|apply below_alloc|apply pw_below_drewN|apply below_drew1|refine below_set ?_ GE164.out)|exact HB.out))));have n2_ := Aside0.mk (blk_below (g := gb164) (o := .cells #[.int .i64 ((rd_T74 l0 a1).f0), .int .i64 ((rd_T74 l0 a1).f1), .int .i64 ((rd_T74 l0 a1).f2), .string ((rd_T74 l0 a1).f3), .int .i64 ((rd_T74 l0 a1).f4)] 74 (0, 0)) (by (with_reducible repeat (first|refine blk_drewN ?_ _|refine blk_drew ?_|refine blk_alloc ?_ _));exact BK164.out) hb);have n3_ := Aside0.mk (below_step (by repeat (first|(with_reducible first|exact HB.out|apply below_alloc|apply pw_below_drewN|apply below_drew1|refine below_set ?_ GE164.out)|exact HB.out)) hb);clear HO185;clear BK164;clear HB;have HO185 := n0_;have HO188 := n1_;have BK164 := n2_;have HB := n3_;clear n0_ n1_ n2_ n3_;(try clear hb);(try clear hb2);(try clear hk);(try clear hi);(try clear ho0);obtain ⟨Ao42, co42, eo42⟩ := Kd.R_slice HO188.out;subst eo42)|((with_reducible refine gate_builtin (b := .append) (xs := #[.tmp 66, .tmp 69]) rfl ?_);at_builtin;refine Kd.R_append_rows (Kd.int .u8) (w0 := w) w.heap.size rfl (.tmp 66) (.tmp 69) 50 5 (.int .u8 0) 1 rfl Try.underlying50 info5 rfl (by decide) (by omega) v184 y183 t186 _ _ _ (fun k_ => some k_ ≠ (.slice Ao42 t186.length co42 : Value).ownBlock) (fun _ => False) rfl rfl ?aO ?aR (fun _ _ h => h) (fun _ h => h.elim) ?aF ?aB ?aS ?aL ?_;(case aR => repeat (first|exact (Kd.R_reads' HO188.out).2.2|(with_reducible refine Kd.C_alloc ?_ _)|(with_reducible refine Kd.C_drewN ?_ _)|(with_reducible refine Kd.C_drew ?_)));(case aB => exact (by repeat (first|(with_reducible first|exact HB.out|apply below_alloc|apply pw_below_drewN|apply below_drew1|refine below_set ?_ GE164.out)|exact HB.out)));(case aF => exact (fun k_ hk => Kd.fresh' (Kd.R_lt (by (with_reducible repeat (first|apply Kd.R_alloc|apply Kd.R_drewN|apply Kd.R_drew));exact HO188.out)) k_ hk));(case aO => exact (by (with_reducible repeat (first|apply Kd.R_alloc|apply Kd.R_drewN|apply Kd.R_drew));exact Kd.R_mono HO185.out (fun _ hk => hk.2)));(case aS => exact (below_size (by repeat (first|(with_reducible first|exact HB.out|apply below_alloc|apply pw_below_drewN|apply below_drew1|refine below_set ?_ GE164.out)|exact HB.out))));(case aL => have := LMc36.out;omega);intro v190 w41 ho hb hg hat;rw [← Ny189.out] at ho;have n0_ := Aside0.mk (blk_grown (g := gb164) (o := .cells #[.int .i64 ((rd_T74 l0 a1).f0), .int .i64 ((rd_T74 l0 a1).f1), .int .i64 ((rd_T74 l0 a1).f2), .string ((rd_T74 l0 a1).f3), .int .i64 ((rd_T74 l0 a1).f4)] 74 (0, 0)) (by (with_reducible repeat (first|refine blk_drewN ?_ _|refine blk_drew ?_|refine blk_alloc ?_ _));exact BK164.out) hg (Kd.R_ne HO185.out BK164.out (by decide)));have n1_ := Aside0.mk (Kd.R_after (ok := (fun _ => True)) (by (with_reducible repeat (first|apply Kd.R_alloc|apply Kd.R_drewN|apply Kd.R_drew));exact HO188.out) hg hat);have n2_ := Aside0.mk (hb);have n3_ := Aside0.mk (ho);clear BK164;clear HO188;clear HB;clear HO185;have BK164 := n0_;have HO188 := n1_;have HB := n2_;have HO191 := n3_;clear n0_ n1_ n2_ n3_;clear ho hb hg hat))
            go_meet
            case rel => exact ⟨_, (y189), H', ⟨by have := HJ4.out;first|omega|exact Nat.le_refl _⟩, ⟨by (with_reducible repeat (first|apply Kd.R_alloc|apply Kd.R_drewN|apply Kd.R_drew));exact Kd.R_mono HO191.out (fun _ hk => trivial)⟩, ⟨by (with_reducible repeat (first|refine blk_drewN ?_ _|refine blk_drew ?_|refine blk_alloc ?_ _));exact BK164.out⟩, ⟨by repeat (first|(with_reducible first|exact HB.out|apply below_alloc|apply pw_below_drewN|apply below_drew1|refine below_set ?_ GE164.out)|exact HB.out)⟩⟩
           ·rw [if_neg c36] at H
            exact absurd H (by simp)
          ·rw [if_neg c34] at H
           exact absurd H (by simp)
        case rest =>
         clear HC28
         try clear c1
         try clear p1
         try clear q1
         try clear hx1
         try clear c2
         try clear p2
         try clear c3
         try clear c3b0
         try clear c4
         try clear c4b0
         try clear p6
         try clear c8
         try clear c10
         try clear c11
         try clear c11b0
         try clear c11b1
         try clear c11b2
         try clear c12
         try clear c16
         try clear c16b0
         try clear c16b1
         try clear p16
         try clear q16
         try clear hx16
         try clear c18
         try clear c18b0
         try clear c18b1
         try clear c19
         try clear c27
         try clear c27b0
         try clear c27b1
         try clear c30
         try clear c30b0
         try clear c30b2
         try clear c31
         try clear c34
         try clear c36
         try clear hcz10_0
         try clear hcz10_1
         try clear hcz10_2
         try clear hcz10_3
         try clear hcz10_4
         try clear hcz14_0
         try clear hcz14_1
         try clear hcz14_2
         try clear hcz14_3
         try clear hcz14_4
         try clear hcz29_0
         try clear hcz29_1
         try clear hcz29_2
         try clear hcz29_3
         try clear hcz29_4
         try clear hcz32_0
         try clear hcz32_1
         try clear hcz32_2
         try clear hcz32_3
         try clear hcz32_4
         try clear hcz37_0
         try clear hcz37_1
         try clear hcz37_2
         try clear hcz37_3
         try clear hcz37_4
         try clear hcz39_0
         try clear hcz39_1
         try clear hcz39_2
         try clear hcz39_3
         try clear hcz39_4
         try clear hcz7_0
         try clear hcz7_1
         try clear hcz7_2
         try clear hcz7_3
         try clear hcz7_4
         try clear hfz10_0
         try clear hfz10_1
         try clear hfz10_2
         try clear hfz10_3
         try clear hfz10_4
         try clear hfz14_0
         try clear hfz14_1
         try clear hfz14_2
         try clear hfz14_3
         try clear hfz14_4
         try clear hfz29_0
         try clear hfz29_1
         try clear hfz29_2
         try clear hfz29_3
         try clear hfz29_4
         try clear hfz32_0
         try clear hfz32_1
         try clear hfz32_2
         try clear hfz32_3
         try clear hfz32_4
         try clear hfz37_0
         try clear hfz37_1
         try clear hfz37_2
         try clear hfz37_3
         try clear hfz37_4
         try clear hfz39_0
         try clear hfz39_1
         try clear hfz39_2
         try clear hfz39_3
         try clear hfz39_4
         try clear hfz7_0
         try clear hfz7_1
         try clear hfz7_2
         try clear hfz7_3
         try clear hfz7_4
         try clear hx163_0
         try clear hx163_1
         try clear hx163_2
         try clear hx163_3
         try clear hx163_4
         try clear p1
         try clear p163
         try clear p2
         try clear p6
         try clear q1
         try clear q163
         obtain ⟨kq, x8_27, HA, HJ27, HO_8, BK164, HB⟩ := hcut
         cases kq with
         | zero => exact absurd HA.out (by simp [spec_l4Pack.j1])
         | succ kj27 =>
          have H := HA.out
          clear HA
          simp only [spec_l4Pack.j1] at H
          have H' := Aside0.mk H
          clear H
          go_wp2
          go_loopg [7, 8, 9] kj27 (fun kq v7 v8 v9 w' => ∃ (x7_3 : Int) (x8_3 : List Int) (x9_3 : Int), v7 = .int .i64 x7_3 ∧ v9 = .int .i64 x9_3 ∧ Aside0 (spec_l4Pack.l0 kq l0 x7_3 x8_3 x9_3 ((rd_T74 l0 a1).f0) ((rd_T74 l0 a1).f1) ((rd_T74 l0 a1).f2) ((rd_T74 l0 a1).f3) ((rd_T74 l0 a1).f4) = some (r1, r2)) ∧ Aside0 (kq ≤ kj27) ∧ Aside0 (Kd.R (Kd.int .u8) 5 w' w.heap.size (fun _ => True) v8 x8_3) ∧ Aside0 (w'.heap[gb164]? = some (.cells #[.int .i64 ((rd_T74 l0 a1).f0), .int .i64 ((rd_T74 l0 a1).f1), .int .i64 ((rd_T74 l0 a1).f2), .string ((rd_T74 l0 a1).f3), .int .i64 ((rd_T74 l0 a1).f4)] 74 (0, 0))) ∧ Aside0 (Below w.heap.size w w'))
          case atStart => exact ⟨((wrap64 (a1 + 1))), (x8_27), (0), (by first|rfl|(simp;done)|(simp [*];done)), (by first|rfl|(simp;done)|(simp [*];done)), H', ⟨Nat.le_refl _⟩, ⟨by (with_reducible repeat (first|apply Kd.R_alloc|apply Kd.R_drewN|apply Kd.R_drew));exact HO_8.out⟩, ⟨by (with_reducible repeat (first|refine blk_drewN ?_ _|refine blk_drew ?_|refine blk_alloc ?_ _));exact BK164.out⟩, ⟨by repeat (first|(with_reducible first|exact HB.out|apply below_alloc|apply pw_below_drewN|apply below_drew1|refine below_set ?_ GE164.out)|exact HB.out)⟩⟩
          case round =>
           clear H'
           try clear c1
           try clear p1
           try clear q1
           try clear hx1
           try clear c2
           try clear p2
           try clear c3
           try clear c3b0
           try clear c4
           try clear c4b0
           try clear p6
           try clear c8
           try clear c10
           try clear c11
           try clear c11b0
           try clear c11b1
           try clear c11b2
           try clear c12
           try clear c16
           try clear c16b0
           try clear c16b1
           try clear p16
           try clear q16
           try clear hx16
           try clear c18
           try clear c18b0
           try clear c18b1
           try clear c19
           try clear c27
           try clear c27b0
           try clear c27b1
           try clear c30
           try clear c30b0
           try clear c30b2
           try clear c31
           try clear c34
           try clear c36
           try clear hcz10_0
           try clear hcz10_1
           try clear hcz10_2
           try clear hcz10_3
           try clear hcz10_4
           try clear hcz14_0
           try clear hcz14_1
           try clear hcz14_2
           try clear hcz14_3
           try clear hcz14_4
           try clear hcz29_0
           try clear hcz29_1
           try clear hcz29_2
           try clear hcz29_3
           try clear hcz29_4
           try clear hcz32_0
           try clear hcz32_1
           try clear hcz32_2
           try clear hcz32_3
           try clear hcz32_4
           try clear hcz37_0
           try clear hcz37_1
           try clear hcz37_2
           try clear hcz37_3
           try clear hcz37_4
           try clear hcz39_0
           try clear hcz39_1
           try clear hcz39_2
           try clear hcz39_3
           try clear hcz39_4
           try clear hcz7_0
           try clear hcz7_1
           try clear hcz7_2
           try clear hcz7_3
           try clear hcz7_4
           try clear hfz10_0
           try clear hfz10_1
           try clear hfz10_2
           try clear hfz10_3
           try clear hfz10_4
           try clear hfz14_0
           try clear hfz14_1
           try clear hfz14_2
           try clear hfz14_3
           try clear hfz14_4
           try clear hfz29_0
           try clear hfz29_1
           try clear hfz29_2
           try clear hfz29_3
           try clear hfz29_4
           try clear hfz32_0
           try clear hfz32_1
           try clear hfz32_2
           try clear hfz32_3
           try clear hfz32_4
           try clear hfz37_0
           try clear hfz37_1
           try clear hfz37_2
           try clear hfz37_3
           try clear hfz37_4
           try clear hfz39_0
           try clear hfz39_1
           try clear hfz39_2
           try clear hfz39_3
           try clear hfz39_4
           try clear hfz7_0
           try clear hfz7_1
           try clear hfz7_2
           try clear hfz7_3
           try clear hfz7_4
           try clear hx163_0
           try clear hx163_1
           try clear hx163_2
           try clear hx163_3
           try clear hx163_4
           try clear p1
           try clear p16
           try clear p163
           try clear p2
           try clear p6
           try clear q1
           try clear q16
           try clear q163
           obtain ⟨x7_3, x8_3, x9_3, rfl, rfl, HA, HK3, HO_8, BK164, HB⟩ := hrel
           cases gk with
           | zero => exact absurd HA.out (by simp [spec_l4Pack.l0])
           | succ k3 =>
            have H := HA.out
            clear HA
            simp only [spec_l4Pack.l0] at H
            by_cases c43 : x9_3 < ((rd_T74 l0 a1).f4)
            ·rw [if_pos c43] at H
             have c43b0 : decide (x9_3 < ((rd_T74 l0 a1).f4)) = true := decide_eq_true c43
             clear c43
             replace H := Option.bind_eq_some_iff.mp H
             obtain ⟨⟨t192, t193⟩, A440, H⟩ := H
             replace H : (if x8_3.length + t192.length < 140737488355328 then (spec_l4Pack.l0 k3 l0 t193 (x8_3 ++ t192) (wrap64 (x9_3 + 1)) ((rd_T74 l0 a1).f0) ((rd_T74 l0 a1).f1) ((rd_T74 l0 a1).f2) ((rd_T74 l0 a1).f3) ((rd_T74 l0 a1).f4)) else (none)) = some (r1, r2) := H
             have A44 := Aside0.mk A440
             clear A440
             by_cases c45 : x8_3.length + t192.length < 140737488355328
             ·rw [if_pos c45] at H
              have LMc45 := Aside0.mk c45
              clear c45
              obtain ⟨y196, hy196⟩ : ∃ y_ : List Int, y_ = (x8_3 ++ t192) := ⟨_, rfl⟩
              replace H : (spec_l4Pack.l0 k3 l0 t193 y196 (wrap64 (x9_3 + 1)) ((rd_T74 l0 a1).f0) ((rd_T74 l0 a1).f1) ((rd_T74 l0 a1).f2) ((rd_T74 l0 a1).f3) ((rd_T74 l0 a1).f4)) = some (r1, r2) := by first|(rw [hy196];with_reducible exact H)|(have H2_ := (Option.bind_some _ _).symm.trans H;rw [hy196];with_reducible exact H2_)|(have H2_ := (Option.bind_some _ _).symm.trans H;with_reducible exact H2_)|with_reducible exact H|(rw [hy196];exact H)|exact H
              have Ny196 := Aside0.mk hy196
              clear hy196
              have H' := Aside0.mk H
              clear H
              obtain ⟨hcz46_0, hcz46_1, hcz46_2, hcz46_3, hcz46_4, hfz46_0, hfz46_1, hfz46_2, hfz46_3, hfz46_4⟩ := blk5_ BK164.out
              go_wp2_with (first|((with_reducible refine gate_callee (f := 87) rfl ?_);refine goesL_ (some 80) rfl rfl Try.func87 (by kernel_rfl) rfl #[.slice (some ad163) l0.length c0, .int .i64 x7_3] rfl (by (try simp only [List.map_toArray, List.map_cons, List.map_nil]);first|done|rfl|(simp only [List.length_drop, List.length_take];rfl)) ?_;(with_reducible refine (ih k3 (by have := HJ4.out;have := HJ27.out;have := HK3.out;omega) _ _ l0 x7_3 t192 t193 _ ?side1 ?side2 A44.out).mono ?_);(case side1 => repeat (first|exact (Kd.C_below HR0.out HB.out)|(with_reducible refine Kd.C_alloc ?_ _)|(with_reducible refine Kd.C_drewN ?_ _)|(with_reducible refine Kd.C_drew ?_)));(case side2 => exact HC0.out);rintro e w47 ⟨v194, rfl, ho0, hb⟩;refine ⟨_, rfl, ?_⟩;have n0_ := Aside0.mk (Kd.R_elder' (by (with_reducible repeat (first|apply Kd.R_alloc|apply Kd.R_drewN|apply Kd.R_drew));exact HO_8.out) (Kd.R_base ho0) hb);have n1_ := Aside0.mk (Kd.R_lower (Kd.R_new' ho0 (Kd.R_lt (by (with_reducible repeat (first|apply Kd.R_alloc|apply Kd.R_drewN|apply Kd.R_drew));exact HO_8.out))) (below_size (by repeat (first|(with_reducible first|exact HB.out|apply below_alloc|apply pw_below_drewN|apply below_drew1|refine below_set ?_ GE164.out)|exact HB.out))));have n2_ := Aside0.mk (blk_below (g := gb164) (o := .cells #[.int .i64 ((rd_T74 l0 a1).f0), .int .i64 ((rd_T74 l0 a1).f1), .int .i64 ((rd_T74 l0 a1).f2), .string ((rd_T74 l0 a1).f3), .int .i64 ((rd_T74 l0 a1).f4)] 74 (0, 0)) (by (with_reducible repeat (first|refine blk_drewN ?_ _|refine blk_drew ?_|refine blk_alloc ?_ _));exact BK164.out) hb);have n3_ := Aside0.mk (below_step (by repeat (first|(with_reducible first|exact HB.out|apply below_alloc|apply pw_below_drewN|apply below_drew1|refine below_set ?_ GE164.out)|exact HB.out)) hb);clear HO_8;clear BK164;clear HB;have HO_8 := n0_;have HO195 := n1_;have BK164 := n2_;have HB := n3_;clear n0_ n1_ n2_ n3_;(try clear hb);(try clear hb2);(try clear hk);(try clear hi);(try clear ho0);obtain ⟨Ao49, co49, eo49⟩ := Kd.R_slice HO195.out;subst eo49)|((with_reducible refine gate_builtin (b := .append) (xs := #[.tmp 83, .tmp 84]) rfl ?_);at_builtin;refine Kd.R_append_rows (Kd.int .u8) (w0 := w) w.heap.size rfl (.tmp 83) (.tmp 84) 50 5 (.int .u8 0) 1 rfl Try.underlying50 info5 rfl (by decide) (by omega) u8 x8_3 t192 _ _ _ (fun k_ => some k_ ≠ (.slice Ao49 t192.length co49 : Value).ownBlock) (fun _ => False) rfl rfl ?aO ?aR (fun _ _ h => h) (fun _ h => h.elim) ?aF ?aB ?aS ?aL ?_;(case aR => repeat (first|exact (Kd.R_reads' HO195.out).2.2|(with_reducible refine Kd.C_alloc ?_ _)|(with_reducible refine Kd.C_drewN ?_ _)|(with_reducible refine Kd.C_drew ?_)));(case aB => exact (by repeat (first|(with_reducible first|exact HB.out|apply below_alloc|apply pw_below_drewN|apply below_drew1|refine below_set ?_ GE164.out)|exact HB.out)));(case aF => exact (fun k_ hk => Kd.fresh' (Kd.R_lt (by (with_reducible repeat (first|apply Kd.R_alloc|apply Kd.R_drewN|apply Kd.R_drew));exact HO195.out)) k_ hk));(case aO => exact (by (with_reducible repeat (first|apply Kd.R_alloc|apply Kd.R_drewN|apply Kd.R_drew));exact Kd.R_mono HO_8.out (fun _ hk => hk.2)));(case aS => exact (below_size (by repeat (first|(with_reducible first|exact HB.out|apply below_alloc|apply pw_below_drewN|apply below_drew1|refine below_set ?_ GE164.out)|exact HB.out))));(case aL => have := LMc45.out;omega);intro v197 w48 ho hb hg hat;rw [← Ny196.out] at ho;have n0_ := Aside0.mk (blk_grown (g := gb164) (o := .cells #[.int .i64 ((rd_T74 l0 a1).f0), .int .i64 ((rd_T74 l0 a1).f1), .int .i64 ((rd_T74 l0 a1).f2), .string ((rd_T74 l0 a1).f3), .int .i64 ((rd_T74 l0 a1).f4)] 74 (0, 0)) (by (with_reducible repeat (first|refine blk_drewN ?_ _|refine blk_drew ?_|refine blk_alloc ?_ _));exact BK164.out) hg (Kd.R_ne HO_8.out BK164.out (by decide)));have n1_ := Aside0.mk (Kd.R_after (ok := (fun _ => True)) (by (with_reducible repeat (first|apply Kd.R_alloc|apply Kd.R_drewN|apply Kd.R_drew));exact HO195.out) hg hat);have n2_ := Aside0.mk (hb);have n3_ := Aside0.mk (ho);clear BK164;clear HO195;clear HB;clear HO_8;have BK164 := n0_;have HO195 := n1_;have HB := n2_;have HO198 := n3_;clear n0_ n1_ n2_ n3_;clear ho hb hg hat))
              go_roundg k3
              case measure => have := HJ4.out;have := HJ27.out;have := HK3.out;omega
              case rel => exact ⟨(t193), (y196), (wrap64 (x9_3 + 1)), (by first|rfl|(simp;done)|(simp [*];done)), (by first|rfl|(simp;done)|(simp [*];done)), H', ⟨by have := HJ4.out;have := HJ27.out;have := HK3.out;omega⟩, ⟨by (with_reducible repeat (first|apply Kd.R_alloc|apply Kd.R_drewN|apply Kd.R_drew));exact Kd.R_mono HO198.out (fun _ hk => trivial)⟩, ⟨by (with_reducible repeat (first|refine blk_drewN ?_ _|refine blk_drew ?_|refine blk_alloc ?_ _));exact BK164.out⟩, ⟨by repeat (first|(with_reducible first|exact HB.out|apply below_alloc|apply pw_below_drewN|apply below_drew1|refine below_set ?_ GE164.out)|exact HB.out)⟩⟩
             ·rw [if_neg c45] at H
              exact absurd H (by simp)
            ·rw [if_neg c43] at H
             have c43b0 : decide (x9_3 < ((rd_T74 l0 a1).f4)) = false := decide_eq_false c43
             clear c43
             simp only [Option.some.injEq, Prod.mk.injEq] at H
             obtain ⟨rfl, rfl⟩ := H
             obtain ⟨hcz50_0, hcz50_1, hcz50_2, hcz50_3, hcz50_4, hfz50_0, hfz50_1, hfz50_2, hfz50_3, hfz50_4⟩ := blk5_ BK164.out
             go_wp2
             go_ret2
             exact ⟨_, by first|rfl|(simp [errW_none, errW_some] <;> rfl)|(simp [*, errW_none, errW_some] <;> rfl)|(exfalso;simp only [Bool.not_eq_true', Bool.not_eq_false', decide_eq_false_iff_not, decide_eq_true_eq, decide_eq_decide, Int.not_lt, Int.not_le] at *;omega), by (with_reducible repeat (first|apply Kd.R_alloc|apply Kd.R_drewN|apply Kd.R_drew));exact HO_8.out, by repeat (first|(with_reducible first|exact HB.out|apply below_alloc|apply pw_below_drewN|apply below_drew1|refine below_set ?_ GE164.out)|exact HB.out)⟩
       ·rw [if_neg c27] at H
        have c27b0 : (((rd_T74 l0 a1).f0) == 9) = false := beq_eq_false_iff_ne.mpr c27
        have c27b1 : (((rd_T74 l0 a1).f0) != 9) = true := bne_iff_ne.mpr c27
        by_cases c51 : ((rd_T74 l0 a1).f0) = 12
        ·rw [if_pos c51] at H
         have c51b0 : (((rd_T74 l0 a1).f0) == 12) = true := beq_iff_eq.mpr c51
         have c51b1 : (((rd_T74 l0 a1).f0) != 12) = false := bne_eq_false_iff_eq.mpr c51
         clear c51
         have H' := Aside0.mk H
         clear H
         go_wp2
         go_loopg [7, 8, 12, 13] kj4 (fun kq v7 v8 v12 v13 w' => ∃ (x7_2 : Int) (x8_2 : List Int) (x12_2 : Int) (x13_2 : Int), v7 = .int .i64 x7_2 ∧ v12 = .int .i64 x12_2 ∧ v13 = .int .i64 x13_2 ∧ Aside0 (spec_l4Pack.l1 kq l0 x7_2 x8_2 x12_2 x13_2 ((rd_T74 l0 a1).f0) ((rd_T74 l0 a1).f1) ((rd_T74 l0 a1).f2) ((rd_T74 l0 a1).f3) ((rd_T74 l0 a1).f4) = some (r1, r2)) ∧ Aside0 (kq ≤ kj4) ∧ Aside0 (Kd.R (Kd.int .u8) 5 w' w.heap.size (fun _ => True) v8 x8_2) ∧ Aside0 (w'.heap[gb164]? = some (.cells #[.int .i64 ((rd_T74 l0 a1).f0), .int .i64 ((rd_T74 l0 a1).f1), .int .i64 ((rd_T74 l0 a1).f2), .string ((rd_T74 l0 a1).f3), .int .i64 ((rd_T74 l0 a1).f4)] 74 (0, 0))) ∧ Aside0 (Below w.heap.size w w'))
         case atStart => exact ⟨((wrap64 (a1 + 1))), (y165), (0), (0), (by first|rfl|(simp;done)|(simp [*];done)), (by first|rfl|(simp;done)|(simp [*];done)), (by first|rfl|(simp;done)|(simp [*];done)), H', ⟨Nat.le_refl _⟩, ⟨by (with_reducible repeat (first|apply Kd.R_alloc|apply Kd.R_drewN|apply Kd.R_drew));exact HO_8.out⟩, ⟨by (with_reducible repeat (first|refine blk_drewN ?_ _|refine blk_drew ?_|refine blk_alloc ?_ _));exact BK164.out⟩, ⟨by repeat (first|(with_reducible first|exact HB.out|apply below_alloc|apply pw_below_drewN|apply below_drew1|refine below_set ?_ GE164.out)|exact HB.out)⟩⟩
         case round =>
          clear H'
          try clear c1
          try clear p1
          try clear q1
          try clear hx1
          try clear c2
          try clear p2
          try clear c3
          try clear c3b0
          try clear c4
          try clear c4b0
          try clear c5
          try clear p6
          try clear c8
          try clear c10
          try clear c11
          try clear c11b0
          try clear c11b1
          try clear c11b2
          try clear c12
          try clear c16
          try clear c16b0
          try clear c16b1
          try clear p16
          try clear q16
          try clear hx16
          try clear c18
          try clear c18b0
          try clear c18b1
          try clear c19
          try clear c27
          try clear c27b0
          try clear c27b1
          try clear c30
          try clear c30b0
          try clear c30b2
          try clear c31
          try clear c34
          try clear c36
          try clear c43
          try clear c43b0
          try clear c45
          try clear c51
          try clear c51b0
          try clear c51b1
          try clear hcz10_0
          try clear hcz10_1
          try clear hcz10_2
          try clear hcz10_3
          try clear hcz10_4
          try clear hcz14_0
          try clear hcz14_1
          try clear hcz14_2
          try clear hcz14_3
          try clear hcz14_4
          try clear hcz29_0
          try clear hcz29_1
          try clear hcz29_2
          try clear hcz29_3
          try clear hcz29_4
          try clear hcz32_0
          try clear hcz32_1
          try clear hcz32_2
          try clear hcz32_3
          try clear hcz32_4
          try clear hcz37_0
          try clear hcz37_1
          try clear hcz37_2
          try clear hcz37_3
          try clear hcz37_4
          try clear hcz39_0
          try clear hcz39_1
          try clear hcz39_2
          try clear hcz39_3
          try clear hcz39_4
          try clear hcz46_0
          try clear hcz46_1
          try clear hcz46_2
          try clear hcz46_3
          try clear hcz46_4
          try clear hcz50_0
          try clear hcz50_1
          try clear hcz50_2
          try clear hcz50_3
          try clear hcz50_4
          try clear hcz7_0
          try clear hcz7_1
          try clear hcz7_2
          try clear hcz7_3
          try clear hcz7_4
          try clear hfz10_0
          try clear hfz10_1
          try clear hfz10_2
          try clear hfz10_3
          try clear hfz10_4
          try clear hfz14_0
          try clear hfz14_1
          try clear hfz14_2
          try clear hfz14_3
          try clear hfz14_4
          try clear hfz29_0
          try clear hfz29_1
          try clear hfz29_2
          try clear hfz29_3
          try clear hfz29_4
          try clear hfz32_0
          try clear hfz32_1
          try clear hfz32_2
          try clear hfz32_3
          try clear hfz32_4
          try clear hfz37_0
          try clear hfz37_1
          try clear hfz37_2
          try clear hfz37_3
          try clear hfz37_4
          try clear hfz39_0
          try clear hfz39_1
          try clear hfz39_2
          try clear hfz39_3
          try clear hfz39_4
          try clear hfz46_0
          try clear hfz46_1
          try clear hfz46_2
          try clear hfz46_3
          try clear hfz46_4
          try clear hfz50_0
          try clear hfz50_1
          try clear hfz50_2
          try clear hfz50_3
          try clear hfz50_4
          try clear hfz7_0
          try clear hfz7_1
          try clear hfz7_2
          try clear hfz7_3
          try clear hfz7_4
          try clear hx163_0
          try clear hx163_1
          try clear hx163_2
          try clear hx163_3
          try clear hx163_4
          try clear p1
          try clear p16
          try clear p163
          try clear p2
          try clear p6
          try clear q1
          try clear q16
          try clear q163
          obtain ⟨x7_2, x8_2, x12_2, x13_2, rfl, rfl, rfl, HA, HK2, HO_8, BK164, HB⟩ := hrel
          cases gk with
          | zero => exact absurd HA.out (by simp [spec_l4Pack.l1])
          | succ k2 =>
           have H := HA.out
           clear HA
           simp only [spec_l4Pack.l1] at H
           by_cases c52 : x13_2 < ((rd_T74 l0 a1).f4)
           ·rw [if_pos c52] at H
            have c52b0 : decide (x13_2 < ((rd_T74 l0 a1).f4)) = true := decide_eq_true c52
            clear c52
            by_cases c53 : 0 ≤ x7_2
            ·rw [if_pos c53] at H
             have c53b0 : decide (0 ≤ x7_2) = true := decide_eq_true c53
             clear c53
             by_cases c54 : x7_2 < (l0.length : Int)
             ·rw [if_pos c54] at H
              have c54b0 : decide (x7_2 < (l0.length : Int)) = true := decide_eq_true c54
              clear c54
              by_cases c55 : (wrap64 (((rd_T74 l0 x7_2).f1) - x12_2)) ≤ 15
              ·rw [if_pos c55] at H
               have c55b0 : decide ((wrap64 (((rd_T74 l0 x7_2).f1) - x12_2)) ≤ 15) = true := decide_eq_true c55
               clear c55
               by_cases c56 : x8_2.length < 140737488355328
               ·rw [if_pos c56] at H
                have LMc56 := Aside0.mk c56
                clear c56
                obtain ⟨y204, hy204⟩ : ∃ y_ : List Int, y_ = (x8_2 ++ [(wrap64 ((wrap64 (16 * (wrap64 (((rd_T74 l0 x7_2).f1) - x12_2)))) + ((rd_T74 l0 x7_2).f0))) % 256]) := ⟨_, rfl⟩
                replace H : ((spec_l4Pack.f k2 l0 x7_2).bind fun bt207 => (if y204.length + bt207.1.length < 140737488355328 then (spec_l4Pack.l1 k2 l0 bt207.2 (y204 ++ bt207.1) ((rd_T74 l0 x7_2).f1) (wrap64 (x13_2 + 1)) ((rd_T74 l0 a1).f0) ((rd_T74 l0 a1).f1) ((rd_T74 l0 a1).f2) ((rd_T74 l0 a1).f3) ((rd_T74 l0 a1).f4)) else (none))) = some (r1, r2) := by first|(rw [hy204];with_reducible exact H)|(have H2_ := (Option.bind_some _ _).symm.trans H;rw [hy204];with_reducible exact H2_)|(have H2_ := (Option.bind_some _ _).symm.trans H;with_reducible exact H2_)|with_reducible exact H|(rw [hy204];exact H)|exact H
                have Ny204 := Aside0.mk hy204
                clear hy204
                replace H := Option.bind_eq_some_iff.mp H
                obtain ⟨⟨t207, t208⟩, A570, H⟩ := H
                replace H : (if y204.length + t207.length < 140737488355328 then (spec_l4Pack.l1 k2 l0 t208 (y204 ++ t207) ((rd_T74 l0 x7_2).f1) (wrap64 (x13_2 + 1)) ((rd_T74 l0 a1).f0) ((rd_T74 l0 a1).f1) ((rd_T74 l0 a1).f2) ((rd_T74 l0 a1).f3) ((rd_T74 l0 a1).f4)) else (none)) = some (r1, r2) := H
                have A57 := Aside0.mk A570
                clear A570
                by_cases c58 : y204.length + t207.length < 140737488355328
                ·rw [if_pos c58] at H
                 have LMc58 := Aside0.mk c58
                 clear c58
                 obtain ⟨y211, hy211⟩ : ∃ y_ : List Int, y_ = (y204 ++ t207) := ⟨_, rfl⟩
                 replace H : (spec_l4Pack.l1 k2 l0 t208 y211 ((rd_T74 l0 x7_2).f1) (wrap64 (x13_2 + 1)) ((rd_T74 l0 a1).f0) ((rd_T74 l0 a1).f1) ((rd_T74 l0 a1).f2) ((rd_T74 l0 a1).f3) ((rd_T74 l0 a1).f4)) = some (r1, r2) := by first|(rw [hy211];with_reducible exact H)|(have H2_ := (Option.bind_some _ _).symm.trans H;rw [hy211];with_reducible exact H2_)|(have H2_ := (Option.bind_some _ _).symm.trans H;with_reducible exact H2_)|with_reducible exact H|(rw [hy211];exact H)|exact H
                 have Ny211 := Aside0.mk hy211
                 clear hy211
                 have H' := Aside0.mk H
                 clear H
                 obtain ⟨hcz59_0, hcz59_1, hcz59_2, hcz59_3, hcz59_4, hfz59_0, hfz59_1, hfz59_2, hfz59_3, hfz59_4⟩ := blk5_ BK164.out
                 have p202 : 0 ≤ (x7_2 : Int) := of_decide_eq_true (by first|(with_reducible assumption)|assumption)
                 have q202 : x7_2 < (l0.length : Int) := of_decide_eq_true (by first|(with_reducible assumption)|assumption)
                 obtain ⟨ad202, e202, hx202_0, hx202_1, hx202_2, hx202_3, hx202_4⟩ := at_T74 HR0.out x7_2 p202 q202
                 obtain rfl : ad163 = ad202 := (by injection e202)
                 replace hx202_0 := (HB.out.cell (World.block_lt_of_cell? w _ hx202_0)).trans hx202_0
                 replace hx202_1 := (HB.out.cell (World.block_lt_of_cell? w _ hx202_1)).trans hx202_1
                 replace hx202_2 := (HB.out.cell (World.block_lt_of_cell? w _ hx202_2)).trans hx202_2
                 replace hx202_3 := (HB.out.cell (World.block_lt_of_cell? w _ hx202_3)).trans hx202_3
                 replace hx202_4 := (HB.out.cell (World.block_lt_of_cell? w _ hx202_4)).trans hx202_4
                 replace p202 := eq_true p202
                 replace q202 := eq_true q202
                 go_wp2_with (first|((with_reducible refine gate_dst (N := 14) rfl ?_);refine box_event ?hg (N := 14) ?hd (cs := #[.int .i64 0, .int .i64 0, .int .i64 0, .string (⟨#[]⟩ : ByteArray), .int .i64 0]) (t := 74) ?hr ?_;(case hd => rfl);(case hg => rfl);(case hr => first|(go_simp;done)|(go_simp;rfl));intro gb203 hg w60 hbox hb;have n0_ := Aside0.mk (Kd.R_below (by (with_reducible repeat (first|apply Kd.R_alloc|apply Kd.R_drewN|apply Kd.R_drew));exact HO_8.out) hb);have n1_ := Aside0.mk (blk_below (g := gb164) (o := .cells #[.int .i64 ((rd_T74 l0 a1).f0), .int .i64 ((rd_T74 l0 a1).f1), .int .i64 ((rd_T74 l0 a1).f2), .string ((rd_T74 l0 a1).f3), .int .i64 ((rd_T74 l0 a1).f4)] 74 (0, 0)) (by (with_reducible repeat (first|refine blk_drewN ?_ _|refine blk_drew ?_|refine blk_alloc ?_ _));exact BK164.out) hb);have n2_ := Aside0.mk (below_step (by repeat (first|(with_reducible first|exact HB.out|apply below_alloc|apply pw_below_drewN|apply below_drew1|refine below_set ?_ GE164.out)|exact HB.out)) hb);have n3_ := Aside0.mk (hbox);have n4_ := Aside0.mk ((by rw [hg];exact (below_size (by repeat (first|(with_reducible first|exact HB.out|apply below_alloc|apply pw_below_drewN|apply below_drew1|refine below_set ?_ GE164.out)|exact HB.out))) : w.heap.size ≤ gb203));have n5_ := Aside0.mk ((by rw [hg];exact (below_size (by repeat (first|(with_reducible first|exact HB.out|apply below_alloc|apply pw_below_drewN|apply below_drew1|refine below_set ?_ GE164.out)|exact HB.out))) : w.heap.size ≤ gb203));have n6_ := Aside0.mk ((by rw [hg];exact Nat.ne_of_lt (blk_lt (g := gb164) (o := .cells #[.int .i64 ((rd_T74 l0 a1).f0), .int .i64 ((rd_T74 l0 a1).f1), .int .i64 ((rd_T74 l0 a1).f2), .string ((rd_T74 l0 a1).f3), .int .i64 ((rd_T74 l0 a1).f4)] 74 (0, 0)) (by (with_reducible repeat (first|refine blk_drewN ?_ _|refine blk_drew ?_|refine blk_alloc ?_ _));exact BK164.out)) : gb164 ≠ gb203));have n7_ := Aside0.mk ((by rw [hg];exact Nat.ne_of_gt (blk_lt (g := gb164) (o := .cells #[.int .i64 ((rd_T74 l0 a1).f0), .int .i64 ((rd_T74 l0 a1).f1), .int .i64 ((rd_T74 l0 a1).f2), .string ((rd_T74 l0 a1).f3), .int .i64 ((rd_T74 l0 a1).f4)] 74 (0, 0)) (by (with_reducible repeat (first|refine blk_drewN ?_ _|refine blk_drew ?_|refine blk_alloc ?_ _));exact BK164.out)) : gb203 ≠ gb164));clear HO_8;clear BK164;clear HB;have HO_8 := n0_;have BK164 := n1_;have HB := n2_;have BK203 := n3_;have GW203 := n4_;have GE203 := n5_;have NB164_203 := n6_;have NB203_164 := n7_;clear n0_ n1_ n2_ n3_ n4_ n5_ n6_ n7_;clear hb hbox hg;have hnb61 := NB203_164.out;have hnc61 := NB164_203.out;obtain ⟨hcz62_0, hcz62_1, hcz62_2, hcz62_3, hcz62_4, hfz62_0, hfz62_1, hfz62_2, hfz62_3, hfz62_4⟩ := blk5_ BK203.out)|((with_reducible refine gate_builtin (b := .append) (xs := #[.tmp 104, .tmp 114]) rfl ?_);at_builtin;refine Kd.R_append (Kd.int .u8) (w0 := w) w.heap.size rfl (.tmp 104) (.tmp 114) 50 5 (.int .u8 0) 1 rfl Try.underlying50 info5 rfl (by decide) (by omega) u8 x8_2 ((wrap64 ((wrap64 (16 * (wrap64 (((rd_T74 l0 x7_2).f1) - x12_2)))) + ((rd_T74 l0 x7_2).f0))) % 256) [.int .u8 ((wrap64 ((wrap64 (16 * (wrap64 (((rd_T74 l0 x7_2).f1) - x12_2)))) + ((rd_T74 l0 x7_2).f0))) % 256)] (fun _ => True) (fun _ => False) rfl (by first|(go_simp;done)|(go_simp;rfl)) ?aP (fun _ hk => hk.elim) ?aF ?aO ?aB ?aS ?aL ?_;(case aP => exact rfl);(case aB => exact (by repeat (first|(with_reducible first|exact HB.out|apply below_alloc|apply pw_below_drewN|apply below_drew1|refine below_set ?_ GE164.out|refine below_set ?_ GE203.out)|exact HB.out)));(case aF => exact (fun _ _ => trivial));(case aO => exact (by (with_reducible repeat (first|apply Kd.R_alloc|apply Kd.R_drewN|apply Kd.R_drew));exact Kd.R_mono (Kd.R_far (p := ⟨gb203, 4, none⟩) (Kd.R_far (p := ⟨gb203, 3, none⟩) (Kd.R_far (p := ⟨gb203, 2, none⟩) (Kd.R_far (p := ⟨gb203, 1, none⟩) (Kd.R_far (p := ⟨gb203, 0, none⟩) (Kd.R_types HO_8.out BK203.out (by decide)) (fun _ hk => hk.2) (.int .i64 ((rd_T74 l0 x7_2).f0))) (fun _ hk => hk.2) (.int .i64 ((rd_T74 l0 x7_2).f1))) (fun _ hk => hk.2) (.int .i64 ((rd_T74 l0 x7_2).f2))) (fun _ hk => hk.2) (.string ((rd_T74 l0 x7_2).f3))) (fun _ hk => hk.2) (.int .i64 ((rd_T74 l0 x7_2).f4))) (fun _ hk => trivial)));(case aS => exact (below_size (by repeat (first|(with_reducible first|exact HB.out|apply below_alloc|apply pw_below_drewN|apply below_drew1|refine below_set ?_ GE164.out|refine below_set ?_ GE203.out)|exact HB.out))));(case aL => have := LMc56.out;omega);intro v205 w63 ho hb hg hat;rw [← Ny204.out] at ho;have n0_ := Aside0.mk (blk_grown (g := gb164) (o := .cells #[.int .i64 ((rd_T74 l0 a1).f0), .int .i64 ((rd_T74 l0 a1).f1), .int .i64 ((rd_T74 l0 a1).f2), .string ((rd_T74 l0 a1).f3), .int .i64 ((rd_T74 l0 a1).f4)] 74 (0, 0)) (by (with_reducible repeat (first|refine blk_drewN ?_ _|refine blk_drew ?_|refine blk_alloc ?_ _));refine blk_far ?_ NB164_203.out _;(with_reducible repeat (first|refine blk_drewN ?_ _|refine blk_drew ?_|refine blk_alloc ?_ _));refine blk_far ?_ NB164_203.out _;(with_reducible repeat (first|refine blk_drewN ?_ _|refine blk_drew ?_|refine blk_alloc ?_ _));refine blk_far ?_ NB164_203.out _;(with_reducible repeat (first|refine blk_drewN ?_ _|refine blk_drew ?_|refine blk_alloc ?_ _));refine blk_far ?_ NB164_203.out _;(with_reducible repeat (first|refine blk_drewN ?_ _|refine blk_drew ?_|refine blk_alloc ?_ _));refine blk_far ?_ NB164_203.out _;(with_reducible repeat (first|refine blk_drewN ?_ _|refine blk_drew ?_|refine blk_alloc ?_ _));exact BK164.out) hg (Kd.R_ne HO_8.out BK164.out (by decide)));have n1_ := Aside0.mk (blk_grown (g := gb203) (o := .cells #[.int .i64 ((rd_T74 l0 x7_2).f0), .int .i64 ((rd_T74 l0 x7_2).f1), .int .i64 ((rd_T74 l0 x7_2).f2), .string ((rd_T74 l0 x7_2).f3), .int .i64 ((rd_T74 l0 x7_2).f4)] 74 (0, 0)) (by (with_reducible repeat (first|refine blk_drewN ?_ _|refine blk_drew ?_|refine blk_alloc ?_ _));refine blk_put (cs := #[.int .i64 ((rd_T74 l0 x7_2).f0), .int .i64 ((rd_T74 l0 x7_2).f1), .int .i64 ((rd_T74 l0 x7_2).f2), .string ((rd_T74 l0 x7_2).f3), .int .i64 0]) ?_ 4 _ rfl;(with_reducible repeat (first|refine blk_drewN ?_ _|refine blk_drew ?_|refine blk_alloc ?_ _));refine blk_put (cs := #[.int .i64 ((rd_T74 l0 x7_2).f0), .int .i64 ((rd_T74 l0 x7_2).f1), .int .i64 ((rd_T74 l0 x7_2).f2), .string (⟨#[]⟩ : ByteArray), .int .i64 0]) ?_ 3 _ rfl;(with_reducible repeat (first|refine blk_drewN ?_ _|refine blk_drew ?_|refine blk_alloc ?_ _));refine blk_put (cs := #[.int .i64 ((rd_T74 l0 x7_2).f0), .int .i64 ((rd_T74 l0 x7_2).f1), .int .i64 0, .string (⟨#[]⟩ : ByteArray), .int .i64 0]) ?_ 2 _ rfl;(with_reducible repeat (first|refine blk_drewN ?_ _|refine blk_drew ?_|refine blk_alloc ?_ _));refine blk_put (cs := #[.int .i64 ((rd_T74 l0 x7_2).f0), .int .i64 0, .int .i64 0, .string (⟨#[]⟩ : ByteArray), .int .i64 0]) ?_ 1 _ rfl;(with_reducible repeat (first|refine blk_drewN ?_ _|refine blk_drew ?_|refine blk_alloc ?_ _));refine blk_put (cs := #[.int .i64 0, .int .i64 0, .int .i64 0, .string (⟨#[]⟩ : ByteArray), .int .i64 0]) ?_ 0 _ rfl;(with_reducible repeat (first|refine blk_drewN ?_ _|refine blk_drew ?_|refine blk_alloc ?_ _));exact BK203.out) hg (Kd.R_ne HO_8.out BK203.out (by decide)));have n2_ := Aside0.mk (hb);have n3_ := Aside0.mk (ho);clear BK164;clear BK203;clear HB;clear HO_8;have BK164 := n0_;have BK203 := n1_;have HB := n2_;have HO206 := n3_;clear n0_ n1_ n2_ n3_;clear ho hb hg hat;obtain ⟨hcz64_0, hcz64_1, hcz64_2, hcz64_3, hcz64_4, hfz64_0, hfz64_1, hfz64_2, hfz64_3, hfz64_4⟩ := blk5_ BK203.out)|((with_reducible refine gate_callee (f := 87) rfl ?_);refine goesL_ (some 132) rfl rfl Try.func87 (by kernel_rfl) rfl #[.slice (some ad163) l0.length c0, .int .i64 x7_2] rfl (by (try simp only [List.map_toArray, List.map_cons, List.map_nil]);first|done|rfl|(simp only [List.length_drop, List.length_take];rfl)) ?_;(with_reducible refine (ih k2 (by have := HJ4.out;have := HK2.out;omega) _ _ l0 x7_2 t207 t208 _ ?side1 ?side2 A57.out).mono ?_);(case side1 => repeat (first|exact (Kd.C_below HR0.out HB.out)|(with_reducible refine Kd.C_alloc ?_ _)|(with_reducible refine Kd.C_drewN ?_ _)|(with_reducible refine Kd.C_drew ?_)));(case side2 => exact HC0.out);rintro e w65 ⟨v209, rfl, ho0, hb⟩;refine ⟨_, rfl, ?_⟩;have n0_ := Aside0.mk (Kd.R_elder' (by (with_reducible repeat (first|apply Kd.R_alloc|apply Kd.R_drewN|apply Kd.R_drew));exact HO206.out) (Kd.R_base ho0) hb);have n1_ := Aside0.mk (Kd.R_lower (Kd.R_new' ho0 (Kd.R_lt (by (with_reducible repeat (first|apply Kd.R_alloc|apply Kd.R_drewN|apply Kd.R_drew));exact HO206.out))) (below_size (by repeat (first|(with_reducible first|exact HB.out|apply below_alloc|apply pw_below_drewN|apply below_drew1|refine below_set ?_ GE164.out|refine below_set ?_ GE203.out)|exact HB.out))));have n2_ := Aside0.mk (blk_below (g := gb164) (o := .cells #[.int .i64 ((rd_T74 l0 a1).f0), .int .i64 ((rd_T74 l0 a1).f1), .int .i64 ((rd_T74 l0 a1).f2), .string ((rd_T74 l0 a1).f3), .int .i64 ((rd_T74 l0 a1).f4)] 74 (0, 0)) (by (with_reducible repeat (first|refine blk_drewN ?_ _|refine blk_drew ?_|refine blk_alloc ?_ _));exact BK164.out) hb);have n3_ := Aside0.mk (blk_below (g := gb203) (o := .cells #[.int .i64 ((rd_T74 l0 x7_2).f0), .int .i64 ((rd_T74 l0 x7_2).f1), .int .i64 ((rd_T74 l0 x7_2).f2), .string ((rd_T74 l0 x7_2).f3), .int .i64 ((rd_T74 l0 x7_2).f4)] 74 (0, 0)) (by (with_reducible repeat (first|refine blk_drewN ?_ _|refine blk_drew ?_|refine blk_alloc ?_ _));exact BK203.out) hb);have n4_ := Aside0.mk (below_step (by repeat (first|(with_reducible first|exact HB.out|apply below_alloc|apply pw_below_drewN|apply below_drew1|refine below_set ?_ GE164.out|refine below_set ?_ GE203.out)|exact HB.out)) hb);clear HO206;clear BK164;clear BK203;clear HB;have HO206 := n0_;have HO210 := n1_;have BK164 := n2_;have BK203 := n3_;have HB := n4_;clear n0_ n1_ n2_ n3_ n4_;(try clear hb);(try clear hb2);(try clear hk);(try clear hi);(try clear ho0);obtain ⟨Ao67, co67, eo67⟩ := Kd.R_slice HO210.out;subst eo67)|((with_reducible refine gate_builtin (b := .append) (xs := #[.tmp 135, .tmp 136]) rfl ?_);at_builtin;refine Kd.R_append_rows (Kd.int .u8) (w0 := w) w.heap.size rfl (.tmp 135) (.tmp 136) 50 5 (.int .u8 0) 1 rfl Try.underlying50 info5 rfl (by decide) (by omega) v205 y204 t207 _ _ _ (fun k_ => some k_ ≠ (.slice Ao67 t207.length co67 : Value).ownBlock) (fun _ => False) rfl rfl ?aO ?aR (fun _ _ h => h) (fun _ h => h.elim) ?aF ?aB ?aS ?aL ?_;(case aR => repeat (first|exact (Kd.R_reads' HO210.out).2.2|(with_reducible refine Kd.C_alloc ?_ _)|(with_reducible refine Kd.C_drewN ?_ _)|(with_reducible refine Kd.C_drew ?_)));(case aB => exact (by repeat (first|(with_reducible first|exact HB.out|apply below_alloc|apply pw_below_drewN|apply below_drew1|refine below_set ?_ GE164.out|refine below_set ?_ GE203.out)|exact HB.out)));(case aF => exact (fun k_ hk => Kd.fresh' (Kd.R_lt (by (with_reducible repeat (first|apply Kd.R_alloc|apply Kd.R_drewN|apply Kd.R_drew));exact HO210.out)) k_ hk));(case aO => exact (by (with_reducible repeat (first|apply Kd.R_alloc|apply Kd.R_drewN|apply Kd.R_drew));exact Kd.R_mono HO206.out (fun _ hk => hk.2)));(case aS => exact (below_size (by repeat (first|(with_reducible first|exact HB.out|apply below_alloc|apply pw_below_drewN|apply below_drew1|refine below_set ?_ GE164.out|refine below_set ?_ GE203.out)|exact HB.out))));(case aL => have := LMc58.out;omega);intro v212 w66 ho hb hg hat;rw [← Ny211.out] at ho;have n0_ := Aside0.mk (blk_grown (g := gb164) (o := .cells #[.int .i64 ((rd_T74 l0 a1).f0), .int .i64 ((rd_T74 l0 a1).f1), .int .i64 ((rd_T74 l0 a1).f2), .string ((rd_T74 l0 a1).f3), .int .i64 ((rd_T74 l0 a1).f4)] 74 (0, 0)) (by (with_reducible repeat (first|refine blk_drewN ?_ _|refine blk_drew ?_|refine blk_alloc ?_ _));exact BK164.out) hg (Kd.R_ne HO206.out BK164.out (by decide)));have n1_ := Aside0.mk (blk_grown (g := gb203) (o := .cells #[.int .i64 ((rd_T74 l0 x7_2).f0), .int .i64 ((rd_T74 l0 x7_2).f1), .int .i64 ((rd_T74 l0 x7_2).f2), .string ((rd_T74 l0 x7_2).f3), .int .i64 ((rd_T74 l0 x7_2).f4)] 74 (0, 0)) (by (with_reducible repeat (first|refine blk_drewN ?_ _|refine blk_drew ?_|refine blk_alloc ?_ _));exact BK203.out) hg (Kd.R_ne HO206.out BK203.out (by decide)));have n2_ := Aside0.mk (Kd.R_after (ok := (fun _ => True)) (by (with_reducible repeat (first|apply Kd.R_alloc|apply Kd.R_drewN|apply Kd.R_drew));exact HO210.out) hg hat);have n3_ := Aside0.mk (hb);have n4_ := Aside0.mk (ho);clear BK164;clear BK203;clear HO210;clear HB;clear HO206;have BK164 := n0_;have BK203 := n1_;have HO210 := n2_;have HB := n3_;have HO213 := n4_;clear n0_ n1_ n2_ n3_ n4_;clear ho hb hg hat))
                 go_roundg k2
                 case measure => have := HJ4.out;have := HK2.out;omega
                 case rel => exact ⟨(t208), (y211), ((rd_T74 l0 x7_2).f1), (wrap64 (x13_2 + 1)), (by first|rfl|(simp;done)|(simp [*];done)), (by first|rfl|(simp;done)|(simp [*];done)), (by first|rfl|(simp;done)|(simp [*];done)), H', ⟨by have := HJ4.out;have := HK2.out;omega⟩, ⟨by (with_reducible repeat (first|apply Kd.R_alloc|apply Kd.R_drewN|apply Kd.R_drew));exact Kd.R_mono HO213.out (fun _ hk => trivial)⟩, ⟨by (with_reducible repeat (first|refine blk_drewN ?_ _|refine blk_drew ?_|refine blk_alloc ?_ _));exact BK164.out⟩, ⟨by repeat (first|(with_reducible first|exact HB.out|apply below_alloc|apply pw_below_drewN|apply below_drew1|refine below_set ?_ GE164.out|refine below_set ?_ GE203.out)|exact HB.out)⟩⟩
                ·rw [if_neg c58] at H
                 exact absurd H (by simp)
               ·rw [if_neg c56] at H
                exact absurd H (by simp)
              ·rw [if_neg c55] at H
               have c55b0 : decide ((wrap64 (((rd_T74 l0 x7_2).f1) - x12_2)) ≤ 15) = false := decide_eq_false c55
               clear c55
               by_cases c68 : x8_2.length < 140737488355328
               ·rw [if_pos c68] at H
                have LMc68 := Aside0.mk c68
                clear c68
                obtain ⟨y214, hy214⟩ : ∃ y_ : List Int, y_ = (x8_2 ++ [((rd_T74 l0 x7_2).f0) % 256]) := ⟨_, rfl⟩
                replace H : ((spec_ZigPut.f k2 ((rd_T74 l0 x7_2).f1)).bind fun t217 => (if y214.length + t217.length < 140737488355328 then ((some (y214 ++ t217 : List Int)).bind fun y220 => ((spec_l4Pack.f k2 l0 x7_2).bind fun bt223 => (if y220.length + bt223.1.length < 140737488355328 then (spec_l4Pack.l1 k2 l0 bt223.2 (y220 ++ bt223.1) ((rd_T74 l0 x7_2).f1) (wrap64 (x13_2 + 1)) ((rd_T74 l0 a1).f0) ((rd_T74 l0 a1).f1) ((rd_T74 l0 a1).f2) ((rd_T74 l0 a1).f3) ((rd_T74 l0 a1).f4)) else (none)))) else (none))) = some (r1, r2) := by first|(rw [hy214];with_reducible exact H)|(have H2_ := (Option.bind_some _ _).symm.trans H;rw [hy214];with_reducible exact H2_)|(have H2_ := (Option.bind_some _ _).symm.trans H;with_reducible exact H2_)|with_reducible exact H|(rw [hy214];exact H)|exact H
                have Ny214 := Aside0.mk hy214
                clear hy214
                replace H := Option.bind_eq_some_iff.mp H
                obtain ⟨t217, A690, H⟩ := H
                replace H : (if y214.length + t217.length < 140737488355328 then ((some (y214 ++ t217 : List Int)).bind fun y220 => ((spec_l4Pack.f k2 l0 x7_2).bind fun bt223 => (if y220.length + bt223.1.length < 140737488355328 then (spec_l4Pack.l1 k2 l0 bt223.2 (y220 ++ bt223.1) ((rd_T74 l0 x7_2).f1) (wrap64 (x13_2 + 1)) ((rd_T74 l0 a1).f0) ((rd_T74 l0 a1).f1) ((rd_T74 l0 a1).f2) ((rd_T74 l0 a1).f3) ((rd_T74 l0 a1).f4)) else (none)))) else (none)) = some (r1, r2) := H
                have A69 := Aside0.mk A690
                clear A690
                by_cases c70 : y214.length + t217.length < 140737488355328
                ·rw [if_pos c70] at H
                 have LMc70 := Aside0.mk c70
                 clear c70
                 obtain ⟨y220, hy220⟩ : ∃ y_ : List Int, y_ = (y214 ++ t217) := ⟨_, rfl⟩
                 replace H : ((spec_l4Pack.f k2 l0 x7_2).bind fun bt223 => (if y220.length + bt223.1.length < 140737488355328 then (spec_l4Pack.l1 k2 l0 bt223.2 (y220 ++ bt223.1) ((rd_T74 l0 x7_2).f1) (wrap64 (x13_2 + 1)) ((rd_T74 l0 a1).f0) ((rd_T74 l0 a1).f1) ((rd_T74 l0 a1).f2) ((rd_T74 l0 a1).f3) ((rd_T74 l0 a1).f4)) else (none))) = some (r1, r2) := by first|(rw [hy220];with_reducible exact H)|(have H2_ := (Option.bind_some _ _).symm.trans H;rw [hy220];with_reducible exact H2_)|(have H2_ := (Option.bind_some _ _).symm.trans H;with_reducible exact H2_)|with_reducible exact H|(rw [hy220];exact H)|exact H
                 have Ny220 := Aside0.mk hy220
                 clear hy220
                 replace H := Option.bind_eq_some_iff.mp H
                 obtain ⟨⟨t223, t224⟩, A710, H⟩ := H
                 replace H : (if y220.length + t223.length < 140737488355328 then (spec_l4Pack.l1 k2 l0 t224 (y220 ++ t223) ((rd_T74 l0 x7_2).f1) (wrap64 (x13_2 + 1)) ((rd_T74 l0 a1).f0) ((rd_T74 l0 a1).f1) ((rd_T74 l0 a1).f2) ((rd_T74 l0 a1).f3) ((rd_T74 l0 a1).f4)) else (none)) = some (r1, r2) := H
                 have A71 := Aside0.mk A710
                 clear A710
                 by_cases c72 : y220.length + t223.length < 140737488355328
                 ·rw [if_pos c72] at H
                  have LMc72 := Aside0.mk c72
                  clear c72
                  obtain ⟨y227, hy227⟩ : ∃ y_ : List Int, y_ = (y220 ++ t223) := ⟨_, rfl⟩
                  replace H : (spec_l4Pack.l1 k2 l0 t224 y227 ((rd_T74 l0 x7_2).f1) (wrap64 (x13_2 + 1)) ((rd_T74 l0 a1).f0) ((rd_T74 l0 a1).f1) ((rd_T74 l0 a1).f2) ((rd_T74 l0 a1).f3) ((rd_T74 l0 a1).f4)) = some (r1, r2) := by first|(rw [hy227];with_reducible exact H)|(have H2_ := (Option.bind_some _ _).symm.trans H;rw [hy227];with_reducible exact H2_)|(have H2_ := (Option.bind_some _ _).symm.trans H;with_reducible exact H2_)|with_reducible exact H|(rw [hy227];exact H)|exact H
                  have Ny227 := Aside0.mk hy227
                  clear hy227
                  have H' := Aside0.mk H
                  clear H
                  obtain ⟨hcz73_0, hcz73_1, hcz73_2, hcz73_3, hcz73_4, hfz73_0, hfz73_1, hfz73_2, hfz73_3, hfz73_4⟩ := blk5_ BK164.out
                  have p202 : 0 ≤ (x7_2 : Int) := of_decide_eq_true (by first|(with_reducible assumption)|assumption)
                  have q202 : x7_2 < (l0.length : Int) := of_decide_eq_true (by first|(with_reducible assumption)|assumption)
                  obtain ⟨ad202, e202, hx202_0, hx202_1, hx202_2, hx202_3, hx202_4⟩ := at_T74 HR0.out x7_2 p202 q202
                  obtain rfl : ad163 = ad202 := (by injection e202)
                  replace hx202_0 := (HB.out.cell (World.block_lt_of_cell? w _ hx202_0)).trans hx202_0
                  replace hx202_1 := (HB.out.cell (World.block_lt_of_cell? w _ hx202_1)).trans hx202_1
                  replace hx202_2 := (HB.out.cell (World.block_lt_of_cell? w _ hx202_2)).trans hx202_2
                  replace hx202_3 := (HB.out.cell (World.block_lt_of_cell? w _ hx202_3)).trans hx202_3
                  replace hx202_4 := (HB.out.cell (World.block_lt_of_cell? w _ hx202_4)).trans hx202_4
                  replace p202 := eq_true p202
                  replace q202 := eq_true q202
                  go_wp2_with (first|((with_reducible refine gate_dst (N := 14) rfl ?_);refine box_event ?hg (N := 14) ?hd (cs := #[.int .i64 0, .int .i64 0, .int .i64 0, .string (⟨#[]⟩ : ByteArray), .int .i64 0]) (t := 74) ?hr ?_;(case hd => rfl);(case hg => rfl);(case hr => first|(go_simp;done)|(go_simp;rfl));intro gb203 hg w74 hbox hb;have n0_ := Aside0.mk (Kd.R_below (by (with_reducible repeat (first|apply Kd.R_alloc|apply Kd.R_drewN|apply Kd.R_drew));exact HO_8.out) hb);have n1_ := Aside0.mk (blk_below (g := gb164) (o := .cells #[.int .i64 ((rd_T74 l0 a1).f0), .int .i64 ((rd_T74 l0 a1).f1), .int .i64 ((rd_T74 l0 a1).f2), .string ((rd_T74 l0 a1).f3), .int .i64 ((rd_T74 l0 a1).f4)] 74 (0, 0)) (by (with_reducible repeat (first|refine blk_drewN ?_ _|refine blk_drew ?_|refine blk_alloc ?_ _));exact BK164.out) hb);have n2_ := Aside0.mk (below_step (by repeat (first|(with_reducible first|exact HB.out|apply below_alloc|apply pw_below_drewN|apply below_drew1|refine below_set ?_ GE164.out)|exact HB.out)) hb);have n3_ := Aside0.mk (hbox);have n4_ := Aside0.mk ((by rw [hg];exact (below_size (by repeat (first|(with_reducible first|exact HB.out|apply below_alloc|apply pw_below_drewN|apply below_drew1|refine below_set ?_ GE164.out)|exact HB.out))) : w.heap.size ≤ gb203));have n5_ := Aside0.mk ((by rw [hg];exact (below_size (by repeat (first|(with_reducible first|exact HB.out|apply below_alloc|apply pw_below_drewN|apply below_drew1|refine below_set ?_ GE164.out)|exact HB.out))) : w.heap.size ≤ gb203));have n6_ := Aside0.mk ((by rw [hg];exact Nat.ne_of_lt (blk_lt (g := gb164) (o := .cells #[.int .i64 ((rd_T74 l0 a1).f0), .int .i64 ((rd_T74 l0 a1).f1), .int .i64 ((rd_T74 l0 a1).f2), .string ((rd_T74 l0 a1).f3), .int .i64 ((rd_T74 l0 a1).f4)] 74 (0, 0)) (by (with_reducible repeat (first|refine blk_drewN ?_ _|refine blk_drew ?_|refine blk_alloc ?_ _));exact BK164.out)) : gb164 ≠ gb203));have n7_ := Aside0.mk ((by rw [hg];exact Nat.ne_of_gt (blk_lt (g := gb164) (o := .cells #[.int .i64 ((rd_T74 l0 a1).f0), .int .i64 ((rd_T74 l0 a1).f1), .int .i64 ((rd_T74 l0 a1).f2), .string ((rd_T74 l0 a1).f3), .int .i64 ((rd_T74 l0 a1).f4)] 74 (0, 0)) (by (with_reducible repeat (first|refine blk_drewN ?_ _|refine blk_drew ?_|refine blk_alloc ?_ _));exact BK164.out)) : gb203 ≠ gb164));clear HO_8;clear BK164;clear HB;have HO_8 := n0_;have BK164 := n1_;have HB := n2_;have BK203 := n3_;have GW203 := n4_;have GE203 := n5_;have NB164_203 := n6_;have NB203_164 := n7_;clear n0_ n1_ n2_ n3_ n4_ n5_ n6_ n7_;clear hb hbox hg;have hnb75 := NB203_164.out;have hnc75 := NB164_203.out;obtain ⟨hcz76_0, hcz76_1, hcz76_2, hcz76_3, hcz76_4, hfz76_0, hfz76_1, hfz76_2, hfz76_3, hfz76_4⟩ := blk5_ BK203.out)|((with_reducible refine gate_builtin (b := .append) (xs := #[.tmp 116, .tmp 120]) rfl ?_);at_builtin;refine Kd.R_append (Kd.int .u8) (w0 := w) w.heap.size rfl (.tmp 116) (.tmp 120) 50 5 (.int .u8 0) 1 rfl Try.underlying50 info5 rfl (by decide) (by omega) u8 x8_2 (((rd_T74 l0 x7_2).f0) % 256) [.int .u8 (((rd_T74 l0 x7_2).f0) % 256)] (fun _ => True) (fun _ => False) rfl (by first|(go_simp;done)|(go_simp;rfl)) ?aP (fun _ hk => hk.elim) ?aF ?aO ?aB ?aS ?aL ?_;(case aP => exact rfl);(case aB => exact (by repeat (first|(with_reducible first|exact HB.out|apply below_alloc|apply pw_below_drewN|apply below_drew1|refine below_set ?_ GE164.out|refine below_set ?_ GE203.out)|exact HB.out)));(case aF => exact (fun _ _ => trivial));(case aO => exact (by (with_reducible repeat (first|apply Kd.R_alloc|apply Kd.R_drewN|apply Kd.R_drew));exact Kd.R_mono (Kd.R_far (p := ⟨gb203, 4, none⟩) (Kd.R_far (p := ⟨gb203, 3, none⟩) (Kd.R_far (p := ⟨gb203, 2, none⟩) (Kd.R_far (p := ⟨gb203, 1, none⟩) (Kd.R_far (p := ⟨gb203, 0, none⟩) (Kd.R_types HO_8.out BK203.out (by decide)) (fun _ hk => hk.2) (.int .i64 ((rd_T74 l0 x7_2).f0))) (fun _ hk => hk.2) (.int .i64 ((rd_T74 l0 x7_2).f1))) (fun _ hk => hk.2) (.int .i64 ((rd_T74 l0 x7_2).f2))) (fun _ hk => hk.2) (.string ((rd_T74 l0 x7_2).f3))) (fun _ hk => hk.2) (.int .i64 ((rd_T74 l0 x7_2).f4))) (fun _ hk => trivial)));(case aS => exact (below_size (by repeat (first|(with_reducible first|exact HB.out|apply below_alloc|apply pw_below_drewN|apply below_drew1|refine below_set ?_ GE164.out|refine below_set ?_ GE203.out)|exact HB.out))));(case aL => have := LMc68.out;omega);intro v215 w77 ho hb hg hat;rw [← Ny214.out] at ho;have n0_ := Aside0.mk (blk_grown (g := gb164) (o := .cells #[.int .i64 ((rd_T74 l0 a1).f0), .int .i64 ((rd_T74 l0 a1).f1), .int .i64 ((rd_T74 l0 a1).f2), .string ((rd_T74 l0 a1).f3), .int .i64 ((rd_T74 l0 a1).f4)] 74 (0, 0)) (by (with_reducible repeat (first|refine blk_drewN ?_ _|refine blk_drew ?_|refine blk_alloc ?_ _));refine blk_far ?_ NB164_203.out _;(with_reducible repeat (first|refine blk_drewN ?_ _|refine blk_drew ?_|refine blk_alloc ?_ _));refine blk_far ?_ NB164_203.out _;(with_reducible repeat (first|refine blk_drewN ?_ _|refine blk_drew ?_|refine blk_alloc ?_ _));refine blk_far ?_ NB164_203.out _;(with_reducible repeat (first|refine blk_drewN ?_ _|refine blk_drew ?_|refine blk_alloc ?_ _));refine blk_far ?_ NB164_203.out _;(with_reducible repeat (first|refine blk_drewN ?_ _|refine blk_drew ?_|refine blk_alloc ?_ _));refine blk_far ?_ NB164_203.out _;(with_reducible repeat (first|refine blk_drewN ?_ _|refine blk_drew ?_|refine blk_alloc ?_ _));exact BK164.out) hg (Kd.R_ne HO_8.out BK164.out (by decide)));have n1_ := Aside0.mk (blk_grown (g := gb203) (o := .cells #[.int .i64 ((rd_T74 l0 x7_2).f0), .int .i64 ((rd_T74 l0 x7_2).f1), .int .i64 ((rd_T74 l0 x7_2).f2), .string ((rd_T74 l0 x7_2).f3), .int .i64 ((rd_T74 l0 x7_2).f4)] 74 (0, 0)) (by (with_reducible repeat (first|refine blk_drewN ?_ _|refine blk_drew ?_|refine blk_alloc ?_ _));refine blk_put (cs := #[.int .i64 ((rd_T74 l0 x7_2).f0), .int .i64 ((rd_T74 l0 x7_2).f1), .int .i64 ((rd_T74 l0 x7_2).f2), .string ((rd_T74 l0 x7_2).f3), .int .i64 0]) ?_ 4 _ rfl;(with_reducible repeat (first|refine blk_drewN ?_ _|refine blk_drew ?_|refine blk_alloc ?_ _));refine blk_put (cs := #[.int .i64 ((rd_T74 l0 x7_2).f0), .int .i64 ((rd_T74 l0 x7_2).f1), .int .i64 ((rd_T74 l0 x7_2).f2), .string (⟨#[]⟩ : ByteArray), .int .i64 0]) ?_ 3 _ rfl;(with_reducible repeat (first|refine blk_drewN ?_ _|refine blk_drew ?_|refine blk_alloc ?_ _));refine blk_put (cs := #[.int .i64 ((rd_T74 l0 x7_2).f0), .int .i64 ((rd_T74 l0 x7_2).f1), .int .i64 0, .string (⟨#[]⟩ : ByteArray), .int .i64 0]) ?_ 2 _ rfl;(with_reducible repeat (first|refine blk_drewN ?_ _|refine blk_drew ?_|refine blk_alloc ?_ _));refine blk_put (cs := #[.int .i64 ((rd_T74 l0 x7_2).f0), .int .i64 0, .int .i64 0, .string (⟨#[]⟩ : ByteArray), .int .i64 0]) ?_ 1 _ rfl;(with_reducible repeat (first|refine blk_drewN ?_ _|refine blk_drew ?_|refine blk_alloc ?_ _));refine blk_put (cs := #[.int .i64 0, .int .i64 0, .int .i64 0, .string (⟨#[]⟩ : ByteArray), .int .i64 0]) ?_ 0 _ rfl;(with_reducible repeat (first|refine blk_drewN ?_ _|refine blk_drew ?_|refine blk_alloc ?_ _));exact BK203.out) hg (Kd.R_ne HO_8.out BK203.out (by decide)));have n2_ := Aside0.mk (hb);have n3_ := Aside0.mk (ho);clear BK164;clear BK203;clear HB;clear HO_8;have BK164 := n0_;have BK203 := n1_;have HB := n2_;have HO216 := n3_;clear n0_ n1_ n2_ n3_;clear ho hb hg hat;obtain ⟨hcz78_0, hcz78_1, hcz78_2, hcz78_3, hcz78_4, hfz78_0, hfz78_1, hfz78_2, hfz78_3, hfz78_4⟩ := blk5_ BK203.out)|((with_reducible refine gate_callee (f := 101) rfl ?_);refine goesL_ (some 125) rfl rfl Try.func101 (by kernel_rfl) rfl #[.int .i64 ((rd_T74 l0 x7_2).f1)] rfl (by (try simp only [List.map_toArray, List.map_cons, List.map_nil]);first|done|rfl|(simp only [List.length_drop, List.length_take];rfl)) ?_;(with_reducible refine (spec_ZigPut.calls k2 ((rd_T74 l0 x7_2).f1) t217 _ A69.out).mono ?_);rintro e w79 ⟨v218, rfl, ho0, hb⟩;refine ⟨_, rfl, ?_⟩;have n0_ := Aside0.mk (Kd.R_elder' (by (with_reducible repeat (first|apply Kd.R_alloc|apply Kd.R_drewN|apply Kd.R_drew));exact HO216.out) (Kd.R_base ho0) hb);have n1_ := Aside0.mk (Kd.R_lower (Kd.R_new' ho0 (Kd.R_lt (by (with_reducible repeat (first|apply Kd.R_alloc|apply Kd.R_drewN|apply Kd.R_drew));exact HO216.out))) (below_size (by repeat (first|(with_reducible first|exact HB.out|apply below_alloc|apply pw_below_drewN|apply below_drew1|refine below_set ?_ GE164.out|refine below_set ?_ GE203.out)|exact HB.out))));have n2_ := Aside0.mk (blk_below (g := gb164) (o := .cells #[.int .i64 ((rd_T74 l0 a1).f0), .int .i64 ((rd_T74 l0 a1).f1), .int .i64 ((rd_T74 l0 a1).f2), .string ((rd_T74 l0 a1).f3), .int .i64 ((rd_T74 l0 a1).f4)] 74 (0, 0)) (by (with_reducible repeat (first|refine blk_drewN ?_ _|refine blk_drew ?_|refine blk_alloc ?_ _));exact BK164.out) hb);have n3_ := Aside0.mk (blk_below (g := gb203) (o := .cells #[.int .i64 ((rd_T74 l0 x7_2).f0), .int .i64 ((rd_T74 l0 x7_2).f1), .int .i64 ((rd_T74 l0 x7_2).f2), .string ((rd_T74 l0 x7_2).f3), .int .i64 ((rd_T74 l0 x7_2).f4)] 74 (0, 0)) (by (with_reducible repeat (first|refine blk_drewN ?_ _|refine blk_drew ?_|refine blk_alloc ?_ _));exact BK203.out) hb);have n4_ := Aside0.mk (below_step (by repeat (first|(with_reducible first|exact HB.out|apply below_alloc|apply pw_below_drewN|apply below_drew1|refine below_set ?_ GE164.out|refine below_set ?_ GE203.out)|exact HB.out)) hb);clear HO216;clear BK164;clear BK203;clear HB;have HO216 := n0_;have HO219 := n1_;have BK164 := n2_;have BK203 := n3_;have HB := n4_;clear n0_ n1_ n2_ n3_ n4_;(try clear hb);(try clear hb2);(try clear hk);(try clear hi);(try clear ho0);obtain ⟨Ao81, co81, eo81⟩ := Kd.R_slice HO219.out;subst eo81)|((with_reducible refine gate_builtin (b := .append) (xs := #[.tmp 122, .tmp 125]) rfl ?_);at_builtin;refine Kd.R_append_rows (Kd.int .u8) (w0 := w) w.heap.size rfl (.tmp 122) (.tmp 125) 50 5 (.int .u8 0) 1 rfl Try.underlying50 info5 rfl (by decide) (by omega) v215 y214 t217 _ _ _ (fun k_ => some k_ ≠ (.slice Ao81 t217.length co81 : Value).ownBlock) (fun _ => False) rfl rfl ?aO ?aR (fun _ _ h => h) (fun _ h => h.elim) ?aF ?aB ?aS ?aL ?_;(case aR => repeat (first|exact (Kd.R_reads' HO219.out).2.2|(with_reducible refine Kd.C_alloc ?_ _)|(with_reducible refine Kd.C_drewN ?_ _)|(with_reducible refine Kd.C_drew ?_)));(case aB => exact (by repeat (first|(with_reducible first|exact HB.out|apply below_alloc|apply pw_below_drewN|apply below_drew1|refine below_set ?_ GE164.out|refine below_set ?_ GE203.out)|exact HB.out)));(case aF => exact (fun k_ hk => Kd.fresh' (Kd.R_lt (by (with_reducible repeat (first|apply Kd.R_alloc|apply Kd.R_drewN|apply Kd.R_drew));exact HO219.out)) k_ hk));(case aO => exact (by (with_reducible repeat (first|apply Kd.R_alloc|apply Kd.R_drewN|apply Kd.R_drew));exact Kd.R_mono HO216.out (fun _ hk => hk.2)));(case aS => exact (below_size (by repeat (first|(with_reducible first|exact HB.out|apply below_alloc|apply pw_below_drewN|apply below_drew1|refine below_set ?_ GE164.out|refine below_set ?_ GE203.out)|exact HB.out))));(case aL => have := LMc70.out;omega);intro v221 w80 ho hb hg hat;rw [← Ny220.out] at ho;have n0_ := Aside0.mk (blk_grown (g := gb164) (o := .cells #[.int .i64 ((rd_T74 l0 a1).f0), .int .i64 ((rd_T74 l0 a1).f1), .int .i64 ((rd_T74 l0 a1).f2), .string ((rd_T74 l0 a1).f3), .int .i64 ((rd_T74 l0 a1).f4)] 74 (0, 0)) (by (with_reducible repeat (first|refine blk_drewN ?_ _|refine blk_drew ?_|refine blk_alloc ?_ _));exact BK164.out) hg (Kd.R_ne HO216.out BK164.out (by decide)));have n1_ := Aside0.mk (blk_grown (g := gb203) (o := .cells #[.int .i64 ((rd_T74 l0 x7_2).f0), .int .i64 ((rd_T74 l0 x7_2).f1), .int .i64 ((rd_T74 l0 x7_2).f2), .string ((rd_T74 l0 x7_2).f3), .int .i64 ((rd_T74 l0 x7_2).f4)] 74 (0, 0)) (by (with_reducible repeat (first|refine blk_drewN ?_ _|refine blk_drew ?_|refine blk_alloc ?_ _));exact BK203.out) hg (Kd.R_ne HO216.out BK203.out (by decide)));have n2_ := Aside0.mk (Kd.R_after (ok := (fun _ => True)) (by (with_reducible repeat (first|apply Kd.R_alloc|apply Kd.R_drewN|apply Kd.R_drew));exact HO219.out) hg hat);have n3_ := Aside0.mk (hb);have n4_ := Aside0.mk (ho);clear BK164;clear BK203;clear HO219;clear HB;clear HO216;have BK164 := n0_;have BK203 := n1_;have HO219 := n2_;have HB := n3_;have HO222 := n4_;clear n0_ n1_ n2_ n3_ n4_;clear ho hb hg hat;obtain ⟨hcz82_0, hcz82_1, hcz82_2, hcz82_3, hcz82_4, hfz82_0, hfz82_1, hfz82_2, hfz82_3, hfz82_4⟩ := blk5_ BK203.out)|((with_reducible refine gate_callee (f := 87) rfl ?_);refine goesL_ (some 132) rfl rfl Try.func87 (by kernel_rfl) rfl #[.slice (some ad163) l0.length c0, .int .i64 x7_2] rfl (by (try simp only [List.map_toArray, List.map_cons, List.map_nil]);first|done|rfl|(simp only [List.length_drop, List.length_take];rfl)) ?_;(with_reducible refine (ih k2 (by have := HJ4.out;have := HK2.out;omega) _ _ l0 x7_2 t223 t224 _ ?side1 ?side2 A71.out).mono ?_);(case side1 => repeat (first|exact (Kd.C_below HR0.out HB.out)|(with_reducible refine Kd.C_alloc ?_ _)|(with_reducible refine Kd.C_drewN ?_ _)|(with_reducible refine Kd.C_drew ?_)));(case side2 => exact HC0.out);rintro e w83 ⟨v225, rfl, ho0, hb⟩;refine ⟨_, rfl, ?_⟩;have n0_ := Aside0.mk (Kd.R_elder' (by (with_reducible repeat (first|apply Kd.R_alloc|apply Kd.R_drewN|apply Kd.R_drew));exact HO219.out) (Kd.R_base ho0) hb);have n1_ := Aside0.mk (Kd.R_elder' (by (with_reducible repeat (first|apply Kd.R_alloc|apply Kd.R_drewN|apply Kd.R_drew));exact HO222.out) (Kd.R_base ho0) hb);have n2_ := Aside0.mk (Kd.R_lower (Kd.R_new' (Kd.R_new' ho0 (Kd.R_lt (by (with_reducible repeat (first|apply Kd.R_alloc|apply Kd.R_drewN|apply Kd.R_drew));exact HO219.out))) (Kd.R_lt (by (with_reducible repeat (first|apply Kd.R_alloc|apply Kd.R_drewN|apply Kd.R_drew));exact HO222.out))) (below_size (by repeat (first|(with_reducible first|exact HB.out|apply below_alloc|apply pw_below_drewN|apply below_drew1|refine below_set ?_ GE164.out|refine below_set ?_ GE203.out)|exact HB.out))));have n3_ := Aside0.mk (blk_below (g := gb164) (o := .cells #[.int .i64 ((rd_T74 l0 a1).f0), .int .i64 ((rd_T74 l0 a1).f1), .int .i64 ((rd_T74 l0 a1).f2), .string ((rd_T74 l0 a1).f3), .int .i64 ((rd_T74 l0 a1).f4)] 74 (0, 0)) (by (with_reducible repeat (first|refine blk_drewN ?_ _|refine blk_drew ?_|refine blk_alloc ?_ _));exact BK164.out) hb);have n4_ := Aside0.mk (blk_below (g := gb203) (o := .cells #[.int .i64 ((rd_T74 l0 x7_2).f0), .int .i64 ((rd_T74 l0 x7_2).f1), .int .i64 ((rd_T74 l0 x7_2).f2), .string ((rd_T74 l0 x7_2).f3), .int .i64 ((rd_T74 l0 x7_2).f4)] 74 (0, 0)) (by (with_reducible repeat (first|refine blk_drewN ?_ _|refine blk_drew ?_|refine blk_alloc ?_ _));exact BK203.out) hb);have n5_ := Aside0.mk (below_step (by repeat (first|(with_reducible first|exact HB.out|apply below_alloc|apply pw_below_drewN|apply below_drew1|refine below_set ?_ GE164.out|refine below_set ?_ GE203.out)|exact HB.out)) hb);clear HO219;clear HO222;clear BK164;clear BK203;clear HB;have HO219 := n0_;have HO222 := n1_;have HO226 := n2_;have BK164 := n3_;have BK203 := n4_;have HB := n5_;clear n0_ n1_ n2_ n3_ n4_ n5_;(try clear hb);(try clear hb2);(try clear hk);(try clear hi);(try clear ho0);obtain ⟨Ao85, co85, eo85⟩ := Kd.R_slice HO226.out;subst eo85)|((with_reducible refine gate_builtin (b := .append) (xs := #[.tmp 135, .tmp 136]) rfl ?_);at_builtin;refine Kd.R_append_rows (Kd.int .u8) (w0 := w) w.heap.size rfl (.tmp 135) (.tmp 136) 50 5 (.int .u8 0) 1 rfl Try.underlying50 info5 rfl (by decide) (by omega) v221 y220 t223 _ _ _ (fun k_ => some k_ ≠ (.slice Ao81 t217.length co81 : Value).ownBlock ∧ some k_ ≠ (.slice Ao85 t223.length co85 : Value).ownBlock) (fun _ => False) rfl rfl ?aO ?aR (fun _ _ h => h) (fun _ h => h.elim) ?aF ?aB ?aS ?aL ?_;(case aR => repeat (first|exact (Kd.R_reads' HO226.out).2.2|(with_reducible refine Kd.C_alloc ?_ _)|(with_reducible refine Kd.C_drewN ?_ _)|(with_reducible refine Kd.C_drew ?_)));(case aB => exact (by repeat (first|(with_reducible first|exact HB.out|apply below_alloc|apply pw_below_drewN|apply below_drew1|refine below_set ?_ GE164.out|refine below_set ?_ GE203.out)|exact HB.out)));(case aF => exact (fun k_ hk => ⟨Kd.fresh' (Kd.R_lt (by (with_reducible repeat (first|apply Kd.R_alloc|apply Kd.R_drewN|apply Kd.R_drew));exact HO219.out)) k_ hk, Kd.fresh' (Kd.R_lt (by (with_reducible repeat (first|apply Kd.R_alloc|apply Kd.R_drewN|apply Kd.R_drew));exact HO226.out)) k_ hk⟩));(case aO => exact (by (with_reducible repeat (first|apply Kd.R_alloc|apply Kd.R_drewN|apply Kd.R_drew));exact HO222.out));(case aS => exact (below_size (by repeat (first|(with_reducible first|exact HB.out|apply below_alloc|apply pw_below_drewN|apply below_drew1|refine below_set ?_ GE164.out|refine below_set ?_ GE203.out)|exact HB.out))));(case aL => have := LMc72.out;omega);intro v228 w84 ho hb hg hat;rw [← Ny227.out] at ho;have n0_ := Aside0.mk (blk_grown (g := gb164) (o := .cells #[.int .i64 ((rd_T74 l0 a1).f0), .int .i64 ((rd_T74 l0 a1).f1), .int .i64 ((rd_T74 l0 a1).f2), .string ((rd_T74 l0 a1).f3), .int .i64 ((rd_T74 l0 a1).f4)] 74 (0, 0)) (by (with_reducible repeat (first|refine blk_drewN ?_ _|refine blk_drew ?_|refine blk_alloc ?_ _));exact BK164.out) hg (Kd.R_ne HO222.out BK164.out (by decide)));have n1_ := Aside0.mk (blk_grown (g := gb203) (o := .cells #[.int .i64 ((rd_T74 l0 x7_2).f0), .int .i64 ((rd_T74 l0 x7_2).f1), .int .i64 ((rd_T74 l0 x7_2).f2), .string ((rd_T74 l0 x7_2).f3), .int .i64 ((rd_T74 l0 x7_2).f4)] 74 (0, 0)) (by (with_reducible repeat (first|refine blk_drewN ?_ _|refine blk_drew ?_|refine blk_alloc ?_ _));exact BK203.out) hg (Kd.R_ne HO222.out BK203.out (by decide)));have n2_ := Aside0.mk (Kd.R_after (ok := (fun k_ => some k_ ≠ (.slice Ao85 t223.length co85 : Value).ownBlock)) (by (with_reducible repeat (first|apply Kd.R_alloc|apply Kd.R_drewN|apply Kd.R_drew));exact Kd.R_mono HO219.out (fun _ hk => ⟨hk.2, hk.1.2⟩)) hg hat);have n3_ := Aside0.mk (Kd.R_after (ok := (fun k_ => some k_ ≠ (.slice Ao81 t217.length co81 : Value).ownBlock)) (by (with_reducible repeat (first|apply Kd.R_alloc|apply Kd.R_drewN|apply Kd.R_drew));exact Kd.R_mono HO226.out (fun _ hk => ⟨hk.1.2, hk.2⟩)) hg hat);have n4_ := Aside0.mk (hb);have n5_ := Aside0.mk (ho);clear BK164;clear BK203;clear HO219;clear HO226;clear HB;clear HO222;have BK164 := n0_;have BK203 := n1_;have HO219 := n2_;have HO226 := n3_;have HB := n4_;have HO229 := n5_;clear n0_ n1_ n2_ n3_ n4_ n5_;clear ho hb hg hat))
                  go_roundg k2
                  case measure => have := HJ4.out;have := HK2.out;omega
                  case rel => exact ⟨(t224), (y227), ((rd_T74 l0 x7_2).f1), (wrap64 (x13_2 + 1)), (by first|rfl|(simp;done)|(simp [*];done)), (by first|rfl|(simp;done)|(simp [*];done)), (by first|rfl|(simp;done)|(simp [*];done)), H', ⟨by have := HJ4.out;have := HK2.out;omega⟩, ⟨by (with_reducible repeat (first|apply Kd.R_alloc|apply Kd.R_drewN|apply Kd.R_drew));exact Kd.R_mono HO229.out (fun _ hk => trivial)⟩, ⟨by (with_reducible repeat (first|refine blk_drewN ?_ _|refine blk_drew ?_|refine blk_alloc ?_ _));exact BK164.out⟩, ⟨by repeat (first|(with_reducible first|exact HB.out|apply below_alloc|apply pw_below_drewN|apply below_drew1|refine below_set ?_ GE164.out|refine below_set ?_ GE203.out)|exact HB.out)⟩⟩
                 ·rw [if_neg c72] at H
                  exact absurd H (by simp)
                ·rw [if_neg c70] at H
                 exact absurd H (by simp)
               ·rw [if_neg c68] at H
                exact absurd H (by simp)
             ·rw [if_neg c54] at H
              exact absurd H (by simp)
            ·rw [if_neg c53] at H
             exact absurd H (by simp)
           ·rw [if_neg c52] at H
            have c52b0 : decide (x13_2 < ((rd_T74 l0 a1).f4)) = false := decide_eq_false c52
            clear c52
            by_cases c86 : x8_2.length < 140737488355328
            ·rw [if_pos c86] at H
             have LMc86 := Aside0.mk c86
             clear c86
             obtain ⟨y199, hy199⟩ : ∃ y_ : List Int, y_ = (x8_2 ++ [0]) := ⟨_, rfl⟩
             replace H : (some (y199, x7_2)) = some (r1, r2) := by first|(rw [hy199];with_reducible exact H)|(have H2_ := (Option.bind_some _ _).symm.trans H;rw [hy199];with_reducible exact H2_)|(have H2_ := (Option.bind_some _ _).symm.trans H;with_reducible exact H2_)|with_reducible exact H|(rw [hy199];exact H)|exact H
             have Ny199 := Aside0.mk hy199
             clear hy199
             simp only [Option.some.injEq, Prod.mk.injEq] at H
             obtain ⟨rfl, rfl⟩ := H
             obtain ⟨hcz87_0, hcz87_1, hcz87_2, hcz87_3, hcz87_4, hfz87_0, hfz87_1, hfz87_2, hfz87_3, hfz87_4⟩ := blk5_ BK164.out
             go_wp2_with (first|((with_reducible refine gate_builtin (b := .append) (xs := #[.tmp 139, .tmp 140]) rfl ?_);at_builtin;refine Kd.R_append (Kd.int .u8) (w0 := w) w.heap.size rfl (.tmp 139) (.tmp 140) 50 5 (.int .u8 0) 1 rfl Try.underlying50 info5 rfl (by decide) (by omega) u8 x8_2 0 [.int .u8 0] (fun _ => True) (fun _ => False) rfl rfl ?aP (fun _ hk => hk.elim) ?aF ?aO ?aB ?aS ?aL ?_;(case aP => exact rfl);(case aB => exact (by repeat (first|(with_reducible first|exact HB.out|apply below_alloc|apply pw_below_drewN|apply below_drew1|refine below_set ?_ GE164.out)|exact HB.out)));(case aF => exact (fun _ _ => trivial));(case aO => exact (by (with_reducible repeat (first|apply Kd.R_alloc|apply Kd.R_drewN|apply Kd.R_drew));exact HO_8.out));(case aS => exact (below_size (by repeat (first|(with_reducible first|exact HB.out|apply below_alloc|apply pw_below_drewN|apply below_drew1|refine below_set ?_ GE164.out)|exact HB.out))));(case aL => have := LMc86.out;omega);intro v200 w88 ho hb hg hat;rw [← Ny199.out] at ho;have n0_ := Aside0.mk (blk_grown (g := gb164) (o := .cells #[.int .i64 ((rd_T74 l0 a1).f0), .int .i64 ((rd_T74 l0 a1).f1), .int .i64 ((rd_T74 l0 a1).f2), .string ((rd_T74 l0 a1).f3), .int .i64 ((rd_T74 l0 a1).f4)] 74 (0, 0)) (by (with_reducible repeat (first|refine blk_drewN ?_ _|refine blk_drew ?_|refine blk_alloc ?_ _));exact BK164.out) hg (Kd.R_ne HO_8.out BK164.out (by decide)));have n1_ := Aside0.mk (hb);have n2_ := Aside0.mk (ho);clear BK164;clear HB;clear HO_8;have BK164 := n0_;have HB := n1_;have HO201 := n2_;clear n0_ n1_ n2_;clear ho hb hg hat))
             go_ret2
             exact ⟨_, by first|rfl|(simp [errW_none, errW_some] <;> rfl)|(simp [*, errW_none, errW_some] <;> rfl)|(exfalso;simp only [Bool.not_eq_true', Bool.not_eq_false', decide_eq_false_iff_not, decide_eq_true_eq, decide_eq_decide, Int.not_lt, Int.not_le] at *;omega), by (with_reducible repeat (first|apply Kd.R_alloc|apply Kd.R_drewN|apply Kd.R_drew));exact HO201.out, by repeat (first|(with_reducible first|exact HB.out|apply below_alloc|apply pw_below_drewN|apply below_drew1|refine below_set ?_ GE164.out)|exact HB.out)⟩
            ·rw [if_neg c86] at H
             exact absurd H (by simp)
        ·rw [if_neg c51] at H
         have c51b0 : (((rd_T74 l0 a1).f0) == 12) = false := beq_eq_false_iff_ne.mpr c51
         have c51b1 : (((rd_T74 l0 a1).f0) != 12) = true := bne_iff_ne.mpr c51
         simp only [Option.some.injEq, Prod.mk.injEq] at H
         obtain ⟨rfl, rfl⟩ := H
         go_wp2
         go_ret2
         exact ⟨_, by first|rfl|(simp [errW_none, errW_some] <;> rfl)|(simp [*, errW_none, errW_some] <;> rfl)|(exfalso;simp only [Bool.not_eq_true', Bool.not_eq_false', decide_eq_false_iff_not, decide_eq_true_eq, decide_eq_decide, Int.not_lt, Int.not_le] at *;omega), by (with_reducible repeat (first|apply Kd.R_alloc|apply Kd.R_drewN|apply Kd.R_drew));exact HO_8.out, by repeat (first|(with_reducible first|exact HB.out|apply below_alloc|apply pw_below_drewN|apply below_drew1|refine below_set ?_ GE164.out)|exact HB.out)⟩
  ·rw [if_neg c4] at H
   exact absurd H (by simp)
 ·rw [if_neg c3] at H
  exact absurd H (by simp)

end Go.Proofs.Ytjbghmdbceekiaa.PFnExactTreePack
