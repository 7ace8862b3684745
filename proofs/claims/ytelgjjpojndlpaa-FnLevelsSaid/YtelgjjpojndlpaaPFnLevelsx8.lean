-- Written by a program of this seat's prover (wip/myprint.sh) over the loaded functions.
import Derived.Test.YtelgjjpojndlpaaPFnLevelsx0
import Derived.Test.YtelgjjpojndlpaaPFnLevelsx5
import Derived.Test.YtelgjjpojndlpaaPFnLevelsx6
import Derived.Test.YtelgjjpojndlpaaPFnLevelsx7
namespace Go.Proofs.Ytelgjjpojndlpaa.PFnLevels
open Go.RowKit Go.Proofs.YtelgjjpojndlpaaW.PrintWords Go.Proofs.YtelgjjpojndlpaaW.PrintLast Go.Proofs.YtelgjjpojndlpaaW.PrintMore
attribute [local go_sem] max2_int min2_int max_two min_two max_three min_three max_four min_four   -- for this text's walks alone
set_option linter.unusedVariables false
set_option linter.unusedSimpArgs false

mutual
def spec_RunPack.j0 : Nat → List Int → Int → List Int → Bool → Option (List Int × Bool)
 | 0, _, _, _, _ => none
 | k + 1, x0, x1, x6, x21 => if x21 = true then (some (x6, false)) else (spec_RunPack.l0 k x0 x1 x6 0)
def spec_RunPack.l0 : Nat → List Int → Int → List Int → Int → Option (List Int × Bool)
 | 0, _, _, _, _ => none
 | k + 1, x0, x1, x6, x7 => if x7 < (x0.length : Int) then (if 0 ≤ x7 then (if (rd x0 x7) < 0 then (some ((([] : List Int)), false)) else (if 0 ≤ x1 then (if (shr .i64 (rd x0 x7) x1) = 0 then (spec_RunPack.l0 k x0 x1 x6 (wrap64 (x7 + 1))) else (some ((([] : List Int)), false))) else (none))) else (none)) else (spec_RunPack.l1 k x0 x1 x6 0)
def spec_RunPack.l1 : Nat → List Int → Int → List Int → Int → Option (List Int × Bool)
 | 0, _, _, _, _ => none
 | k + 1, x0, x1, x6, x8 => if x8 < (x0.length : Int) then ((spec_l8Alike.f k x0 x8).bind fun t336 => (if t336 ≥ 8 then ((spec_UvarPut.f k (wrap64 (2 * t336))).bind fun t337 => (if x6.length + t337.length < 140737488355328 then ((some (x6 ++ t337 : List Int)).bind fun y340 => (if x1 > 0 then (if 0 ≤ x8 then ((spec_BitsSize.f 1 x1).bind fun t344 => ((spec_WordPut.f k (rd x0 x8) t344).bind fun t345 => (if y340.length + t345.length < 140737488355328 then (spec_RunPack.l1 k x0 x1 (y340 ++ t345) (wrap64 (x8 + t336))) else (none)))) else (none)) else (spec_RunPack.l1 k x0 x1 y340 (wrap64 (x8 + t336))))) else (none))) else (spec_RunPack.l2 k x0 x1 x6 x8 (([] : List Int))))) else (some (x6, true))
def spec_RunPack.l2 : Nat → List Int → Int → List Int → Int → List Int → Option (List Int × Bool)
 | 0, _, _, _, _, _ => none
 | k + 1, x0, x1, x6, x8, x10 => if x8 < (x0.length : Int) then (if (x10.length : Int) = 0 then (spec_RunPack.j4 k x0 x1 x6 x8 x10 true) else ((spec_l8Alike.f k x0 x8).bind fun t354 => (spec_RunPack.j4 k x0 x1 x6 x8 x10 (decide (t354 < 8))))) else (spec_RunPack.j4 k x0 x1 x6 x8 x10 false)
def spec_RunPack.j4 : Nat → List Int → Int → List Int → Int → List Int → Bool → Option (List Int × Bool)
 | 0, _, _, _, _, _, _ => none
 | k + 1, x0, x1, x6, x8, x10, x87 => if x87 = true then (spec_RunPack.l3 k x0 x1 x6 x8 x10 0) else ((spec_UvarPut.f k (wrap64 ((wrap64 (2 * (wrap64 ((x10.length : Int) / 8)))) + 1))).bind fun t355 => (if x6.length + t355.length < 140737488355328 then ((some (x6 ++ t355 : List Int)).bind fun y358 => ((spec_l8Bits.f k x10 x1).bind fun t361 => (if y358.length + t361.length < 140737488355328 then (spec_RunPack.l1 k x0 x1 (y358 ++ t361) x8) else (none)))) else (none)))
def spec_RunPack.l3 : Nat → List Int → Int → List Int → Int → List Int → Int → Option (List Int × Bool)
 | 0, _, _, _, _, _, _ => none
 | k + 1, x0, x1, x6, x8, x10, x11 => if x11 < 8 then (if (wrap64 (x8 + x11)) < (x0.length : Int) then (if 0 ≤ (wrap64 (x8 + x11)) then (if x10.length < 17592186044416 then (spec_RunPack.l3 k x0 x1 x6 x8 (x10 ++ [rd x0 (wrap64 (x8 + x11))]) (wrap64 (x11 + 1))) else (none)) else (none)) else (if x10.length < 17592186044416 then (spec_RunPack.l3 k x0 x1 x6 x8 (x10 ++ [0]) (wrap64 (x11 + 1))) else (none))) else (spec_RunPack.l2 k x0 x1 x6 (wrap64 (x8 + 8)) x10)
end
def spec_RunPack.f (k : Nat) (l0 : List Int) (a1 : Int) : Option (List Int × Bool) := (some (([] : List Int) : List Int)).bind fun y324 => ((spec_l8Width.f a1).bind fun t327 => (if t327 = true then (spec_RunPack.j0 k l0 a1 y324 (decide ((l0.length : Int) > 2000))) else (spec_RunPack.j0 k l0 a1 y324 true)))
theorem spec_RunPack.mono_l : ∀ k, (∀ y0 y1 y2 y3, LeO (spec_RunPack.j0 k y0 y1 y2 y3) (spec_RunPack.j0 (k + 1) y0 y1 y2 y3)) ∧ (∀ y0 y1 y2 y3, LeO (spec_RunPack.l0 k y0 y1 y2 y3) (spec_RunPack.l0 (k + 1) y0 y1 y2 y3)) ∧ (∀ y0 y1 y2 y3, LeO (spec_RunPack.l1 k y0 y1 y2 y3) (spec_RunPack.l1 (k + 1) y0 y1 y2 y3)) ∧ (∀ y0 y1 y2 y3 y4, LeO (spec_RunPack.l2 k y0 y1 y2 y3 y4) (spec_RunPack.l2 (k + 1) y0 y1 y2 y3 y4)) ∧ (∀ y0 y1 y2 y3 y4 y5, LeO (spec_RunPack.j4 k y0 y1 y2 y3 y4 y5) (spec_RunPack.j4 (k + 1) y0 y1 y2 y3 y4 y5)) ∧ (∀ y0 y1 y2 y3 y4 y5, LeO (spec_RunPack.l3 k y0 y1 y2 y3 y4 y5) (spec_RunPack.l3 (k + 1) y0 y1 y2 y3 y4 y5))
 | 0 => ⟨fun _ _ _ _ r h => by simp [spec_RunPack.j0] at h, fun _ _ _ _ r h => by simp [spec_RunPack.l0] at h, fun _ _ _ _ r h => by simp [spec_RunPack.l1] at h, fun _ _ _ _ _ r h => by simp [spec_RunPack.l2] at h, fun _ _ _ _ _ _ r h => by simp [spec_RunPack.j4] at h, fun _ _ _ _ _ _ r h => by simp [spec_RunPack.l3] at h⟩
 | k + 1 => by
  obtain ⟨ih0, ih1, ih2, ih3, ih4, ih5⟩ := spec_RunPack.mono_l k
  refine ⟨?_, ?_, ?_, ?_, ?_, ?_⟩
  ·intro y0 y1 y2 y3
   unfold spec_RunPack.j0
   repeat' first
   |(with_reducible exact ih0 _ _ _ _)
   |(with_reducible exact ih1 _ _ _ _)
   |(with_reducible exact ih2 _ _ _ _)
   |(with_reducible exact ih3 _ _ _ _ _)
   |(with_reducible exact ih4 _ _ _ _ _ _)
   |(with_reducible exact ih5 _ _ _ _ _ _)
   |(with_reducible exact spec_UvarPut.mono _ _)
   |(with_reducible exact spec_WordPut.mono _ _ _)
   |(with_reducible exact spec_l8Alike.mono _ _ _)
   |(with_reducible exact spec_l8Bits.mono _ _ _)
   |(with_reducible exact LeO.refl _)
   |(with_reducible exact LeO.none _)
   |(with_reducible refine LeO.ite ?_ ?_)
   |(with_reducible refine LeO.bind ?_ (fun _ => ?_))
   | exact ih0 _ _ _ _
   | exact ih1 _ _ _ _
   | exact ih2 _ _ _ _
   | exact ih3 _ _ _ _ _
   | exact ih4 _ _ _ _ _ _
   | exact ih5 _ _ _ _ _ _
   | exact spec_UvarPut.mono _ _
   | exact spec_WordPut.mono _ _ _
   | exact spec_l8Alike.mono _ _ _
   | exact spec_l8Bits.mono _ _ _
   | exact LeO.none _
   | refine LeO.ite ?_ ?_
   | refine LeO.bind ?_ (fun _ => ?_)
  ·intro y0 y1 y2 y3
   unfold spec_RunPack.l0
   repeat' first
   |(with_reducible exact ih0 _ _ _ _)
   |(with_reducible exact ih1 _ _ _ _)
   |(with_reducible exact ih2 _ _ _ _)
   |(with_reducible exact ih3 _ _ _ _ _)
   |(with_reducible exact ih4 _ _ _ _ _ _)
   |(with_reducible exact ih5 _ _ _ _ _ _)
   |(with_reducible exact spec_UvarPut.mono _ _)
   |(with_reducible exact spec_WordPut.mono _ _ _)
   |(with_reducible exact spec_l8Alike.mono _ _ _)
   |(with_reducible exact spec_l8Bits.mono _ _ _)
   |(with_reducible exact LeO.refl _)
   |(with_reducible exact LeO.none _)
   |(with_reducible refine LeO.ite ?_ ?_)
   |(with_reducible refine LeO.bind ?_ (fun _ => ?_))
   | exact ih0 _ _ _ _
   | exact ih1 _ _ _ _
   | exact ih2 _ _ _ _
   | exact ih3 _ _ _ _ _
   | exact ih4 _ _ _ _ _ _
   | exact ih5 _ _ _ _ _ _
   | exact spec_UvarPut.mono _ _
   | exact spec_WordPut.mono _ _ _
   | exact spec_l8Alike.mono _ _ _
   | exact spec_l8Bits.mono _ _ _
   | exact LeO.none _
   | refine LeO.ite ?_ ?_
   | refine LeO.bind ?_ (fun _ => ?_)
  ·intro y0 y1 y2 y3
   unfold spec_RunPack.l1
   repeat' first
   |(with_reducible exact ih0 _ _ _ _)
   |(with_reducible exact ih1 _ _ _ _)
   |(with_reducible exact ih2 _ _ _ _)
   |(with_reducible exact ih3 _ _ _ _ _)
   |(with_reducible exact ih4 _ _ _ _ _ _)
   |(with_reducible exact ih5 _ _ _ _ _ _)
   |(with_reducible exact spec_UvarPut.mono _ _)
   |(with_reducible exact spec_WordPut.mono _ _ _)
   |(with_reducible exact spec_l8Alike.mono _ _ _)
   |(with_reducible exact spec_l8Bits.mono _ _ _)
   |(with_reducible exact LeO.refl _)
   |(with_reducible exact LeO.none _)
   |(with_reducible refine LeO.ite ?_ ?_)
   |(with_reducible refine LeO.bind ?_ (fun _ => ?_))
   | exact ih0 _ _ _ _
   | exact ih1 _ _ _ _
   | exact ih2 _ _ _ _
   | exact ih3 _ _ _ _ _
   | exact ih4 _ _ _ _ _ _
   | exact ih5 _ _ _ _ _ _
   | exact spec_UvarPut.mono _ _
   | exact spec_WordPut.mono _ _ _
   | exact spec_l8Alike.mono _ _ _
   | exact spec_l8Bits.mono _ _ _
   | exact LeO.none _
   | refine LeO.ite ?_ ?_
   | refine LeO.bind ?_ (fun _ => ?_)
  ·intro y0 y1 y2 y3 y4
   unfold spec_RunPack.l2
   repeat' first
   |(with_reducible exact ih0 _ _ _ _)
   |(with_reducible exact ih1 _ _ _ _)
   |(with_reducible exact ih2 _ _ _ _)
   |(with_reducible exact ih3 _ _ _ _ _)
   |(with_reducible exact ih4 _ _ _ _ _ _)
   |(with_reducible exact ih5 _ _ _ _ _ _)
   |(with_reducible exact spec_UvarPut.mono _ _)
   |(with_reducible exact spec_WordPut.mono _ _ _)
   |(with_reducible exact spec_l8Alike.mono _ _ _)
   |(with_reducible exact spec_l8Bits.mono _ _ _)
   |(with_reducible exact LeO.refl _)
   |(with_reducible exact LeO.none _)
   |(with_reducible refine LeO.ite ?_ ?_)
   |(with_reducible refine LeO.bind ?_ (fun _ => ?_))
   | exact ih0 _ _ _ _
   | exact ih1 _ _ _ _
   | exact ih2 _ _ _ _
   | exact ih3 _ _ _ _ _
   | exact ih4 _ _ _ _ _ _
   | exact ih5 _ _ _ _ _ _
   | exact spec_UvarPut.mono _ _
   | exact spec_WordPut.mono _ _ _
   | exact spec_l8Alike.mono _ _ _
   | exact spec_l8Bits.mono _ _ _
   | exact LeO.none _
   | refine LeO.ite ?_ ?_
   | refine LeO.bind ?_ (fun _ => ?_)
  ·intro y0 y1 y2 y3 y4 y5
   unfold spec_RunPack.j4
   repeat' first
   |(with_reducible exact ih0 _ _ _ _)
   |(with_reducible exact ih1 _ _ _ _)
   |(with_reducible exact ih2 _ _ _ _)
   |(with_reducible exact ih3 _ _ _ _ _)
   |(with_reducible exact ih4 _ _ _ _ _ _)
   |(with_reducible exact ih5 _ _ _ _ _ _)
   |(with_reducible exact spec_UvarPut.mono _ _)
   |(with_reducible exact spec_WordPut.mono _ _ _)
   |(with_reducible exact spec_l8Alike.mono _ _ _)
   |(with_reducible exact spec_l8Bits.mono _ _ _)
   |(with_reducible exact LeO.refl _)
   |(with_reducible exact LeO.none _)
   |(with_reducible refine LeO.ite ?_ ?_)
   |(with_reducible refine LeO.bind ?_ (fun _ => ?_))
   | exact ih0 _ _ _ _
   | exact ih1 _ _ _ _
   | exact ih2 _ _ _ _
   | exact ih3 _ _ _ _ _
   | exact ih4 _ _ _ _ _ _
   | exact ih5 _ _ _ _ _ _
   | exact spec_UvarPut.mono _ _
   | exact spec_WordPut.mono _ _ _
   | exact spec_l8Alike.mono _ _ _
   | exact spec_l8Bits.mono _ _ _
   | exact LeO.none _
   | refine LeO.ite ?_ ?_
   | refine LeO.bind ?_ (fun _ => ?_)
  ·intro y0 y1 y2 y3 y4 y5
   unfold spec_RunPack.l3
   repeat' first
   |(with_reducible exact ih0 _ _ _ _)
   |(with_reducible exact ih1 _ _ _ _)
   |(with_reducible exact ih2 _ _ _ _)
   |(with_reducible exact ih3 _ _ _ _ _)
   |(with_reducible exact ih4 _ _ _ _ _ _)
   |(with_reducible exact ih5 _ _ _ _ _ _)
   |(with_reducible exact spec_UvarPut.mono _ _)
   |(with_reducible exact spec_WordPut.mono _ _ _)
   |(with_reducible exact spec_l8Alike.mono _ _ _)
   |(with_reducible exact spec_l8Bits.mono _ _ _)
   |(with_reducible exact LeO.refl _)
   |(with_reducible exact LeO.none _)
   |(with_reducible refine LeO.ite ?_ ?_)
   |(with_reducible refine LeO.bind ?_ (fun _ => ?_))
   | exact ih0 _ _ _ _
   | exact ih1 _ _ _ _
   | exact ih2 _ _ _ _
   | exact ih3 _ _ _ _ _
   | exact ih4 _ _ _ _ _ _
   | exact ih5 _ _ _ _ _ _
   | exact spec_UvarPut.mono _ _
   | exact spec_WordPut.mono _ _ _
   | exact spec_l8Alike.mono _ _ _
   | exact spec_l8Bits.mono _ _ _
   | exact LeO.none _
   | refine LeO.ite ?_ ?_
   | refine LeO.bind ?_ (fun _ => ?_)
theorem spec_RunPack.mono : ∀ a0 a1 k, LeO (spec_RunPack.f k a0 a1) (spec_RunPack.f (k + 1) a0 a1) := by
 intro a0 a1 k
 obtain ⟨ih0, ih1, ih2, ih3, ih4, ih5⟩ := spec_RunPack.mono_l k
 unfold spec_RunPack.f
 repeat' first
   |(with_reducible exact ih0 _ _ _ _)
   |(with_reducible exact ih1 _ _ _ _)
   |(with_reducible exact ih2 _ _ _ _)
   |(with_reducible exact ih3 _ _ _ _ _)
   |(with_reducible exact ih4 _ _ _ _ _ _)
   |(with_reducible exact ih5 _ _ _ _ _ _)
   |(with_reducible exact spec_UvarPut.mono _ _)
   |(with_reducible exact spec_WordPut.mono _ _ _)
   |(with_reducible exact spec_l8Alike.mono _ _ _)
   |(with_reducible exact spec_l8Bits.mono _ _ _)
   |(with_reducible exact LeO.refl _)
   |(with_reducible exact LeO.none _)
   |(with_reducible refine LeO.ite ?_ ?_)
   |(with_reducible refine LeO.bind ?_ (fun _ => ?_))
   | exact ih0 _ _ _ _
   | exact ih1 _ _ _ _
   | exact ih2 _ _ _ _
   | exact ih3 _ _ _ _ _
   | exact ih4 _ _ _ _ _ _
   | exact ih5 _ _ _ _ _ _
   | exact spec_UvarPut.mono _ _
   | exact spec_WordPut.mono _ _ _
   | exact spec_l8Alike.mono _ _ _
   | exact spec_l8Bits.mono _ _ _
   | exact LeO.none _
   | refine LeO.ite ?_ ?_
   | refine LeO.bind ?_ (fun _ => ?_)
def spec_RunPack.T15 : Bool × List (List Nat × List Nat) := (true, [([], []), ([], []), ([], []), ([1, 2], [1, 2]), ([3], [3]), ([], []), ([5], [5]), ([4, 6, 6], [4, 6]), ([0, 7, 7], [0, 7]), ([8, 8, 0, 1, 2, 3, 4, 5, 6, 7, 8], [0, 8])])
def spec_RunPack.B15 : List Nat := [0, 0, 0, 6, 14, 0, 32, 126, 255, 511]
theorem spec_RunPack.tab15 : rtab .any (opsOf Try.f9 15) = spec_RunPack.T15 := by kernel_rfl
theorem spec_RunPack.bits15 : waitsOk spec_RunPack.T15.2 spec_RunPack.B15 = true := by kernel_rfl
set_option maxHeartbeats 8000000 in
set_option maxRecDepth 100000 in
theorem spec_RunPack.calls (k : Nat) (A0 : Option Addr) (c0 : Nat) (l0 : List Int) (a1 : Int) (r1 : List Int) (r2 : Bool) (w : World) (hr0 : Kd.C (Kd.int .i64) w A0 l0.length l0) (hc0 : l0.length ≤ c0) (h : spec_RunPack.f k l0 a1 = some (r1, r2)) :
  Calls Try.prog 9 #[.slice A0 l0.length c0, .int .i64 a1] w fun e w' => ∃ v0_ : Value, e = .returned (.tuple #[v0_, .bool r2]) ∧ Kd.R (Kd.int .u8) 5 w' w.heap.size (fun _ => True) v0_ r1 ∧ Below w.heap.size w w' := by
 have HR0 := Aside0.mk hr0
 have HC0 := Aside0.mk hc0
 clear hr0 hc0
 have HB := Aside0.mk (Below.refl w.heap.size w)
 have H : ((some (([] : List Int) : List Int)).bind fun y324 => ((spec_l8Width.f a1).bind fun t327 => (if t327 = true then (spec_RunPack.j0 k l0 a1 y324 (decide ((l0.length : Int) > 2000))) else (spec_RunPack.j0 k l0 a1 y324 true)))) = some (r1, r2) := h
 clear h
 obtain ⟨y324, hy324⟩ : ∃ y_ : List Int, y_ = (([] : List Int)) := ⟨_, rfl⟩
 replace H : ((spec_l8Width.f a1).bind fun t327 => (if t327 = true then (spec_RunPack.j0 k l0 a1 y324 (decide ((l0.length : Int) > 2000))) else (spec_RunPack.j0 k l0 a1 y324 true))) = some (r1, r2) := by first|(rw [hy324]; with_reducible exact H)|(have H2_ := (Option.bind_some _ _).symm.trans H; rw [hy324]; with_reducible exact H2_)|(have H2_ := (Option.bind_some _ _).symm.trans H; with_reducible exact H2_)|with_reducible exact H|(rw [hy324]; exact H)|exact H
 have Ny324 := Aside0.mk hy324
 clear hy324
 have HC3 := Aside0.mk H
 clear H
 go_enter Try.func9, Try.ntmps9
 go_upto_region 2 with (first|((with_reducible refine gate_dst (N := 13) rfl ?_); (try (refine gate_guard (by rfl) ?_; dsimp only)); refine Kd.R_lit (Kd.int .u8) _ 5 ?hg (N := 13) ?hd (xs := ([] : List Int)) (inner := []) (ok := fun _ => True) (okp := fun _ => True) ?hr ?hp (fun _ hk => hk) trivial (Below.refl _ _) (Nat.le_refl _) (by simp) ?_; (case hd => rfl); (case hg => rfl); (case hr => first|(go_simp; done)|(go_simp; rfl)); (case hp => exact (Reps.none _ _)); intro v325 w4 ho5 hb hg_ hnew_; clear hg_ hnew_; (first|rw [← Ny324.out] at ho5|(simp only [Int.reduceToNat] at ho5; rw [← Ny324.out] at ho5)); have n0_ := Aside0.mk (Kd.R_lower ho5 (below_size (by repeat (first|(with_reducible first|exact HB.out|apply below_alloc|apply pw_below_drewN|apply below_drew1)|exact HB.out)))); have n1_ := Aside0.mk (below_step (by repeat (first|(with_reducible first|exact HB.out|apply below_alloc|apply pw_below_drewN|apply below_drew1)|exact HB.out)) hb); clear HB; have HO326 := n0_; have HB := n1_; clear n0_ n1_; clear hb ho5))
 (try simp only [Act.put, List.setIfInBounds_toArray, List.set_cons_zero, List.set_cons_succ])
 go_cut [21] (fun v21 wc => ∃ (kq : Nat) (x21_2 : Bool), v21 = .bool x21_2 ∧ Aside0 (spec_RunPack.j0 kq l0 a1 y324 x21_2 = some (r1, r2)) ∧ Aside0 (kq ≤ k) ∧ Aside0 (Kd.R (Kd.int .u8) 5 wc w.heap.size (fun _ => True) v325 y324) ∧ Aside0 (Below w.heap.size w wc))
 case first =>
  have H := HC3.out
  clear HC3
  replace H := Option.bind_eq_some_iff.mp H
  obtain ⟨t327, A60, H⟩ := H
  replace H : (if t327 = true then (spec_RunPack.j0 k l0 a1 y324 (decide ((l0.length : Int) > 2000))) else (spec_RunPack.j0 k l0 a1 y324 true)) = some (r1, r2) := H
  have A6 := Aside0.mk A60
  clear A60
  by_cases c7 : t327 = true
  ·subst c7
   have H1 : (spec_RunPack.j0 k l0 a1 y324 (decide ((l0.length : Int) > 2000))) = some (r1, r2) := by rw [if_pos rfl] at H; exact H
   clear H
   have H := H1
   clear H1
   have H' := Aside0.mk H
   clear H
   go_wp2_with (first|((with_reducible refine gate_callee (f := 38) rfl ?_); refine goesL_ (some 15) rfl rfl Try.func38 (by kernel_rfl) rfl #[.int .i64 a1] rfl (by (try simp only [List.map_toArray, List.map_cons, List.map_nil]); first|done|rfl|(simp only [List.length_drop, List.length_take]; rfl)) ?_; (with_reducible refine (spec_l8Width.calls a1 true _ A6.out).mono ?_); rintro e w' ⟨rfl, ⟨nd, rfl⟩⟩; refine ⟨_, rfl, ?_⟩))
   (try simp only [hji19v])
   (try simp only [hji20v])
   go_meet
   case rel => exact ⟨_, (decide ((l0.length : Int) > 2000)), (by first|rfl|(simp; done)|(simp [*]; done)), H', ⟨by first|omega|exact Nat.le_refl _⟩, ⟨by (with_reducible repeat (first|apply Kd.R_alloc|apply Kd.R_drewN|apply Kd.R_drew)); exact HO326.out⟩, ⟨by repeat (first|(with_reducible first|exact HB.out|apply below_alloc|apply pw_below_drewN|apply below_drew1)|exact HB.out)⟩⟩
  ·replace c7 := Bool.eq_false_iff.mpr c7
   subst c7
   have H1 : (spec_RunPack.j0 k l0 a1 y324 true) = some (r1, r2) := by rw [if_neg (show ¬ (false = true) by decide)] at H; exact H
   clear H
   have H := H1
   clear H1
   have H' := Aside0.mk H
   clear H
   go_wp2_with (first|((with_reducible refine gate_callee (f := 38) rfl ?_); refine goesL_ (some 15) rfl rfl Try.func38 (by kernel_rfl) rfl #[.int .i64 a1] rfl (by (try simp only [List.map_toArray, List.map_cons, List.map_nil]); first|done|rfl|(simp only [List.length_drop, List.length_take]; rfl)) ?_; (with_reducible refine (spec_l8Width.calls a1 false _ A6.out).mono ?_); rintro e w' ⟨rfl, ⟨nd, rfl⟩⟩; refine ⟨_, rfl, ?_⟩))
   (try simp only [hji19v])
   (try simp only [hji20v])
   go_meet
   case rel => exact ⟨_, (true), (by first|rfl|(simp; done)|(simp [*]; done)), H', ⟨by first|omega|exact Nat.le_refl _⟩, ⟨by (with_reducible repeat (first|apply Kd.R_alloc|apply Kd.R_drewN|apply Kd.R_drew)); exact HO326.out⟩, ⟨by repeat (first|(with_reducible first|exact HB.out|apply below_alloc|apply pw_below_drewN|apply below_drew1)|exact HB.out)⟩⟩
 case rest =>
  clear HC3
  try clear p2
  try clear c3
  try clear c7
  obtain ⟨kq, x21_2, rfl, HA, HJ2, HO_6, HB⟩ := hcut
  cases kq with
  | zero => exact absurd HA.out (by simp [spec_RunPack.j0])
  | succ kj2 =>
   have H := HA.out
   clear HA
   simp only [spec_RunPack.j0] at H
   by_cases c8 : x21_2 = true
   ·subst c8
    have H1 : (some (y324, false)) = some (r1, r2) := by rw [if_pos rfl] at H; exact H
    clear H
    have H := H1
    clear H1
    simp only [Option.some.injEq, Prod.mk.injEq] at H
    obtain ⟨rfl, rfl⟩ := H
    go_wp2
    go_ret2
    exact ⟨_, by first|rfl|(simp [errW_none, errW_some] <;> rfl)|(simp [*, errW_none, errW_some] <;> rfl)|(exfalso; simp only [Bool.not_eq_true', Bool.not_eq_false', decide_eq_false_iff_not, decide_eq_true_eq, decide_eq_decide, Int.not_lt, Int.not_le] at *; omega), by (with_reducible repeat (first|apply Kd.R_alloc|apply Kd.R_drewN|apply Kd.R_drew)); exact HO_6.out, by repeat (first|(with_reducible first|exact HB.out|apply below_alloc|apply pw_below_drewN|apply below_drew1)|exact HB.out)⟩
   ·replace c8 := Bool.eq_false_iff.mpr c8
    subst c8
    have H1 : (spec_RunPack.l0 kj2 l0 a1 y324 0) = some (r1, r2) := by rw [if_neg (show ¬ (false = true) by decide)] at H; exact H
    clear H
    have H := H1
    clear H1
    have H' := Aside0.mk H
    clear H
    go_wp2
    go_loopg [7] kj2 (fun kq v7 w' => ∃ (x7_2 : Int), v7 = .int .i64 x7_2 ∧ Aside0 (spec_RunPack.l0 kq l0 a1 y324 x7_2 = some (r1, r2)) ∧ Aside0 (kq ≤ kj2) ∧ Aside0 (Kd.R (Kd.int .u8) 5 w' w.heap.size (fun _ => True) v325 y324) ∧ Aside0 (Below w.heap.size w w'))
    case atStart => exact ⟨(0), (by first|rfl|(simp; done)|(simp [*]; done)), H', ⟨Nat.le_refl _⟩, ⟨by (with_reducible repeat (first|apply Kd.R_alloc|apply Kd.R_drewN|apply Kd.R_drew)); exact HO_6.out⟩, ⟨by repeat (first|(with_reducible first|exact HB.out|apply below_alloc|apply pw_below_drewN|apply below_drew1)|exact HB.out)⟩⟩
    case round =>
     clear H'
     try clear p2
     try clear c3
     try clear c7
     try clear c8
     try clear p2
     obtain ⟨x7_2, rfl, HA, HK2, HO_6, HB⟩ := hrel
     cases gk with
     | zero => exact absurd HA.out (by simp [spec_RunPack.l0])
     | succ k2 =>
      have H := HA.out
      clear HA
      simp only [spec_RunPack.l0] at H
      by_cases c9 : x7_2 < (l0.length : Int)
      ·rw [if_pos c9] at H
       have c9b0 : decide (x7_2 < (l0.length : Int)) = true := decide_eq_true c9
       clear c9
       by_cases c10 : 0 ≤ x7_2
       ·rw [if_pos c10] at H
        have c10b0 : decide (0 ≤ x7_2) = true := decide_eq_true c10
        clear c10
        by_cases c11 : (rd l0 x7_2) < 0
        ·rw [if_pos c11] at H
         have c11b0 : decide ((rd l0 x7_2) < 0) = true := decide_eq_true c11
         clear c11
         obtain ⟨y329, hy329⟩ : ∃ y_ : List Int, y_ = (([] : List Int)) := ⟨_, rfl⟩
         replace H : (some (y329, false)) = some (r1, r2) := by first|(rw [hy329]; with_reducible exact H)|(have H2_ := (Option.bind_some _ _).symm.trans H; rw [hy329]; with_reducible exact H2_)|(have H2_ := (Option.bind_some _ _).symm.trans H; with_reducible exact H2_)|with_reducible exact H|(rw [hy329]; exact H)|exact H
         have Ny329 := Aside0.mk hy329
         clear hy329
         simp only [Option.some.injEq, Prod.mk.injEq] at H
         obtain ⟨rfl, rfl⟩ := H
         have p328 : 0 ≤ (x7_2 : Int) := of_decide_eq_true (by first|(with_reducible assumption)|assumption)
         have q328 : x7_2 < (l0.length : Int) := of_decide_eq_true (by first|(with_reducible assumption)|assumption)
         obtain ⟨ad328, e328, hx328_0⟩ := Kd.at_int HR0.out x7_2 p328 q328
         cases e328
         replace hx328_0 := (HB.out.cell (World.block_lt_of_cell? w _ hx328_0)).trans hx328_0
         replace p328 := eq_true p328
         replace q328 := eq_true q328
         go_wp2_with (first|((with_reducible refine gate_dst (N := 43) rfl ?_); (try (refine gate_guard (by rfl) ?_; dsimp only)); refine Kd.R_lit (Kd.int .u8) _ 5 ?hg (N := 43) ?hd (xs := ([] : List Int)) (inner := []) (ok := fun _ => True) (okp := fun _ => True) ?hr ?hp (fun _ hk => hk) trivial (Below.refl _ _) (Nat.le_refl _) (by simp) ?_; (case hd => rfl); (case hg => rfl); (case hr => first|(go_simp; done)|(go_simp; rfl)); (case hp => exact (Reps.none _ _)); intro v330 w12 ho13 hb hg_ hnew_; clear hg_ hnew_; (first|rw [← Ny329.out] at ho13|(simp only [Int.reduceToNat] at ho13; rw [← Ny329.out] at ho13)); have n0_ := Aside0.mk (Kd.R_elder' (by (with_reducible repeat (first|apply Kd.R_alloc|apply Kd.R_drewN|apply Kd.R_drew)); exact HO_6.out) (Kd.R_base ho13) hb); have n1_ := Aside0.mk (Kd.R_lower (Kd.R_new' ho13 (Kd.R_lt (by (with_reducible repeat (first|apply Kd.R_alloc|apply Kd.R_drewN|apply Kd.R_drew)); exact HO_6.out))) (below_size (by repeat (first|(with_reducible first|exact HB.out|apply below_alloc|apply pw_below_drewN|apply below_drew1)|exact HB.out)))); have n2_ := Aside0.mk (below_step (by repeat (first|(with_reducible first|exact HB.out|apply below_alloc|apply pw_below_drewN|apply below_drew1)|exact HB.out)) hb); clear HO_6; clear HB; have HO_6 := n0_; have HO331 := n1_; have HB := n2_; clear n0_ n1_ n2_; clear hb ho13))
         go_ret2
         exact ⟨_, by first|rfl|(simp [errW_none, errW_some] <;> rfl)|(simp [*, errW_none, errW_some] <;> rfl)|(exfalso; simp only [Bool.not_eq_true', Bool.not_eq_false', decide_eq_false_iff_not, decide_eq_true_eq, decide_eq_decide, Int.not_lt, Int.not_le] at *; omega), by (with_reducible repeat (first|apply Kd.R_alloc|apply Kd.R_drewN|apply Kd.R_drew)); exact Kd.R_mono HO331.out (fun _ hk => trivial), by repeat (first|(with_reducible first|exact HB.out|apply below_alloc|apply pw_below_drewN|apply below_drew1)|exact HB.out)⟩
        ·rw [if_neg c11] at H
         have c11b0 : decide ((rd l0 x7_2) < 0) = false := decide_eq_false c11
         clear c11
         by_cases c14 : 0 ≤ a1
         ·rw [if_pos c14] at H
          have c14b0 := eq_true c14
          have c14b1 : decide (0 ≤ a1) = true := decide_eq_true c14
          clear c14
          obtain ⟨ji15, hji15⟩ : ∃ j_ : Int, (shr .i64 (rd l0 x7_2) a1) = j_ := ⟨_, rfl⟩
          replace H : (if (ji15) = 0 then (spec_RunPack.l0 k2 l0 a1 y324 (wrap64 (x7_2 + 1))) else (some ((([] : List Int)), false))) = some (r1, r2) := by first|(rw [hji15] at H; exact H)|(simp only [hji15] at H ⊢; exact H)
          have hji15_ : ((rd l0 x7_2) / 2 ^ min a1.toNat 64) = ji15 := hji15
          have hji15z : a1 ≤ 64 → ((rd l0 x7_2) / 2 ^ a1.toNat) = ji15 := shr_small hji15
          by_cases c16 : (ji15) = 0
          ·rw [if_pos c16] at H
           have c16b0 : ((ji15) == 0) = true := beq_iff_eq.mpr c16
           have c16b1 : ((ji15) != 0) = false := bne_eq_false_iff_eq.mpr c16
           clear c16
           have H' := Aside0.mk H
           clear H
           have p328 : 0 ≤ (x7_2 : Int) := of_decide_eq_true (by first|(with_reducible assumption)|assumption)
           have q328 : x7_2 < (l0.length : Int) := of_decide_eq_true (by first|(with_reducible assumption)|assumption)
           obtain ⟨ad328, e328, hx328_0⟩ := Kd.at_int HR0.out x7_2 p328 q328
           cases e328
           replace hx328_0 := (HB.out.cell (World.block_lt_of_cell? w _ hx328_0)).trans hx328_0
           replace p328 := eq_true p328
           replace q328 := eq_true q328
           have p332 : 0 ≤ (x7_2 : Int) := of_decide_eq_true (by first|(with_reducible assumption)|assumption)
           have q332 : x7_2 < (l0.length : Int) := of_decide_eq_true (by first|(with_reducible assumption)|assumption)
           obtain ⟨ad332, e332, hx332_0⟩ := Kd.at_int HR0.out x7_2 p332 q332
           obtain rfl : ad328 = ad332 := (by injection e332)
           replace hx332_0 := (HB.out.cell (World.block_lt_of_cell? w _ hx332_0)).trans hx332_0
           replace p332 := eq_true p332
           replace q332 := eq_true q332
           go_wp2
           (try simp only [hji19v])
           (try simp only [hji20v])
           go_roundg k2
           case measure => have := HJ2.out; have := HK2.out; omega
           case rel => exact ⟨(wrap64 (x7_2 + 1)), (by first|rfl|(simp; done)|(simp [*]; done)), H', ⟨by have := HJ2.out; have := HK2.out; omega⟩, ⟨by (with_reducible repeat (first|apply Kd.R_alloc|apply Kd.R_drewN|apply Kd.R_drew)); exact HO_6.out⟩, ⟨by repeat (first|(with_reducible first|exact HB.out|apply below_alloc|apply pw_below_drewN|apply below_drew1)|exact HB.out)⟩⟩
          ·rw [if_neg c16] at H
           have c16b0 : ((ji15) == 0) = false := beq_eq_false_iff_ne.mpr c16
           have c16b1 : ((ji15) != 0) = true := bne_iff_ne.mpr c16
           obtain ⟨y333, hy333⟩ : ∃ y_ : List Int, y_ = (([] : List Int)) := ⟨_, rfl⟩
           replace H : (some (y333, false)) = some (r1, r2) := by first|(rw [hy333]; with_reducible exact H)|(have H2_ := (Option.bind_some _ _).symm.trans H; rw [hy333]; with_reducible exact H2_)|(have H2_ := (Option.bind_some _ _).symm.trans H; with_reducible exact H2_)|with_reducible exact H|(rw [hy333]; exact H)|exact H
           have Ny333 := Aside0.mk hy333
           clear hy333
           simp only [Option.some.injEq, Prod.mk.injEq] at H
           obtain ⟨rfl, rfl⟩ := H
           have p328 : 0 ≤ (x7_2 : Int) := of_decide_eq_true (by first|(with_reducible assumption)|assumption)
           have q328 : x7_2 < (l0.length : Int) := of_decide_eq_true (by first|(with_reducible assumption)|assumption)
           obtain ⟨ad328, e328, hx328_0⟩ := Kd.at_int HR0.out x7_2 p328 q328
           cases e328
           replace hx328_0 := (HB.out.cell (World.block_lt_of_cell? w _ hx328_0)).trans hx328_0
           replace p328 := eq_true p328
           replace q328 := eq_true q328
           have p332 : 0 ≤ (x7_2 : Int) := of_decide_eq_true (by first|(with_reducible assumption)|assumption)
           have q332 : x7_2 < (l0.length : Int) := of_decide_eq_true (by first|(with_reducible assumption)|assumption)
           obtain ⟨ad332, e332, hx332_0⟩ := Kd.at_int HR0.out x7_2 p332 q332
           obtain rfl : ad328 = ad332 := (by injection e332)
           replace hx332_0 := (HB.out.cell (World.block_lt_of_cell? w _ hx332_0)).trans hx332_0
           replace p332 := eq_true p332
           replace q332 := eq_true q332
           go_wp2_with (first|((with_reducible refine gate_dst (N := 43) rfl ?_); (try (refine gate_guard (by rfl) ?_; dsimp only)); refine Kd.R_lit (Kd.int .u8) _ 5 ?hg (N := 43) ?hd (xs := ([] : List Int)) (inner := []) (ok := fun _ => True) (okp := fun _ => True) ?hr ?hp (fun _ hk => hk) trivial (Below.refl _ _) (Nat.le_refl _) (by simp) ?_; (case hd => rfl); (case hg => rfl); (case hr => first|(go_simp; done)|(go_simp; rfl)); (case hp => exact (Reps.none _ _)); intro v334 w17 ho18 hb hg_ hnew_; clear hg_ hnew_; (first|rw [← Ny333.out] at ho18|(simp only [Int.reduceToNat] at ho18; rw [← Ny333.out] at ho18)); have n0_ := Aside0.mk (Kd.R_elder' (by (with_reducible repeat (first|apply Kd.R_alloc|apply Kd.R_drewN|apply Kd.R_drew)); exact HO_6.out) (Kd.R_base ho18) hb); have n1_ := Aside0.mk (Kd.R_lower (Kd.R_new' ho18 (Kd.R_lt (by (with_reducible repeat (first|apply Kd.R_alloc|apply Kd.R_drewN|apply Kd.R_drew)); exact HO_6.out))) (below_size (by repeat (first|(with_reducible first|exact HB.out|apply below_alloc|apply pw_below_drewN|apply below_drew1)|exact HB.out)))); have n2_ := Aside0.mk (below_step (by repeat (first|(with_reducible first|exact HB.out|apply below_alloc|apply pw_below_drewN|apply below_drew1)|exact HB.out)) hb); clear HO_6; clear HB; have HO_6 := n0_; have HO335 := n1_; have HB := n2_; clear n0_ n1_ n2_; clear hb ho18))
           go_ret2
           exact ⟨_, by first|rfl|(simp [errW_none, errW_some] <;> rfl)|(simp only [← hji15]; first|rfl|(simp [errW_none, errW_some] <;> rfl))|(simp [*, errW_none, errW_some] <;> rfl)|(exfalso; simp only [Bool.not_eq_true', Bool.not_eq_false', decide_eq_false_iff_not, decide_eq_true_eq, decide_eq_decide, Int.not_lt, Int.not_le] at *; omega), by (with_reducible repeat (first|apply Kd.R_alloc|apply Kd.R_drewN|apply Kd.R_drew)); exact Kd.R_mono HO335.out (fun _ hk => trivial), by repeat (first|(with_reducible first|exact HB.out|apply below_alloc|apply pw_below_drewN|apply below_drew1)|exact HB.out)⟩
         ·rw [if_neg c14] at H
          exact absurd H (by simp)
       ·rw [if_neg c10] at H
        exact absurd H (by simp)
      ·rw [if_neg c9] at H
       have c9b0 : decide (x7_2 < (l0.length : Int)) = false := decide_eq_false c9
       clear c9
       have H' := Aside0.mk H
       clear H
       go_wp2
       go_loopg [6, 8] k2 (fun kq v6 v8 w' => ∃ (x6_3 : List Int) (x8_3 : Int), v8 = .int .i64 x8_3 ∧ Aside0 (spec_RunPack.l1 kq l0 a1 x6_3 x8_3 = some (r1, r2)) ∧ Aside0 (kq ≤ k2) ∧ Aside0 (Kd.R (Kd.int .u8) 5 w' w.heap.size (fun _ => True) v6 x6_3) ∧ Aside0 (Below w.heap.size w w'))
       case atStart => exact ⟨(y324), (0), (by first|rfl|(simp; done)|(simp [*]; done)), H', ⟨Nat.le_refl _⟩, ⟨by (with_reducible repeat (first|apply Kd.R_alloc|apply Kd.R_drewN|apply Kd.R_drew)); exact HO_6.out⟩, ⟨by repeat (first|(with_reducible first|exact HB.out|apply below_alloc|apply pw_below_drewN|apply below_drew1)|exact HB.out)⟩⟩
       case round =>
        clear H'
        try clear c1
        try clear p2
        try clear c3
        try clear p3
        try clear q3
        try clear hx3
        try clear p6
        try clear c7
        try clear c8
        try clear c9
        try clear c9b0
        try clear c10
        try clear c10b0
        try clear c11
        try clear c11b0
        try clear c14
        try clear c14b0
        try clear c14b1
        try clear c16
        try clear c16b0
        try clear c16b1
        try clear hx328_0
        try clear hx332_0
        try clear p2
        try clear p328
        try clear p332
        try clear q328
        try clear q332
        obtain ⟨x6_3, x8_3, rfl, HA, HK3, HO_6, HB⟩ := hrel
        cases gk with
        | zero => exact absurd HA.out (by simp [spec_RunPack.l1])
        | succ k3 =>
         have H := HA.out
         clear HA
         simp only [spec_RunPack.l1] at H
         by_cases c19 : x8_3 < (l0.length : Int)
         ·rw [if_pos c19] at H
          have c19b0 : decide (x8_3 < (l0.length : Int)) = true := decide_eq_true c19
          clear c19
          replace H := Option.bind_eq_some_iff.mp H
          obtain ⟨t336, A200, H⟩ := H
          replace H : (if t336 ≥ 8 then ((spec_UvarPut.f k3 (wrap64 (2 * t336))).bind fun t337 => (if x6_3.length + t337.length < 140737488355328 then ((some (x6_3 ++ t337 : List Int)).bind fun y340 => (if a1 > 0 then (if 0 ≤ x8_3 then ((spec_BitsSize.f 1 a1).bind fun t344 => ((spec_WordPut.f k3 (rd l0 x8_3) t344).bind fun t345 => (if y340.length + t345.length < 140737488355328 then (spec_RunPack.l1 k3 l0 a1 (y340 ++ t345) (wrap64 (x8_3 + t336))) else (none)))) else (none)) else (spec_RunPack.l1 k3 l0 a1 y340 (wrap64 (x8_3 + t336))))) else (none))) else (spec_RunPack.l2 k3 l0 a1 x6_3 x8_3 (([] : List Int)))) = some (r1, r2) := H
          have A20 := Aside0.mk A200
          clear A200
          by_cases c21 : t336 ≥ 8
          ·rw [if_pos c21] at H
           have c21b0 : decide (8 ≤ t336) = true := decide_eq_true c21
           clear c21
           replace H := Option.bind_eq_some_iff.mp H
           obtain ⟨t337, A220, H⟩ := H
           replace H : (if x6_3.length + t337.length < 140737488355328 then ((some (x6_3 ++ t337 : List Int)).bind fun y340 => (if a1 > 0 then (if 0 ≤ x8_3 then ((spec_BitsSize.f 1 a1).bind fun t344 => ((spec_WordPut.f k3 (rd l0 x8_3) t344).bind fun t345 => (if y340.length + t345.length < 140737488355328 then (spec_RunPack.l1 k3 l0 a1 (y340 ++ t345) (wrap64 (x8_3 + t336))) else (none)))) else (none)) else (spec_RunPack.l1 k3 l0 a1 y340 (wrap64 (x8_3 + t336))))) else (none)) = some (r1, r2) := H
           have A22 := Aside0.mk A220
           clear A220
           by_cases c23 : x6_3.length + t337.length < 140737488355328
           ·rw [if_pos c23] at H
            have LMc23 := Aside0.mk c23
            clear c23
            obtain ⟨y340, hy340⟩ : ∃ y_ : List Int, y_ = (x6_3 ++ t337) := ⟨_, rfl⟩
            replace H : (if a1 > 0 then (if 0 ≤ x8_3 then ((spec_BitsSize.f 1 a1).bind fun t344 => ((spec_WordPut.f k3 (rd l0 x8_3) t344).bind fun t345 => (if y340.length + t345.length < 140737488355328 then (spec_RunPack.l1 k3 l0 a1 (y340 ++ t345) (wrap64 (x8_3 + t336))) else (none)))) else (none)) else (spec_RunPack.l1 k3 l0 a1 y340 (wrap64 (x8_3 + t336)))) = some (r1, r2) := by first|(rw [hy340]; with_reducible exact H)|(have H2_ := (Option.bind_some _ _).symm.trans H; rw [hy340]; with_reducible exact H2_)|(have H2_ := (Option.bind_some _ _).symm.trans H; with_reducible exact H2_)|with_reducible exact H|(rw [hy340]; exact H)|exact H
            have Ny340 := Aside0.mk hy340
            clear hy340
            by_cases c24 : a1 > 0
            ·rw [if_pos c24] at H
             have c24b0 : decide (0 < a1) = true := decide_eq_true c24
             clear c24
             by_cases c25 : 0 ≤ x8_3
             ·rw [if_pos c25] at H
              have c25b0 : decide (0 ≤ x8_3) = true := decide_eq_true c25
              clear c25
              replace H := Option.bind_eq_some_iff.mp H
              obtain ⟨t344, A260, H⟩ := H
              replace H : ((spec_WordPut.f k3 (rd l0 x8_3) t344).bind fun t345 => (if y340.length + t345.length < 140737488355328 then (spec_RunPack.l1 k3 l0 a1 (y340 ++ t345) (wrap64 (x8_3 + t336))) else (none))) = some (r1, r2) := H
              have A26 := Aside0.mk A260
              clear A260
              replace H := Option.bind_eq_some_iff.mp H
              obtain ⟨t345, A270, H⟩ := H
              replace H : (if y340.length + t345.length < 140737488355328 then (spec_RunPack.l1 k3 l0 a1 (y340 ++ t345) (wrap64 (x8_3 + t336))) else (none)) = some (r1, r2) := H
              have A27 := Aside0.mk A270
              clear A270
              by_cases c28 : y340.length + t345.length < 140737488355328
              ·rw [if_pos c28] at H
               have LMc28 := Aside0.mk c28
               clear c28
               obtain ⟨y348, hy348⟩ : ∃ y_ : List Int, y_ = (y340 ++ t345) := ⟨_, rfl⟩
               replace H : (spec_RunPack.l1 k3 l0 a1 y348 (wrap64 (x8_3 + t336))) = some (r1, r2) := by first|(rw [hy348]; with_reducible exact H)|(have H2_ := (Option.bind_some _ _).symm.trans H; rw [hy348]; with_reducible exact H2_)|(have H2_ := (Option.bind_some _ _).symm.trans H; with_reducible exact H2_)|with_reducible exact H|(rw [hy348]; exact H)|exact H
               have Ny348 := Aside0.mk hy348
               clear hy348
               have H' := Aside0.mk H
               clear H
               try go_wp2_with (first|((with_reducible refine gate_callee (f := 39) rfl ?_); refine goesL_ (some 50) rfl rfl Try.func39 (by kernel_rfl) rfl #[.slice A0 l0.length c0, .int .i64 x8_3] rfl (by (try simp only [List.map_toArray, List.map_cons, List.map_nil]); first|done|rfl|(simp only [List.length_drop, List.length_take]; rfl)) ?_; (with_reducible refine (spec_l8Alike.calls k3 _ _ l0 x8_3 t336 _ ?side1 ?side2 A20.out).mono ?_); (case side1 => repeat (first|exact (Kd.C_below HR0.out HB.out)|(with_reducible refine Kd.C_alloc ?_ _)|(with_reducible refine Kd.C_drewN ?_ _)|(with_reducible refine Kd.C_drew ?_))); (case side2 => exact HC0.out); rintro e w' ⟨rfl, ⟨nd, rfl⟩⟩; refine ⟨_, rfl, ?_⟩)|((with_reducible refine gate_callee (f := 40) rfl ?_); refine goesL_ (some 56) rfl rfl Try.func40 (by kernel_rfl) rfl #[.int .i64 (wrap64 (2 * t336))] rfl (by (try simp only [List.map_toArray, List.map_cons, List.map_nil]); first|done|rfl|(simp only [List.length_drop, List.length_take]; rfl)) ?_; (with_reducible refine (spec_UvarPut.calls k3 (wrap64 (2 * t336)) t337 _ A22.out).mono ?_); rintro e w29 ⟨v338, rfl, ho0, hb⟩; refine ⟨_, rfl, ?_⟩; have n0_ := Aside0.mk (Kd.R_elder' (by (with_reducible repeat (first|apply Kd.R_alloc|apply Kd.R_drewN|apply Kd.R_drew)); exact HO_6.out) (Kd.R_base ho0) hb); have n1_ := Aside0.mk (Kd.R_lower (Kd.R_new' ho0 (Kd.R_lt (by (with_reducible repeat (first|apply Kd.R_alloc|apply Kd.R_drewN|apply Kd.R_drew)); exact HO_6.out))) (below_size (by repeat (first|(with_reducible first|exact HB.out|apply below_alloc|apply pw_below_drewN|apply below_drew1)|exact HB.out)))); have n2_ := Aside0.mk (below_step (by repeat (first|(with_reducible first|exact HB.out|apply below_alloc|apply pw_below_drewN|apply below_drew1)|exact HB.out)) hb); clear HO_6; clear HB; have HO_6 := n0_; have HO339 := n1_; have HB := n2_; clear n0_ n1_ n2_; (try clear hb); (try clear hb2); (try clear hk); (try clear hi); (try clear ho0); obtain ⟨Ao31, co31, eo31⟩ := Kd.R_slice HO339.out; subst eo31)|((with_reducible refine gate_builtin (b := .append) (xs := #[.tmp 53, .tmp 56]) rfl ?_); (try (refine gate_guard (by rfl) ?_; dsimp only)); at_builtin; refine Kd.R_append_rows (Kd.int .u8) (w0 := w) w.heap.size rfl (.tmp 53) (.tmp 56) 22 5 (.int .u8 0) 1 rfl Try.underlying22 info5 rfl (by decide) (by omega) u6 x6_3 t337 _ _ _ (fun k_ => some k_ ≠ (.slice Ao31 t337.length co31 : Value).ownBlock) (fun _ => False) rfl rfl ?aO ?aR (fun _ _ h => h) (fun _ h => h.elim) ?aF ?aB ?aS ?aL ?_; (case aR => repeat (first|exact (Kd.R_reads' HO339.out).2.2|(with_reducible refine Kd.C_alloc ?_ _)|(with_reducible refine Kd.C_drewN ?_ _)|(with_reducible refine Kd.C_drew ?_))); (case aB => exact (by repeat (first|(with_reducible first|exact HB.out|apply below_alloc|apply pw_below_drewN|apply below_drew1)|exact HB.out))); (case aF => exact (fun k_ hk => Kd.fresh' (Kd.R_lt (by (with_reducible repeat (first|apply Kd.R_alloc|apply Kd.R_drewN|apply Kd.R_drew)); exact HO339.out)) k_ hk)); (case aO => exact (by (with_reducible repeat (first|apply Kd.R_alloc|apply Kd.R_drewN|apply Kd.R_drew)); exact Kd.R_mono HO_6.out (fun _ hk => hk.2))); (case aS => exact (below_size (by repeat (first|(with_reducible first|exact HB.out|apply below_alloc|apply pw_below_drewN|apply below_drew1)|exact HB.out)))); (case aL => have := LMc23.out; omega); intro v341 w30 ho hb hg hat; rw [← Ny340.out] at ho; have n0_ := Aside0.mk (Kd.R_after (ok := (fun _ => True)) (by (with_reducible repeat (first|apply Kd.R_alloc|apply Kd.R_drewN|apply Kd.R_drew)); exact HO339.out) hg hat); have n1_ := Aside0.mk (hb); have n2_ := Aside0.mk (ho); clear HO339; clear HB; clear HO_6; have HO339 := n0_; have HB := n1_; have HO342 := n2_; clear n0_ n1_ n2_; clear ho hb hg hat))
               (try (rw [drewN_self w30]; generalize hq_ : World.drewN w30 _ = w30; have n0_ : Aside0 (Kd.R (Kd.int .u8) 5 w30 w.heap.size (fun k_ => some k_ ≠ (v341 : Value).ownBlock) (.slice Ao31 t337.length co31) t337) := ⟨by rw [← hq_]; exact (by (with_reducible repeat (first|apply Kd.R_alloc|apply Kd.R_drewN|apply Kd.R_drew)); exact Kd.R_mono HO339.out (fun _ hk => hk.2))⟩; have n1_ : Aside0 (Kd.R (Kd.int .u8) 5 w30 w.heap.size (fun k_ => some k_ ≠ (.slice Ao31 t337.length co31 : Value).ownBlock) v341 y340) := ⟨by rw [← hq_]; exact (by (with_reducible repeat (first|apply Kd.R_alloc|apply Kd.R_drewN|apply Kd.R_drew)); exact HO342.out)⟩; have n2_ : Aside0 (Below w.heap.size w w30) := ⟨by rw [← hq_]; exact (by repeat (first|(with_reducible first|exact HB.out|apply below_alloc|apply pw_below_drewN|apply below_drew1)|exact HB.out))⟩; clear HO339 HO342 HB hq_; have HO339 := n0_; have HO342 := n1_; have HB := n2_; clear n0_ n1_ n2_))
               have n0_ := Aside0.mk (Kd.R_drew HO339.out)
               have n1_ := Aside0.mk (Kd.R_drew HO342.out)
               have n2_ := Aside0.mk (below_drew1 HB.out)
               clear HO339
               clear HO342
               clear HB
               have HO339 := n0_
               have HO342 := n1_
               have HB := n2_
               clear n0_ n1_ n2_
               have p343 : 0 ≤ (x8_3 : Int) := of_decide_eq_true (by first|(with_reducible assumption)|assumption)
               have q343 : x8_3 < (l0.length : Int) := of_decide_eq_true (by first|(with_reducible assumption)|assumption)
               obtain ⟨ad343, e343, hx343_0⟩ := Kd.at_int HR0.out x8_3 p343 q343
               have hw343_0 := hx343_0
               cases e343
               replace hx343_0 := (HB.out.cell (World.block_lt_of_cell? w _ hx343_0)).trans hx343_0
               replace p343 := eq_true p343
               replace q343 := eq_true q343
               refine start_ (n := 10) (S := fun w' => w'.cell? (ad343.add (x8_3).toNat) = some (.int .i64 (rd l0 x8_3))) (ds := []) #[false, false, false, false, false, false, false, false, false, false] (by kernel_rfl) rfl rfl (((HB.out.cell (World.block_lt_of_cell? w _ hw343_0)).trans hw343_0)) (fun hHeld => ?_); refine with_tabW spec_RunPack.tab15 spec_RunPack.bits15 (fun HT_ HW_ => ?_)
               generalize w30.drew = w32 at HO339 HO342 HB hx343_0 hHeld ⊢
               refine pure_ (i := 0) (N := some 60) (v := ?_) (a' := ?_) #[true, false, false, false, false, false, false, false, false, false] rfl rfl (any_of HT_.out (by kernel_rfl)) (fun _ _ _ h => h) (Or.inl ⟨by rfl, ?_⟩) ?_ ?_
               rotate_left
               ·intro w'
                go_simp
                with_reducible rfl
               rotate_left
               ·simp only [Act.put, List.setIfInBounds_toArray, List.set_cons_zero, List.set_cons_succ, i64_w, i32_w]
                rfl
               refine pure_ (i := 1) (N := some 61) (v := ?_) (a' := ?_) #[true, true, false, false, false, false, false, false, false, false] rfl rfl (any_of HT_.out (by kernel_rfl)) (fun _ _ _ h => h) (Or.inl ⟨by rfl, ?_⟩) ?_ ?_
               rotate_left
               ·intro w'
                go_simp
                with_reducible rfl
               rotate_left
               ·simp only [Act.put, List.setIfInBounds_toArray, List.set_cons_zero, List.set_cons_succ, i64_w, i32_w]
                rfl
               refine pure_ (i := 2) (N := some 62) (v := ?_) (a' := ?_) #[true, true, true, false, false, false, false, false, false, false] rfl rfl (any_of HT_.out (by kernel_rfl)) (fun _ _ _ h => h) (Or.inl ⟨by rfl, ?_⟩) ?_ ?_
               rotate_left
               ·intro w'
                go_simp
                with_reducible rfl
               rotate_left
               ·simp only [Act.put, List.setIfInBounds_toArray, List.set_cons_zero, List.set_cons_succ, i64_w, i32_w]
                rfl
               refine pure_ (i := 3) (N := some 63) (v := ?_) (a' := ?_) #[true, true, true, true, false, false, false, false, false, false] rfl rfl (any_of HT_.out (by kernel_rfl)) (fun _ _ _ h => h) (Or.inl ⟨by rfl, ?_⟩) ?_ ?_
               rotate_left
               ·intro w'
                go_simp
                with_reducible rfl
               rotate_left
               ·simp only [Act.put, List.setIfInBounds_toArray, List.set_cons_zero, List.set_cons_succ, i64_w, i32_w]
                rfl
               refine pure_ (i := 5) (N := some 65) (v := ?_) (a' := ?_) #[true, true, true, true, false, true, false, false, false, false] rfl rfl (any_of HT_.out (by kernel_rfl)) (fun _ _ _ h => h) (Or.inl ⟨by rfl, ?_⟩) ?_ ?_
               rotate_left
               ·intro w'
                go_simp
                with_reducible rfl
               rotate_left
               ·simp only [Act.put, List.setIfInBounds_toArray, List.set_cons_zero, List.set_cons_succ, i64_w, i32_w]
                rfl
               refine take_ (i := 4) (N := some 64) (v := ?_) (a' := ?_) #[true, true, true, true, true, true, false, false, false, false] rfl rfl (take_ofW HT_.out HW_.out (by kernel_rfl)) (fun _ _ _ h => h) (Or.inl ⟨by rfl, ?_⟩) hHeld ?_ ?_
               rotate_left
               ·intro w' s0
                go_simp
                with_reducible rfl
               rotate_left
               ·simp only [Act.put, List.setIfInBounds_toArray, List.set_cons_zero, List.set_cons_succ, i64_w, i32_w]
                rfl
               refine one_ (i := 6) (N := some 66) #[true, true, true, true, true, true, true, false, false, false] rfl rfl (one_of HT_.out (by kernel_rfl)) (by decide) (fun K hK => ?_)
               refine goes_ Try.func42 (by kernel_rfl) rfl #[.int .i64 1, .int .i64 a1] (by rfl) rfl rfl (by (try simp only [List.map_toArray, List.map_cons, List.map_nil]); first|done|rfl|(simp only [List.length_drop, List.length_take]; rfl)) ?_
               with_reducible refine (spec_BitsSize.calls 1 a1 t344 _ A26.out).mono ?_
               rintro e w' ⟨rfl, ⟨nd, rfl⟩⟩
               refine ⟨_, rfl, ?_⟩
               refine hK.out _ _ (((HB.out.cell (World.block_lt_of_cell? w _ hw343_0)).trans hw343_0)) (fun hHeld => ?_)
               clear hK K
               refine norm_ (a' := ?_) ?_ ?_
               rotate_left
               ·show Act.put _ (some 66) _ = _
                simp only [Act.put, List.setIfInBounds_toArray, List.set_cons_zero, List.set_cons_succ, i64_w, i32_w]
                rfl
               refine one_ (i := 7) (N := some 67) #[true, true, true, true, true, true, true, true, false, false] rfl rfl (one_of HT_.out (by kernel_rfl)) (by decide) (fun K hK => ?_)
               refine goes_ Try.func41 (by kernel_rfl) rfl #[.int .i64 (rd l0 x8_3), .int .i64 t344] (by rfl) rfl rfl (by (try simp only [List.map_toArray, List.map_cons, List.map_nil]); first|done|rfl|(simp only [List.length_drop, List.length_take]; rfl)) ?_
               with_reducible refine (spec_WordPut.calls k3 (rd l0 x8_3) t344 t345 _ A27.out).mono ?_
               rintro e w33 ⟨v346, rfl, ho0, hb⟩
               refine ⟨_, rfl, ?_⟩
               have n0_ := Aside0.mk (Kd.R_elder' (by (with_reducible repeat (first|apply Kd.R_alloc|apply Kd.R_drewN|apply Kd.R_drew)); exact HO339.out) (Kd.R_base ho0) hb)
               have n1_ := Aside0.mk (Kd.R_elder' (by (with_reducible repeat (first|apply Kd.R_alloc|apply Kd.R_drewN|apply Kd.R_drew)); exact HO342.out) (Kd.R_base ho0) hb)
               have n2_ := Aside0.mk (Kd.R_lower (Kd.R_new' (Kd.R_new' ho0 (Kd.R_lt (by (with_reducible repeat (first|apply Kd.R_alloc|apply Kd.R_drewN|apply Kd.R_drew)); exact HO339.out))) (Kd.R_lt (by (with_reducible repeat (first|apply Kd.R_alloc|apply Kd.R_drewN|apply Kd.R_drew)); exact HO342.out))) (below_size (by repeat (first|(with_reducible first|exact HB.out|apply below_alloc|apply pw_below_drewN|apply below_drew1)|exact HB.out))))
               have n3_ := Aside0.mk (below_step (by repeat (first|(with_reducible first|exact HB.out|apply below_alloc|apply pw_below_drewN|apply below_drew1)|exact HB.out)) hb)
               clear HO339
               clear HO342
               clear HB
               have HO339 := n0_
               have HO342 := n1_
               have HO347 := n2_
               have HB := n3_
               clear n0_ n1_ n2_ n3_
               (try clear hb)
               (try clear hb2)
               (try clear hk)
               (try clear hi)
               (try clear ho0)
               obtain ⟨Ao35, co35, eo35⟩ := Kd.R_slice HO347.out
               (first|subst eo35|(injection eo35 with f1_ f2_ f3_; have f4_ := f1_.symm; have f5_ := f3_.symm; clear f1_ f2_ f3_; subst f4_; subst f5_))
               refine hK.out _ _ (((HB.out.cell (World.block_lt_of_cell? w _ hw343_0)).trans hw343_0)) (fun hHeld => ?_)
               clear hK K
               refine norm_ (a' := ?_) ?_ ?_
               rotate_left
               ·show Act.put _ (some 67) _ = _
                simp only [Act.put, List.setIfInBounds_toArray, List.set_cons_zero, List.set_cons_succ, i64_w, i32_w]
                rfl
               refine one_ (i := 8) (N := some 68) #[true, true, true, true, true, true, true, true, true, false] rfl rfl (one_of HT_.out (by kernel_rfl)) (by decide) (fun K hK => ?_)
               refine Kd.R_append_rows_step (Kd.int .u8) (w0 := w) w.heap.size (by rfl) (.tmp 60) (.tmp 67) 22 5 (.int .u8 0) 1 rfl Try.underlying22 info5 rfl (by decide) (by omega) v341 y340 t345 _ _ _ (fun k_ => some k_ ≠ (.slice Ao31 t337.length co31 : Value).ownBlock ∧ some k_ ≠ (.slice Ao35 t345.length co35 : Value).ownBlock) (fun _ => False) rfl rfl ?aO ?aR (fun _ _ h => h) (fun _ h => h.elim) ?aF ?aB ?aS ?aL ?_
               (case aR => repeat (first|exact (Kd.R_reads' HO347.out).2.2|(with_reducible refine Kd.C_alloc ?_ _)|(with_reducible refine Kd.C_drewN ?_ _)|(with_reducible refine Kd.C_drew ?_)))
               (case aB => exact (by repeat (first|(with_reducible first|exact HB.out|apply below_alloc|apply pw_below_drewN|apply below_drew1)|exact HB.out)))
               (case aF => exact (fun k_ hk => ⟨Kd.fresh' (Kd.R_lt (by (with_reducible repeat (first|apply Kd.R_alloc|apply Kd.R_drewN|apply Kd.R_drew)); exact HO339.out)) k_ hk, Kd.fresh' (Kd.R_lt (by (with_reducible repeat (first|apply Kd.R_alloc|apply Kd.R_drewN|apply Kd.R_drew)); exact HO347.out)) k_ hk⟩))
               (case aO => exact (by (with_reducible repeat (first|apply Kd.R_alloc|apply Kd.R_drewN|apply Kd.R_drew)); exact HO342.out))
               (case aS => exact (below_size (by repeat (first|(with_reducible first|exact HB.out|apply below_alloc|apply pw_below_drewN|apply below_drew1)|exact HB.out))))
               (case aL => have := LMc28.out; omega)
               intro v349 w34 ho hb hg hat
               rw [← Ny348.out] at ho
               have n0_ := Aside0.mk (Kd.R_after (ok := (fun k_ => some k_ ≠ (.slice Ao35 t345.length co35 : Value).ownBlock)) (by (with_reducible repeat (first|apply Kd.R_alloc|apply Kd.R_drewN|apply Kd.R_drew)); exact Kd.R_mono HO339.out (fun _ hk => ⟨hk.2, hk.1.2⟩)) hg hat)
               have n1_ := Aside0.mk (Kd.R_after (ok := (fun k_ => some k_ ≠ (.slice Ao31 t337.length co31 : Value).ownBlock)) (by (with_reducible repeat (first|apply Kd.R_alloc|apply Kd.R_drewN|apply Kd.R_drew)); exact Kd.R_mono HO347.out (fun _ hk => ⟨hk.1.2, hk.2⟩)) hg hat)
               have n2_ := Aside0.mk (hb)
               have n3_ := Aside0.mk (ho)
               clear HO339
               clear HO347
               clear HB
               clear HO342
               have HO339 := n0_
               have HO347 := n1_
               have HB := n2_
               have HO350 := n3_
               clear n0_ n1_ n2_ n3_
               clear ho hb hg hat
               refine hK.out _ _ (((HB.out.cell (World.block_lt_of_cell? w _ hw343_0)).trans hw343_0)) (fun hHeld => ?_)
               clear hK K
               refine norm_ (a' := ?_) ?_ ?_
               rotate_left
               ·show Act.put _ (some 68) _ = _
                simp only [Act.put, List.setIfInBounds_toArray, List.set_cons_zero, List.set_cons_succ, i64_w, i32_w]
                rfl
               refine pure_ (i := 9) (N := some 6) (v := ?_) (a' := ?_) #[true, true, true, true, true, true, true, true, true, true] rfl rfl (any_of HT_.out (by kernel_rfl)) (fun _ _ _ h => h) (Or.inl ⟨by rfl, ?_⟩) ?_ ?_
               rotate_left
               ·intro w'
                go_simp
                with_reducible rfl
               rotate_left
               ·simp only [Act.put, List.setIfInBounds_toArray, List.set_cons_zero, List.set_cons_succ, i64_w, i32_w]
                rfl
               refine done_ (done_of HT_.out (by kernel_rfl)) ?_
               (try simp only [setCell_drewN_])
               try go_wp2
               (try simp only [hji19v])
               (try simp only [hji20v])
               go_roundg k3
               case measure => have := HJ2.out; have := HK2.out; have := HK3.out; omega
               case rel => exact ⟨(y348), (wrap64 (x8_3 + t336)), (by first|rfl|(simp; done)|(simp [*]; done)), H', ⟨by have := HJ2.out; have := HK2.out; have := HK3.out; omega⟩, ⟨by (with_reducible repeat (first|apply Kd.R_alloc|apply Kd.R_drewN|apply Kd.R_drew)); exact Kd.R_mono HO350.out (fun _ hk => trivial)⟩, ⟨by repeat (first|(with_reducible first|exact HB.out|apply below_alloc|apply pw_below_drewN|apply below_drew1)|exact HB.out)⟩⟩
              ·rw [if_neg c28] at H
               exact absurd H (by simp)
             ·rw [if_neg c25] at H
              exact absurd H (by simp)
            ·rw [if_neg c24] at H
             have c24b0 : decide (0 < a1) = false := decide_eq_false c24
             clear c24
             have H' := Aside0.mk H
             clear H
             go_wp2_with (first|((with_reducible refine gate_callee (f := 39) rfl ?_); refine goesL_ (some 50) rfl rfl Try.func39 (by kernel_rfl) rfl #[.slice A0 l0.length c0, .int .i64 x8_3] rfl (by (try simp only [List.map_toArray, List.map_cons, List.map_nil]); first|done|rfl|(simp only [List.length_drop, List.length_take]; rfl)) ?_; (with_reducible refine (spec_l8Alike.calls k3 _ _ l0 x8_3 t336 _ ?side1 ?side2 A20.out).mono ?_); (case side1 => repeat (first|exact (Kd.C_below HR0.out HB.out)|(with_reducible refine Kd.C_alloc ?_ _)|(with_reducible refine Kd.C_drewN ?_ _)|(with_reducible refine Kd.C_drew ?_))); (case side2 => exact HC0.out); rintro e w' ⟨rfl, ⟨nd, rfl⟩⟩; refine ⟨_, rfl, ?_⟩)|((with_reducible refine gate_callee (f := 40) rfl ?_); refine goesL_ (some 56) rfl rfl Try.func40 (by kernel_rfl) rfl #[.int .i64 (wrap64 (2 * t336))] rfl (by (try simp only [List.map_toArray, List.map_cons, List.map_nil]); first|done|rfl|(simp only [List.length_drop, List.length_take]; rfl)) ?_; (with_reducible refine (spec_UvarPut.calls k3 (wrap64 (2 * t336)) t337 _ A22.out).mono ?_); rintro e w36 ⟨v338, rfl, ho0, hb⟩; refine ⟨_, rfl, ?_⟩; have n0_ := Aside0.mk (Kd.R_elder' (by (with_reducible repeat (first|apply Kd.R_alloc|apply Kd.R_drewN|apply Kd.R_drew)); exact HO_6.out) (Kd.R_base ho0) hb); have n1_ := Aside0.mk (Kd.R_lower (Kd.R_new' ho0 (Kd.R_lt (by (with_reducible repeat (first|apply Kd.R_alloc|apply Kd.R_drewN|apply Kd.R_drew)); exact HO_6.out))) (below_size (by repeat (first|(with_reducible first|exact HB.out|apply below_alloc|apply pw_below_drewN|apply below_drew1)|exact HB.out)))); have n2_ := Aside0.mk (below_step (by repeat (first|(with_reducible first|exact HB.out|apply below_alloc|apply pw_below_drewN|apply below_drew1)|exact HB.out)) hb); clear HO_6; clear HB; have HO_6 := n0_; have HO339 := n1_; have HB := n2_; clear n0_ n1_ n2_; (try clear hb); (try clear hb2); (try clear hk); (try clear hi); (try clear ho0); obtain ⟨Ao38, co38, eo38⟩ := Kd.R_slice HO339.out; subst eo38)|((with_reducible refine gate_builtin (b := .append) (xs := #[.tmp 53, .tmp 56]) rfl ?_); (try (refine gate_guard (by rfl) ?_; dsimp only)); at_builtin; refine Kd.R_append_rows (Kd.int .u8) (w0 := w) w.heap.size rfl (.tmp 53) (.tmp 56) 22 5 (.int .u8 0) 1 rfl Try.underlying22 info5 rfl (by decide) (by omega) u6 x6_3 t337 _ _ _ (fun k_ => some k_ ≠ (.slice Ao38 t337.length co38 : Value).ownBlock) (fun _ => False) rfl rfl ?aO ?aR (fun _ _ h => h) (fun _ h => h.elim) ?aF ?aB ?aS ?aL ?_; (case aR => repeat (first|exact (Kd.R_reads' HO339.out).2.2|(with_reducible refine Kd.C_alloc ?_ _)|(with_reducible refine Kd.C_drewN ?_ _)|(with_reducible refine Kd.C_drew ?_))); (case aB => exact (by repeat (first|(with_reducible first|exact HB.out|apply below_alloc|apply pw_below_drewN|apply below_drew1)|exact HB.out))); (case aF => exact (fun k_ hk => Kd.fresh' (Kd.R_lt (by (with_reducible repeat (first|apply Kd.R_alloc|apply Kd.R_drewN|apply Kd.R_drew)); exact HO339.out)) k_ hk)); (case aO => exact (by (with_reducible repeat (first|apply Kd.R_alloc|apply Kd.R_drewN|apply Kd.R_drew)); exact Kd.R_mono HO_6.out (fun _ hk => hk.2))); (case aS => exact (below_size (by repeat (first|(with_reducible first|exact HB.out|apply below_alloc|apply pw_below_drewN|apply below_drew1)|exact HB.out)))); (case aL => have := LMc23.out; omega); intro v341 w37 ho hb hg hat; rw [← Ny340.out] at ho; have n0_ := Aside0.mk (Kd.R_after (ok := (fun _ => True)) (by (with_reducible repeat (first|apply Kd.R_alloc|apply Kd.R_drewN|apply Kd.R_drew)); exact HO339.out) hg hat); have n1_ := Aside0.mk (hb); have n2_ := Aside0.mk (ho); clear HO339; clear HB; clear HO_6; have HO339 := n0_; have HB := n1_; have HO342 := n2_; clear n0_ n1_ n2_; clear ho hb hg hat))
             (try simp only [hji19v])
             (try simp only [hji20v])
             go_roundg k3
             case measure => have := HJ2.out; have := HK2.out; have := HK3.out; omega
             case rel => exact ⟨(y340), (wrap64 (x8_3 + t336)), (by first|rfl|(simp; done)|(simp [*]; done)), H', ⟨by have := HJ2.out; have := HK2.out; have := HK3.out; omega⟩, ⟨by (with_reducible repeat (first|apply Kd.R_alloc|apply Kd.R_drewN|apply Kd.R_drew)); exact Kd.R_mono HO342.out (fun _ hk => trivial)⟩, ⟨by repeat (first|(with_reducible first|exact HB.out|apply below_alloc|apply pw_below_drewN|apply below_drew1)|exact HB.out)⟩⟩
           ·rw [if_neg c23] at H
            exact absurd H (by simp)
          ·rw [if_neg c21] at H
           have c21b0 : decide (8 ≤ t336) = false := decide_eq_false c21
           clear c21
           obtain ⟨y351, hy351⟩ : ∃ y_ : List Int, y_ = (([] : List Int)) := ⟨_, rfl⟩
           replace H : (spec_RunPack.l2 k3 l0 a1 x6_3 x8_3 y351) = some (r1, r2) := by first|(rw [hy351]; with_reducible exact H)|(have H2_ := (Option.bind_some _ _).symm.trans H; rw [hy351]; with_reducible exact H2_)|(have H2_ := (Option.bind_some _ _).symm.trans H; with_reducible exact H2_)|with_reducible exact H|(rw [hy351]; exact H)|exact H
           have Ny351 := Aside0.mk hy351
           clear hy351
           have H' := Aside0.mk H
           clear H
           go_wp2_with (first|((with_reducible refine gate_callee (f := 39) rfl ?_); refine goesL_ (some 50) rfl rfl Try.func39 (by kernel_rfl) rfl #[.slice A0 l0.length c0, .int .i64 x8_3] rfl (by (try simp only [List.map_toArray, List.map_cons, List.map_nil]); first|done|rfl|(simp only [List.length_drop, List.length_take]; rfl)) ?_; (with_reducible refine (spec_l8Alike.calls k3 _ _ l0 x8_3 t336 _ ?side1 ?side2 A20.out).mono ?_); (case side1 => repeat (first|exact (Kd.C_below HR0.out HB.out)|(with_reducible refine Kd.C_alloc ?_ _)|(with_reducible refine Kd.C_drewN ?_ _)|(with_reducible refine Kd.C_drew ?_))); (case side2 => exact HC0.out); rintro e w' ⟨rfl, ⟨nd, rfl⟩⟩; refine ⟨_, rfl, ?_⟩)|((with_reducible refine gate_dst (N := 72) rfl ?_); (try (refine gate_guard (by rfl) ?_; dsimp only)); refine Kd.R_lit (Kd.int .i64) _ 3 ?hg (N := 72) ?hd (xs := ([] : List Int)) (inner := []) (ok := fun _ => True) (okp := fun _ => True) ?hr ?hp (fun _ hk => hk) trivial (Below.refl _ _) (Nat.le_refl _) (by simp) ?_; (case hd => rfl); (case hg => rfl); (case hr => first|(go_simp; done)|(go_simp; rfl)); (case hp => exact (Reps.none _ _)); intro v352 w39 ho40 hb hg_ hnew_; clear hg_ hnew_; (first|rw [← Ny351.out] at ho40|(simp only [Int.reduceToNat] at ho40; rw [← Ny351.out] at ho40)); have n0_ := Aside0.mk (Kd.R_below (by (with_reducible repeat (first|apply Kd.R_alloc|apply Kd.R_drewN|apply Kd.R_drew)); exact HO_6.out) hb); have n1_ := Aside0.mk (Kd.R_lower ho40 (below_size (by repeat (first|(with_reducible first|exact HB.out|apply below_alloc|apply pw_below_drewN|apply below_drew1)|exact HB.out)))); have n2_ := Aside0.mk (below_step (by repeat (first|(with_reducible first|exact HB.out|apply below_alloc|apply pw_below_drewN|apply below_drew1)|exact HB.out)) hb); clear HO_6; clear HB; have HO_6 := n0_; have HO353 := n1_; have HB := n2_; clear n0_ n1_ n2_; clear hb ho40))
           go_loopg [8, 10] k3 (fun kq v8 v10 w' => ∃ (x8_4 : Int) (x10_4 : List Int), v8 = .int .i64 x8_4 ∧ Aside0 (spec_RunPack.l2 kq l0 a1 x6_3 x8_4 x10_4 = some (r1, r2)) ∧ Aside0 (kq ≤ k3) ∧ Aside0 (Kd.R (Kd.int .u8) 5 w' w.heap.size (fun _ => True) u6 x6_3) ∧ Aside0 (Kd.R (Kd.int .i64) 3 w' w.heap.size (fun _ => True) v10 x10_4) ∧ Aside0 (Below w.heap.size w w'))
           case atStart => exact ⟨(x8_3), (y351), (by first|rfl|(simp; done)|(simp [*]; done)), H', ⟨Nat.le_refl _⟩, ⟨by (with_reducible repeat (first|apply Kd.R_alloc|apply Kd.R_drewN|apply Kd.R_drew)); exact HO_6.out⟩, ⟨by (with_reducible repeat (first|apply Kd.R_alloc|apply Kd.R_drewN|apply Kd.R_drew)); exact HO353.out⟩, ⟨by repeat (first|(with_reducible first|exact HB.out|apply below_alloc|apply pw_below_drewN|apply below_drew1)|exact HB.out)⟩⟩
           case round =>
            clear H'
            try clear c1
            try clear c2
            try clear p2
            try clear c3
            try clear p3
            try clear q3
            try clear hx3
            try clear c4
            try clear p6
            try clear c7
            try clear c8
            try clear c9
            try clear c9b0
            try clear c10
            try clear c10b0
            try clear c11
            try clear c11b0
            try clear c14
            try clear c14b0
            try clear c14b1
            try clear c16
            try clear c16b0
            try clear c16b1
            try clear c19
            try clear c19b0
            try clear c21
            try clear c21b0
            try clear c23
            try clear c24
            try clear c24b0
            try clear c25
            try clear c25b0
            try clear c28
            try clear p32
            try clear q32
            try clear hx32
            try clear p33
            try clear q33
            try clear hx33
            try clear p34
            try clear q34
            try clear hx34
            try clear c38
            try clear c39
            try clear c40
            try clear hx328_0
            try clear hx332_0
            try clear hx343_0
            try clear p2
            try clear p3
            try clear p328
            try clear p332
            try clear p343
            try clear p6
            try clear q3
            try clear q328
            try clear q332
            try clear q343
            obtain ⟨x8_4, x10_4, rfl, HA, HK4, HO_6, HO_10, HB⟩ := hrel
            cases gk with
            | zero => exact absurd HA.out (by simp [spec_RunPack.l2])
            | succ k4 =>
             have H := HA.out
             clear HA
             simp only [spec_RunPack.l2] at H
             have HC41 := Aside0.mk H
             clear H
             go_upto_region 18 with (fail)
             go_cut [87] (fun v87 wc => ∃ (kq : Nat) (x87_40 : Bool), v87 = .bool x87_40 ∧ Aside0 (spec_RunPack.j4 kq l0 a1 x6_3 x8_4 x10_4 x87_40 = some (r1, r2)) ∧ Aside0 (kq ≤ k4) ∧ Aside0 (Kd.R (Kd.int .u8) 5 wc w.heap.size (fun _ => True) u6 x6_3) ∧ Aside0 (Kd.R (Kd.int .i64) 3 wc w.heap.size (fun _ => True) u10 x10_4) ∧ Aside0 (Below w.heap.size w wc))
             case first =>
              have H := HC41.out
              clear HC41
              by_cases c42 : x8_4 < (l0.length : Int)
              ·rw [if_pos c42] at H
               have c42b0 : decide (x8_4 < (l0.length : Int)) = true := decide_eq_true c42
               clear c42
               (first|rw [c42b0]|(simp only [i64_w, i32_w]; rw [c42b0])|skip)
               by_cases c43 : (x10_4.length : Int) = 0
               ·rw [if_pos c43] at H
                have c43b0 : ((x10_4.length : Int) == 0) = true := beq_iff_eq.mpr c43
                have c43b1 : ((x10_4.length : Int) != 0) = false := bne_eq_false_iff_eq.mpr c43
                clear c43
                have H' := Aside0.mk H
                clear H
                obtain ⟨Ao44, co44, eo44⟩ := Kd.R_slice HO_10.out
                subst eo44
                go_wp2
                (try simp only [hji19v])
                (try simp only [hji20v])
                go_meet
                case rel => exact ⟨_, (true), (by first|rfl|(simp; done)|(simp [*]; done)), H', ⟨by have := HJ2.out; have := HK2.out; have := HK3.out; have := HK4.out; first|omega|exact Nat.le_refl _⟩, ⟨by (with_reducible repeat (first|apply Kd.R_alloc|apply Kd.R_drewN|apply Kd.R_drew)); exact HO_6.out⟩, ⟨by (with_reducible repeat (first|apply Kd.R_alloc|apply Kd.R_drewN|apply Kd.R_drew)); exact HO_10.out⟩, ⟨by repeat (first|(with_reducible first|exact HB.out|apply below_alloc|apply pw_below_drewN|apply below_drew1)|exact HB.out)⟩⟩
               ·rw [if_neg c43] at H
                have c43b0 : ((x10_4.length : Int) == 0) = false := beq_eq_false_iff_ne.mpr c43
                have c43b1 : ((x10_4.length : Int) != 0) = true := bne_iff_ne.mpr c43
                have c43b2 : ¬ (x10_4 = []) := fun h_ => c43 (by rw [h_]; rfl)
                replace H := Option.bind_eq_some_iff.mp H
                obtain ⟨t354, A450, H⟩ := H
                replace H : (spec_RunPack.j4 k4 l0 a1 x6_3 x8_4 x10_4 (decide (t354 < 8))) = some (r1, r2) := H
                have A45 := Aside0.mk A450
                clear A450
                have H' := Aside0.mk H
                clear H
                obtain ⟨Ao46, co46, eo46⟩ := Kd.R_slice HO_10.out
                subst eo46
                go_wp2_with (first|(go_at_call 39; (with_reducible refine (spec_l8Alike.calls k4 _ _ l0 x8_4 t354 _ ?side1 ?side2 A45.out).mono ?_); (case side1 => repeat (first|exact (Kd.C_below HR0.out HB.out)|(with_reducible refine Kd.C_alloc ?_ _)|(with_reducible refine Kd.C_drewN ?_ _)|(with_reducible refine Kd.C_drew ?_))); (case side2 => exact HC0.out); rintro e w' ⟨rfl, ⟨nd, rfl⟩⟩))
                (try simp only [hji19v])
                (try simp only [hji20v])
                go_meet
                case rel => exact ⟨_, (decide (t354 < 8)), (by first|rfl|(simp; done)|(simp [*]; done)), H', ⟨by have := HJ2.out; have := HK2.out; have := HK3.out; have := HK4.out; first|omega|exact Nat.le_refl _⟩, ⟨by (with_reducible repeat (first|apply Kd.R_alloc|apply Kd.R_drewN|apply Kd.R_drew)); exact HO_6.out⟩, ⟨by (with_reducible repeat (first|apply Kd.R_alloc|apply Kd.R_drewN|apply Kd.R_drew)); exact HO_10.out⟩, ⟨by repeat (first|(with_reducible first|exact HB.out|apply below_alloc|apply pw_below_drewN|apply below_drew1)|exact HB.out)⟩⟩
              ·rw [if_neg c42] at H
               have c42b0 : decide (x8_4 < (l0.length : Int)) = false := decide_eq_false c42
               clear c42
               (first|rw [c42b0]|(simp only [i64_w, i32_w]; rw [c42b0])|skip)
               have H' := Aside0.mk H
               clear H
               go_wp2
               (try simp only [hji19v])
               (try simp only [hji20v])
               go_meet
               case rel => exact ⟨_, (false), (by first|rfl|(simp; done)|(simp [*]; done)), H', ⟨by have := HJ2.out; have := HK2.out; have := HK3.out; have := HK4.out; first|omega|exact Nat.le_refl _⟩, ⟨by (with_reducible repeat (first|apply Kd.R_alloc|apply Kd.R_drewN|apply Kd.R_drew)); exact HO_6.out⟩, ⟨by (with_reducible repeat (first|apply Kd.R_alloc|apply Kd.R_drewN|apply Kd.R_drew)); exact HO_10.out⟩, ⟨by repeat (first|(with_reducible first|exact HB.out|apply below_alloc|apply pw_below_drewN|apply below_drew1)|exact HB.out)⟩⟩
             case rest =>
              clear HC41
              try clear c1
              try clear c2
              try clear p2
              try clear c3
              try clear p3
              try clear q3
              try clear hx3
              try clear c4
              try clear p6
              try clear c7
              try clear c8
              try clear c9
              try clear c9b0
              try clear c10
              try clear c10b0
              try clear c11
              try clear c11b0
              try clear c14
              try clear c14b0
              try clear c14b1
              try clear c16
              try clear c16b0
              try clear c16b1
              try clear c19
              try clear c19b0
              try clear c21
              try clear c21b0
              try clear c23
              try clear c24
              try clear c24b0
              try clear c25
              try clear c25b0
              try clear c28
              try clear p32
              try clear q32
              try clear hx32
              try clear p33
              try clear q33
              try clear hx33
              try clear p34
              try clear q34
              try clear hx34
              try clear c38
              try clear c39
              try clear c40
              try clear c41
              try clear c42
              try clear c42b0
              try clear c43
              try clear c43b0
              try clear c43b1
              try clear c43b2
              try clear hx328_0
              try clear hx332_0
              try clear hx343_0
              try clear p2
              try clear p3
              try clear p32
              try clear p328
              try clear p33
              try clear p332
              try clear p34
              try clear p343
              try clear p6
              try clear q3
              try clear q32
              try clear q328
              try clear q33
              try clear q332
              try clear q34
              try clear q343
              obtain ⟨kq, x87_40, rfl, HA, HJ40, HO_6, HO_10, HB⟩ := hcut
              cases kq with
              | zero => exact absurd HA.out (by simp [spec_RunPack.j4])
              | succ kj40 =>
               have H := HA.out
               clear HA
               simp only [spec_RunPack.j4] at H
               by_cases c47 : x87_40 = true
               ·subst c47
                have H1 : (spec_RunPack.l3 kj40 l0 a1 x6_3 x8_4 x10_4 0) = some (r1, r2) := by rw [if_pos rfl] at H; exact H
                clear H
                have H := H1
                clear H1
                have H' := Aside0.mk H
                clear H
                go_wp2
                go_loopg [10, 11] kj40 (fun kq v10 v11 w' => ∃ (x10_6 : List Int) (x11_6 : Int), v11 = .int .i64 x11_6 ∧ Aside0 (spec_RunPack.l3 kq l0 a1 x6_3 x8_4 x10_6 x11_6 = some (r1, r2)) ∧ Aside0 (kq ≤ kj40) ∧ Aside0 (Kd.R (Kd.int .u8) 5 w' w.heap.size (fun _ => True) u6 x6_3) ∧ Aside0 (Kd.R (Kd.int .i64) 3 w' w.heap.size (fun _ => True) v10 x10_6) ∧ Aside0 (Below w.heap.size w w'))
                case atStart => exact ⟨(x10_4), (0), (by first|rfl|(simp; done)|(simp [*]; done)), H', ⟨Nat.le_refl _⟩, ⟨by (with_reducible repeat (first|apply Kd.R_alloc|apply Kd.R_drewN|apply Kd.R_drew)); exact HO_6.out⟩, ⟨by (with_reducible repeat (first|apply Kd.R_alloc|apply Kd.R_drewN|apply Kd.R_drew)); exact HO_10.out⟩, ⟨by repeat (first|(with_reducible first|exact HB.out|apply below_alloc|apply pw_below_drewN|apply below_drew1)|exact HB.out)⟩⟩
                case round =>
                 clear H'
                 try clear c1
                 try clear c2
                 try clear p2
                 try clear c3
                 try clear p3
                 try clear q3
                 try clear hx3
                 try clear c4
                 try clear p6
                 try clear c7
                 try clear c8
                 try clear c9
                 try clear c9b0
                 try clear c10
                 try clear c10b0
                 try clear c11
                 try clear c11b0
                 try clear c14
                 try clear c14b0
                 try clear c14b1
                 try clear c16
                 try clear c16b0
                 try clear c16b1
                 try clear c19
                 try clear c19b0
                 try clear c21
                 try clear c21b0
                 try clear c23
                 try clear c24
                 try clear c24b0
                 try clear c25
                 try clear c25b0
                 try clear c28
                 try clear p32
                 try clear q32
                 try clear hx32
                 try clear p33
                 try clear q33
                 try clear hx33
                 try clear p34
                 try clear q34
                 try clear hx34
                 try clear c38
                 try clear c39
                 try clear c40
                 try clear c41
                 try clear c42
                 try clear c42b0
                 try clear c43
                 try clear c43b0
                 try clear c43b1
                 try clear c43b2
                 try clear c47
                 try clear hx328_0
                 try clear hx332_0
                 try clear hx343_0
                 try clear p2
                 try clear p3
                 try clear p32
                 try clear p328
                 try clear p33
                 try clear p332
                 try clear p34
                 try clear p343
                 try clear p6
                 try clear q3
                 try clear q32
                 try clear q328
                 try clear q33
                 try clear q332
                 try clear q34
                 try clear q343
                 obtain ⟨x10_6, x11_6, rfl, HA, HK6, HO_6, HO_10, HB⟩ := hrel
                 cases gk with
                 | zero => exact absurd HA.out (by simp [spec_RunPack.l3])
                 | succ k6 =>
                  have H := HA.out
                  clear HA
                  simp only [spec_RunPack.l3] at H
                  by_cases c48 : x11_6 < 8
                  ·rw [if_pos c48] at H
                   have c48b0 : decide (x11_6 < 8) = true := decide_eq_true c48
                   clear c48
                   by_cases c49 : (wrap64 (x8_4 + x11_6)) < (l0.length : Int)
                   ·rw [if_pos c49] at H
                    have c49b0 : decide ((wrap64 (x8_4 + x11_6)) < (l0.length : Int)) = true := decide_eq_true c49
                    clear c49
                    obtain ⟨ji50, hji50⟩ : ∃ j_ : Int, (wrap64 (x8_4 + x11_6)) = j_ := ⟨_, rfl⟩
                    replace H : (if 0 ≤ (ji50) then (if x10_6.length < 17592186044416 then (spec_RunPack.l3 k6 l0 a1 x6_3 x8_4 (x10_6 ++ [rd l0 (ji50)]) (wrap64 (x11_6 + 1))) else (none)) else (none)) = some (r1, r2) := by first|(rw [hji50] at H; exact H)|(simp only [hji50] at H ⊢; exact H)
                    (try rw [hji50] at c49b0)
                    have hji50w : (IntKind.i64.wrap (x8_4 + x11_6)) = ji50 := (i64_w _).trans hji50
                    by_cases c51 : 0 ≤ (ji50)
                    ·rw [if_pos c51] at H
                     have c51b0 : decide (0 ≤ (ji50)) = true := decide_eq_true c51
                     clear c51
                     by_cases c52 : x10_6.length < 17592186044416
                     ·rw [if_pos c52] at H
                      have LMc52 := Aside0.mk c52
                      clear c52
                      obtain ⟨y368, hy368⟩ : ∃ y_ : List Int, y_ = (x10_6 ++ [rd l0 (ji50)]) := ⟨_, rfl⟩
                      replace H : (spec_RunPack.l3 k6 l0 a1 x6_3 x8_4 y368 (wrap64 (x11_6 + 1))) = some (r1, r2) := by first|(rw [hy368]; with_reducible exact H)|(have H2_ := (Option.bind_some _ _).symm.trans H; rw [hy368]; with_reducible exact H2_)|(have H2_ := (Option.bind_some _ _).symm.trans H; with_reducible exact H2_)|with_reducible exact H|(rw [hy368]; exact H)|exact H
                      have Ny368 := Aside0.mk hy368
                      clear hy368
                      have H' := Aside0.mk H
                      clear H
                      have p367 : 0 ≤ ((ji50) : Int) := of_decide_eq_true (by first|(with_reducible assumption)|assumption)
                      have q367 : (ji50) < (l0.length : Int) := of_decide_eq_true (by first|(with_reducible assumption)|assumption)
                      obtain ⟨ad367, e367, hx367_0⟩ := Kd.at_int HR0.out (ji50) p367 q367
                      cases e367
                      replace hx367_0 := (HB.out.cell (World.block_lt_of_cell? w _ hx367_0)).trans hx367_0
                      replace p367 := eq_true p367
                      replace q367 := eq_true q367
                      go_wp2_with (first|((with_reducible refine gate_builtin (b := .append) (xs := #[.tmp 104, .tmp 106]) rfl ?_); (try (refine gate_guard (by rfl) ?_; dsimp only)); at_builtin; refine Kd.R_append (Kd.int .i64) (w0 := w) w.heap.size rfl (.tmp 104) (.tmp 106) 24 3 (.int .i64 0) 8 rfl Try.underlying24 info3 rfl (by decide) (by omega) u10 x10_6 (rd l0 (ji50)) [.int .i64 (rd l0 (ji50))] (fun _ => True) (fun _ => False) rfl rfl ?aP (fun _ hk => hk.elim) ?aF ?aO ?aB ?aS ?aL ?_; (case aP => exact rfl); (case aB => exact (by repeat (first|(with_reducible first|exact HB.out|apply below_alloc|apply pw_below_drewN|apply below_drew1)|exact HB.out))); (case aF => exact (fun _ _ => trivial)); (case aO => exact (by (with_reducible repeat (first|apply Kd.R_alloc|apply Kd.R_drewN|apply Kd.R_drew)); exact HO_10.out)); (case aS => exact (below_size (by repeat (first|(with_reducible first|exact HB.out|apply below_alloc|apply pw_below_drewN|apply below_drew1)|exact HB.out)))); (case aL => have := LMc52.out; omega); intro v369 w53 ho hb hg hat; rw [← Ny368.out] at ho; have n0_ := Aside0.mk (Kd.R_over' (by (with_reducible repeat (first|apply Kd.R_alloc|apply Kd.R_drewN|apply Kd.R_drew)); exact HO_6.out) (Kd.R_typed (by (with_reducible repeat (first|apply Kd.R_alloc|apply Kd.R_drewN|apply Kd.R_drew)); exact HO_10.out)) (by decide) hg); have n1_ := Aside0.mk (hb); have n2_ := Aside0.mk (ho); clear HO_6; clear HB; clear HO_10; have HO_6 := n0_; have HB := n1_; have HO370 := n2_; clear n0_ n1_ n2_; clear ho hb hg hat))
                      (try simp only [hji19v])
                      (try simp only [hji20v])
                      go_roundg k6
                      case measure => have := HJ2.out; have := HK2.out; have := HK3.out; have := HK4.out; have := HJ40.out; have := HK6.out; omega
                      case rel => exact ⟨(y368), (wrap64 (x11_6 + 1)), (by first|rfl|(simp; done)|(simp [*]; done)), H', ⟨by have := HJ2.out; have := HK2.out; have := HK3.out; have := HK4.out; have := HJ40.out; have := HK6.out; omega⟩, ⟨by (with_reducible repeat (first|apply Kd.R_alloc|apply Kd.R_drewN|apply Kd.R_drew)); exact HO_6.out⟩, ⟨by (with_reducible repeat (first|apply Kd.R_alloc|apply Kd.R_drewN|apply Kd.R_drew)); exact HO370.out⟩, ⟨by repeat (first|(with_reducible first|exact HB.out|apply below_alloc|apply pw_below_drewN|apply below_drew1)|exact HB.out)⟩⟩
                     ·rw [if_neg c52] at H
                      exact absurd H (by simp)
                    ·rw [if_neg c51] at H
                     exact absurd H (by simp)
                   ·rw [if_neg c49] at H
                    have c49b0 : decide ((wrap64 (x8_4 + x11_6)) < (l0.length : Int)) = false := decide_eq_false c49
                    clear c49
                    by_cases c54 : x10_6.length < 17592186044416
                    ·rw [if_pos c54] at H
                     have LMc54 := Aside0.mk c54
                     clear c54
                     obtain ⟨y371, hy371⟩ : ∃ y_ : List Int, y_ = (x10_6 ++ [0]) := ⟨_, rfl⟩
                     replace H : (spec_RunPack.l3 k6 l0 a1 x6_3 x8_4 y371 (wrap64 (x11_6 + 1))) = some (r1, r2) := by first|(rw [hy371]; with_reducible exact H)|(have H2_ := (Option.bind_some _ _).symm.trans H; rw [hy371]; with_reducible exact H2_)|(have H2_ := (Option.bind_some _ _).symm.trans H; with_reducible exact H2_)|with_reducible exact H|(rw [hy371]; exact H)|exact H
                     have Ny371 := Aside0.mk hy371
                     clear hy371
                     have H' := Aside0.mk H
                     clear H
                     go_wp2_with (first|((with_reducible refine gate_builtin (b := .append) (xs := #[.tmp 104, .tmp 106]) rfl ?_); (try (refine gate_guard (by rfl) ?_; dsimp only)); at_builtin; refine Kd.R_append (Kd.int .i64) (w0 := w) w.heap.size rfl (.tmp 104) (.tmp 106) 24 3 (.int .i64 0) 8 rfl Try.underlying24 info3 rfl (by decide) (by omega) u10 x10_6 0 [.int .i64 0] (fun _ => True) (fun _ => False) rfl rfl ?aP (fun _ hk => hk.elim) ?aF ?aO ?aB ?aS ?aL ?_; (case aP => exact rfl); (case aB => exact (by repeat (first|(with_reducible first|exact HB.out|apply below_alloc|apply pw_below_drewN|apply below_drew1)|exact HB.out))); (case aF => exact (fun _ _ => trivial)); (case aO => exact (by (with_reducible repeat (first|apply Kd.R_alloc|apply Kd.R_drewN|apply Kd.R_drew)); exact HO_10.out)); (case aS => exact (below_size (by repeat (first|(with_reducible first|exact HB.out|apply below_alloc|apply pw_below_drewN|apply below_drew1)|exact HB.out)))); (case aL => have := LMc54.out; omega); intro v372 w55 ho hb hg hat; rw [← Ny371.out] at ho; have n0_ := Aside0.mk (Kd.R_over' (by (with_reducible repeat (first|apply Kd.R_alloc|apply Kd.R_drewN|apply Kd.R_drew)); exact HO_6.out) (Kd.R_typed (by (with_reducible repeat (first|apply Kd.R_alloc|apply Kd.R_drewN|apply Kd.R_drew)); exact HO_10.out)) (by decide) hg); have n1_ := Aside0.mk (hb); have n2_ := Aside0.mk (ho); clear HO_6; clear HB; clear HO_10; have HO_6 := n0_; have HB := n1_; have HO373 := n2_; clear n0_ n1_ n2_; clear ho hb hg hat))
                     (try simp only [hji19v])
                     (try simp only [hji20v])
                     go_roundg k6
                     case measure => have := HJ2.out; have := HK2.out; have := HK3.out; have := HK4.out; have := HJ40.out; have := HK6.out; omega
                     case rel => exact ⟨(y371), (wrap64 (x11_6 + 1)), (by first|rfl|(simp; done)|(simp [*]; done)), H', ⟨by have := HJ2.out; have := HK2.out; have := HK3.out; have := HK4.out; have := HJ40.out; have := HK6.out; omega⟩, ⟨by (with_reducible repeat (first|apply Kd.R_alloc|apply Kd.R_drewN|apply Kd.R_drew)); exact HO_6.out⟩, ⟨by (with_reducible repeat (first|apply Kd.R_alloc|apply Kd.R_drewN|apply Kd.R_drew)); exact HO373.out⟩, ⟨by repeat (first|(with_reducible first|exact HB.out|apply below_alloc|apply pw_below_drewN|apply below_drew1)|exact HB.out)⟩⟩
                    ·rw [if_neg c54] at H
                     exact absurd H (by simp)
                  ·rw [if_neg c48] at H
                   have c48b0 : decide (x11_6 < 8) = false := decide_eq_false c48
                   clear c48
                   have H' := Aside0.mk H
                   clear H
                   go_wp2
                   (try simp only [hji19v])
                   (try simp only [hji20v])
                   go_roundg k6
                   case measure => have := HJ2.out; have := HK2.out; have := HK3.out; have := HK4.out; have := HJ40.out; have := HK6.out; omega
                   case rel => exact ⟨(wrap64 (x8_4 + 8)), (x10_6), (by first|rfl|(simp; done)|(simp [*]; done)), H', ⟨by have := HJ2.out; have := HK2.out; have := HK3.out; have := HK4.out; have := HJ40.out; have := HK6.out; omega⟩, ⟨by (with_reducible repeat (first|apply Kd.R_alloc|apply Kd.R_drewN|apply Kd.R_drew)); exact HO_6.out⟩, ⟨by (with_reducible repeat (first|apply Kd.R_alloc|apply Kd.R_drewN|apply Kd.R_drew)); exact HO_10.out⟩, ⟨by repeat (first|(with_reducible first|exact HB.out|apply below_alloc|apply pw_below_drewN|apply below_drew1)|exact HB.out)⟩⟩
               ·replace c47 := Bool.eq_false_iff.mpr c47
                subst c47
                have H1 : ((spec_UvarPut.f kj40 (wrap64 ((wrap64 (2 * (wrap64 ((x10_4.length : Int) / 8)))) + 1))).bind fun t355 => (if x6_3.length + t355.length < 140737488355328 then ((some (x6_3 ++ t355 : List Int)).bind fun y358 => ((spec_l8Bits.f kj40 x10_4 a1).bind fun t361 => (if y358.length + t361.length < 140737488355328 then (spec_RunPack.l1 kj40 l0 a1 (y358 ++ t361) x8_4) else (none)))) else (none))) = some (r1, r2) := by rw [if_neg (show ¬ (false = true) by decide)] at H; exact H
                clear H
                have H := H1
                clear H1
                replace H := Option.bind_eq_some_iff.mp H
                obtain ⟨t355, A560, H⟩ := H
                replace H : (if x6_3.length + t355.length < 140737488355328 then ((some (x6_3 ++ t355 : List Int)).bind fun y358 => ((spec_l8Bits.f kj40 x10_4 a1).bind fun t361 => (if y358.length + t361.length < 140737488355328 then (spec_RunPack.l1 kj40 l0 a1 (y358 ++ t361) x8_4) else (none)))) else (none)) = some (r1, r2) := H
                have A56 := Aside0.mk A560
                clear A560
                by_cases c57 : x6_3.length + t355.length < 140737488355328
                ·rw [if_pos c57] at H
                 have LMc57 := Aside0.mk c57
                 clear c57
                 obtain ⟨y358, hy358⟩ : ∃ y_ : List Int, y_ = (x6_3 ++ t355) := ⟨_, rfl⟩
                 replace H : ((spec_l8Bits.f kj40 x10_4 a1).bind fun t361 => (if y358.length + t361.length < 140737488355328 then (spec_RunPack.l1 kj40 l0 a1 (y358 ++ t361) x8_4) else (none))) = some (r1, r2) := by first|(rw [hy358]; with_reducible exact H)|(have H2_ := (Option.bind_some _ _).symm.trans H; rw [hy358]; with_reducible exact H2_)|(have H2_ := (Option.bind_some _ _).symm.trans H; with_reducible exact H2_)|with_reducible exact H|(rw [hy358]; exact H)|exact H
                 have Ny358 := Aside0.mk hy358
                 clear hy358
                 replace H := Option.bind_eq_some_iff.mp H
                 obtain ⟨t361, A580, H⟩ := H
                 replace H : (if y358.length + t361.length < 140737488355328 then (spec_RunPack.l1 kj40 l0 a1 (y358 ++ t361) x8_4) else (none)) = some (r1, r2) := H
                 have A58 := Aside0.mk A580
                 clear A580
                 by_cases c59 : y358.length + t361.length < 140737488355328
                 ·rw [if_pos c59] at H
                  have LMc59 := Aside0.mk c59
                  clear c59
                  obtain ⟨y364, hy364⟩ : ∃ y_ : List Int, y_ = (y358 ++ t361) := ⟨_, rfl⟩
                  replace H : (spec_RunPack.l1 kj40 l0 a1 y364 x8_4) = some (r1, r2) := by first|(rw [hy364]; with_reducible exact H)|(have H2_ := (Option.bind_some _ _).symm.trans H; rw [hy364]; with_reducible exact H2_)|(have H2_ := (Option.bind_some _ _).symm.trans H; with_reducible exact H2_)|with_reducible exact H|(rw [hy364]; exact H)|exact H
                  have Ny364 := Aside0.mk hy364
                  clear hy364
                  have H' := Aside0.mk H
                  clear H
                  obtain ⟨Ao60, co60, eo60⟩ := Kd.R_slice HO_10.out
                  subst eo60
                  go_wp2_with (first|((with_reducible refine gate_callee (f := 40) rfl ?_); refine goesL_ (some 116) rfl rfl Try.func40 (by kernel_rfl) rfl #[.int .i64 (wrap64 ((wrap64 (2 * (wrap64 ((x10_4.length : Int) / 8)))) + 1))] rfl (by (try simp only [List.map_toArray, List.map_cons, List.map_nil]); first|done|rfl|(simp only [List.length_drop, List.length_take]; rfl)) ?_; (with_reducible refine (spec_UvarPut.calls kj40 (wrap64 ((wrap64 (2 * (wrap64 ((x10_4.length : Int) / 8)))) + 1)) t355 _ A56.out).mono ?_); rintro e w61 ⟨v356, rfl, ho0, hb⟩; refine ⟨_, rfl, ?_⟩; have n0_ := Aside0.mk (Kd.R_elder' (by (with_reducible repeat (first|apply Kd.R_alloc|apply Kd.R_drewN|apply Kd.R_drew)); exact HO_6.out) (Kd.R_base ho0) hb); have n1_ := Aside0.mk (Kd.R_below (by (with_reducible repeat (first|apply Kd.R_alloc|apply Kd.R_drewN|apply Kd.R_drew)); exact HO_10.out) hb); have n2_ := Aside0.mk (Kd.R_lower (Kd.R_new' ho0 (Kd.R_lt (by (with_reducible repeat (first|apply Kd.R_alloc|apply Kd.R_drewN|apply Kd.R_drew)); exact HO_6.out))) (below_size (by repeat (first|(with_reducible first|exact HB.out|apply below_alloc|apply pw_below_drewN|apply below_drew1)|exact HB.out)))); have n3_ := Aside0.mk (below_step (by repeat (first|(with_reducible first|exact HB.out|apply below_alloc|apply pw_below_drewN|apply below_drew1)|exact HB.out)) hb); clear HO_6; clear HO_10; clear HB; have HO_6 := n0_; have HO_10 := n1_; have HO357 := n2_; have HB := n3_; clear n0_ n1_ n2_ n3_; (try clear hb); (try clear hb2); (try clear hk); (try clear hi); (try clear ho0); obtain ⟨Ao63, co63, eo63⟩ := Kd.R_slice HO357.out; subst eo63)|((with_reducible refine gate_builtin (b := .append) (xs := #[.tmp 110, .tmp 116]) rfl ?_); (try (refine gate_guard (by rfl) ?_; dsimp only)); at_builtin; refine Kd.R_append_rows (Kd.int .u8) (w0 := w) w.heap.size rfl (.tmp 110) (.tmp 116) 22 5 (.int .u8 0) 1 rfl Try.underlying22 info5 rfl (by decide) (by omega) u6 x6_3 t355 _ _ _ (fun k_ => some k_ ≠ (.slice Ao63 t355.length co63 : Value).ownBlock) (fun _ => False) rfl rfl ?aO ?aR (fun _ _ h => h) (fun _ h => h.elim) ?aF ?aB ?aS ?aL ?_; (case aR => repeat (first|exact (Kd.R_reads' HO357.out).2.2|(with_reducible refine Kd.C_alloc ?_ _)|(with_reducible refine Kd.C_drewN ?_ _)|(with_reducible refine Kd.C_drew ?_))); (case aB => exact (by repeat (first|(with_reducible first|exact HB.out|apply below_alloc|apply pw_below_drewN|apply below_drew1)|exact HB.out))); (case aF => exact (fun k_ hk => Kd.fresh' (Kd.R_lt (by (with_reducible repeat (first|apply Kd.R_alloc|apply Kd.R_drewN|apply Kd.R_drew)); exact HO357.out)) k_ hk)); (case aO => exact (by (with_reducible repeat (first|apply Kd.R_alloc|apply Kd.R_drewN|apply Kd.R_drew)); exact Kd.R_mono HO_6.out (fun _ hk => hk.2))); (case aS => exact (below_size (by repeat (first|(with_reducible first|exact HB.out|apply below_alloc|apply pw_below_drewN|apply below_drew1)|exact HB.out)))); (case aL => have := LMc57.out; omega); intro v359 w62 ho hb hg hat; rw [← Ny358.out] at ho; have n0_ := Aside0.mk (Kd.R_over' (by (with_reducible repeat (first|apply Kd.R_alloc|apply Kd.R_drewN|apply Kd.R_drew)); exact HO_10.out) (Kd.R_typed (by (with_reducible repeat (first|apply Kd.R_alloc|apply Kd.R_drewN|apply Kd.R_drew)); exact HO_6.out)) (by decide) hg); have n1_ := Aside0.mk (Kd.R_after (ok := (fun _ => True)) (by (with_reducible repeat (first|apply Kd.R_alloc|apply Kd.R_drewN|apply Kd.R_drew)); exact HO357.out) hg hat); have n2_ := Aside0.mk (hb); have n3_ := Aside0.mk (ho); clear HO_10; clear HO357; clear HB; clear HO_6; have HO_10 := n0_; have HO357 := n1_; have HB := n2_; have HO360 := n3_; clear n0_ n1_ n2_ n3_; clear ho hb hg hat)|((with_reducible refine gate_callee (f := 43) rfl ?_); refine goesL_ (some 121) rfl rfl Try.func43 (by kernel_rfl) rfl #[.slice Ao60 x10_4.length co60, .int .i64 a1] rfl (by (try simp only [List.map_toArray, List.map_cons, List.map_nil]); first|done|rfl|(simp only [List.length_drop, List.length_take]; rfl)) ?_; (with_reducible refine (spec_l8Bits.calls kj40 _ _ x10_4 a1 t361 _ ?side1 ?side2 A58.out).mono ?_); (case side1 => repeat (first|exact (Kd.R_reads' HO_10.out).2.2|(with_reducible refine Kd.C_alloc ?_ _)|(with_reducible refine Kd.C_drewN ?_ _)|(with_reducible refine Kd.C_drew ?_))); (case side2 => exact (Kd.R_reads' HO_10.out).2.1); rintro e w64 ⟨v362, rfl, ho0, hb⟩; refine ⟨_, rfl, ?_⟩; have n0_ := Aside0.mk (Kd.R_below (by (with_reducible repeat (first|apply Kd.R_alloc|apply Kd.R_drewN|apply Kd.R_drew)); exact HO_10.out) hb); have n1_ := Aside0.mk (Kd.R_elder' (by (with_reducible repeat (first|apply Kd.R_alloc|apply Kd.R_drewN|apply Kd.R_drew)); exact HO357.out) (Kd.R_base ho0) hb); have n2_ := Aside0.mk (Kd.R_elder' (by (with_reducible repeat (first|apply Kd.R_alloc|apply Kd.R_drewN|apply Kd.R_drew)); exact HO360.out) (Kd.R_base ho0) hb); have n3_ := Aside0.mk (Kd.R_lower (Kd.R_new' (Kd.R_new' ho0 (Kd.R_lt (by (with_reducible repeat (first|apply Kd.R_alloc|apply Kd.R_drewN|apply Kd.R_drew)); exact HO357.out))) (Kd.R_lt (by (with_reducible repeat (first|apply Kd.R_alloc|apply Kd.R_drewN|apply Kd.R_drew)); exact HO360.out))) (below_size (by repeat (first|(with_reducible first|exact HB.out|apply below_alloc|apply pw_below_drewN|apply below_drew1)|exact HB.out)))); have n4_ := Aside0.mk (below_step (by repeat (first|(with_reducible first|exact HB.out|apply below_alloc|apply pw_below_drewN|apply below_drew1)|exact HB.out)) hb); clear HO_10; clear HO357; clear HO360; clear HB; have HO_10 := n0_; have HO357 := n1_; have HO360 := n2_; have HO363 := n3_; have HB := n4_; clear n0_ n1_ n2_ n3_ n4_; (try clear hb); (try clear hb2); (try clear hk); (try clear hi); (try clear ho0); obtain ⟨Ao66, co66, eo66⟩ := Kd.R_slice HO363.out; subst eo66)|((with_reducible refine gate_builtin (b := .append) (xs := #[.tmp 118, .tmp 121]) rfl ?_); (try (refine gate_guard (by rfl) ?_; dsimp only)); at_builtin; refine Kd.R_append_rows (Kd.int .u8) (w0 := w) w.heap.size rfl (.tmp 118) (.tmp 121) 22 5 (.int .u8 0) 1 rfl Try.underlying22 info5 rfl (by decide) (by omega) v359 y358 t361 _ _ _ (fun k_ => some k_ ≠ (.slice Ao63 t355.length co63 : Value).ownBlock ∧ some k_ ≠ (.slice Ao66 t361.length co66 : Value).ownBlock) (fun _ => False) rfl rfl ?aO ?aR (fun _ _ h => h) (fun _ h => h.elim) ?aF ?aB ?aS ?aL ?_; (case aR => repeat (first|exact (Kd.R_reads' HO363.out).2.2|(with_reducible refine Kd.C_alloc ?_ _)|(with_reducible refine Kd.C_drewN ?_ _)|(with_reducible refine Kd.C_drew ?_))); (case aB => exact (by repeat (first|(with_reducible first|exact HB.out|apply below_alloc|apply pw_below_drewN|apply below_drew1)|exact HB.out))); (case aF => exact (fun k_ hk => ⟨Kd.fresh' (Kd.R_lt (by (with_reducible repeat (first|apply Kd.R_alloc|apply Kd.R_drewN|apply Kd.R_drew)); exact HO357.out)) k_ hk, Kd.fresh' (Kd.R_lt (by (with_reducible repeat (first|apply Kd.R_alloc|apply Kd.R_drewN|apply Kd.R_drew)); exact HO363.out)) k_ hk⟩)); (case aO => exact (by (with_reducible repeat (first|apply Kd.R_alloc|apply Kd.R_drewN|apply Kd.R_drew)); exact HO360.out)); (case aS => exact (below_size (by repeat (first|(with_reducible first|exact HB.out|apply below_alloc|apply pw_below_drewN|apply below_drew1)|exact HB.out)))); (case aL => have := LMc59.out; omega); intro v365 w65 ho hb hg hat; rw [← Ny364.out] at ho; have n0_ := Aside0.mk (Kd.R_over' (by (with_reducible repeat (first|apply Kd.R_alloc|apply Kd.R_drewN|apply Kd.R_drew)); exact HO_10.out) (Kd.R_typed (by (with_reducible repeat (first|apply Kd.R_alloc|apply Kd.R_drewN|apply Kd.R_drew)); exact HO360.out)) (by decide) hg); have n1_ := Aside0.mk (Kd.R_after (ok := (fun k_ => some k_ ≠ (.slice Ao66 t361.length co66 : Value).ownBlock)) (by (with_reducible repeat (first|apply Kd.R_alloc|apply Kd.R_drewN|apply Kd.R_drew)); exact Kd.R_mono HO357.out (fun _ hk => ⟨hk.2, hk.1.2⟩)) hg hat); have n2_ := Aside0.mk (Kd.R_after (ok := (fun k_ => some k_ ≠ (.slice Ao63 t355.length co63 : Value).ownBlock)) (by (with_reducible repeat (first|apply Kd.R_alloc|apply Kd.R_drewN|apply Kd.R_drew)); exact Kd.R_mono HO363.out (fun _ hk => ⟨hk.1.2, hk.2⟩)) hg hat); have n3_ := Aside0.mk (hb); have n4_ := Aside0.mk (ho); clear HO_10; clear HO357; clear HO363; clear HB; clear HO360; have HO_10 := n0_; have HO357 := n1_; have HO363 := n2_; have HB := n3_; have HO366 := n4_; clear n0_ n1_ n2_ n3_ n4_; clear ho hb hg hat))
                  (try simp only [hji19v])
                  (try simp only [hji20v])
                  go_roundg kj40
                  case measure => have := HJ2.out; have := HK2.out; have := HK3.out; have := HK4.out; have := HJ40.out; omega
                  case rel => exact ⟨(y364), (x8_4), (by first|rfl|(simp; done)|(simp [*]; done)), H', ⟨by have := HJ2.out; have := HK2.out; have := HK3.out; have := HK4.out; have := HJ40.out; omega⟩, ⟨by (with_reducible repeat (first|apply Kd.R_alloc|apply Kd.R_drewN|apply Kd.R_drew)); exact Kd.R_mono HO366.out (fun _ hk => trivial)⟩, ⟨by repeat (first|(with_reducible first|exact HB.out|apply below_alloc|apply pw_below_drewN|apply below_drew1)|exact HB.out)⟩⟩
                 ·rw [if_neg c59] at H
                  exact absurd H (by simp)
                ·rw [if_neg c57] at H
                 exact absurd H (by simp)
         ·rw [if_neg c19] at H
          have c19b0 : decide (x8_3 < (l0.length : Int)) = false := decide_eq_false c19
          clear c19
          simp only [Option.some.injEq, Prod.mk.injEq] at H
          obtain ⟨rfl, rfl⟩ := H
          go_wp2
          go_ret2
          exact ⟨_, by first|rfl|(simp [errW_none, errW_some] <;> rfl)|(simp [*, errW_none, errW_some] <;> rfl)|(exfalso; simp only [Bool.not_eq_true', Bool.not_eq_false', decide_eq_false_iff_not, decide_eq_true_eq, decide_eq_decide, Int.not_lt, Int.not_le] at *; omega), by (with_reducible repeat (first|apply Kd.R_alloc|apply Kd.R_drewN|apply Kd.R_drew)); exact HO_6.out, by repeat (first|(with_reducible first|exact HB.out|apply below_alloc|apply pw_below_drewN|apply below_drew1)|exact HB.out)⟩

end Go.Proofs.Ytelgjjpojndlpaa.PFnLevels
