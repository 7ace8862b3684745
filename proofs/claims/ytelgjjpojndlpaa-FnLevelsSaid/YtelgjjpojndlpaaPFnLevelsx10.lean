-- Written by a program of this seat's prover (wip/myprint.sh) over the loaded functions.
import Derived.Test.YtelgjjpojndlpaaPFnLevelsx0
import Derived.Test.YtelgjjpojndlpaaPFnLevelsx3
import Derived.Test.YtelgjjpojndlpaaPFnLevelsx4
import Derived.Test.YtelgjjpojndlpaaPFnLevelsx9
namespace Go.Proofs.Ytelgjjpojndlpaa.PFnLevels
open Go.RowKit Go.Proofs.YtelgjjpojndlpaaW.PrintWords Go.Proofs.YtelgjjpojndlpaaW.PrintLast Go.Proofs.YtelgjjpojndlpaaW.PrintMore
attribute [local go_sem] max2_int min2_int max_two min_two max_three min_three max_four min_four   -- for this text's walks alone
set_option linter.unusedVariables false
set_option linter.unusedSimpArgs false

def impl_runNumber.f (k : Nat) (l0 : List Int) (a1 : Int) (a2 : Int) : Option (Int × Int × Bool) := if a2 = 0 then (some (0, a1, true)) else ((impl_BitsSize.f 1 a2).bind fun t403 => ((impl_WordGet.f k l0 a1 t403).bind fun bt404 => (if bt404.2.2 = true then ((impl_widthOf.f k bt404.1).bind fun t407 => (if t407 > a2 then (some (0, 0, false)) else (some (bt404.1, bt404.2.1, true)))) else (some (0, 0, false)))))
theorem impl_runNumber.mono : ∀ a0 a1 a2 k, LeO (impl_runNumber.f k a0 a1 a2) (impl_runNumber.f (k + 1) a0 a1 a2) := by
 intro a0 a1 a2 k
 unfold impl_runNumber.f
 repeat' first
   |(with_reducible exact impl_WordGet.mono _ _ _ _)
   |(with_reducible exact impl_widthOf.mono _ _)
   |(with_reducible exact LeO.refl _)
   |(with_reducible exact LeO.none _)
   |(with_reducible refine LeO.ite ?_ ?_)
   |(with_reducible refine LeO.bind ?_ (fun _ => ?_))
   | exact impl_WordGet.mono _ _ _ _
   | exact impl_widthOf.mono _ _
   | exact LeO.none _
   | refine LeO.ite ?_ ?_
   | refine LeO.bind ?_ (fun _ => ?_)
set_option maxHeartbeats 8000000 in
set_option maxRecDepth 100000 in
theorem impl_runNumber.calls (k : Nat) (A0 : Option Addr) (c0 : Nat) (l0 : List Int) (a1 : Int) (a2 : Int) (r1 : Int) (r2 : Int) (r3 : Bool) (w : World) (hr0 : Kd.C (Kd.int .u8) w A0 l0.length l0) (hc0 : l0.length ≤ c0) (h : impl_runNumber.f k l0 a1 a2 = some (r1, r2, r3)) :
  Calls Try.prog 46 #[.slice A0 l0.length c0, .int .i64 a1, .int .i64 a2] w fun e w' => e = .returned (.tuple #[.int .i64 r1, .int .i64 r2, .bool r3]) ∧ Drawn0 w w' := by
 have HR0 := Aside0.mk hr0
 have HC0 := Aside0.mk hc0
 clear hr0 hc0
 have H : (if a2 = 0 then (some (0, a1, true)) else ((impl_BitsSize.f 1 a2).bind fun t403 => ((impl_WordGet.f k l0 a1 t403).bind fun bt404 => (if bt404.2.2 = true then ((impl_widthOf.f k bt404.1).bind fun t407 => (if t407 > a2 then (some (0, 0, false)) else (some (bt404.1, bt404.2.1, true)))) else (some (0, 0, false)))))) = some (r1, r2, r3) := h
 clear h
 by_cases c4 : a2 = 0
 ·rw [if_pos c4] at H
  have c4b0 : (a2 == 0) = true := beq_iff_eq.mpr c4
  have c4b1 : (a2 != 0) = false := bne_eq_false_iff_eq.mpr c4
  clear c4
  simp only [Option.some.injEq, Prod.mk.injEq] at H
  obtain ⟨rfl, rfl, rfl⟩ := H
  go_enter Try.func46, Try.ntmps46
  go_wp2
  go_ret3
  exact ⟨by first|rfl|(simp; done)|(simp [*]; done), by repeat (first|exact Drawn0.refl _|apply Drawn0.step)⟩
 ·rw [if_neg c4] at H
  have c4b0 : (a2 == 0) = false := beq_eq_false_iff_ne.mpr c4
  have c4b1 : (a2 != 0) = true := bne_iff_ne.mpr c4
  replace H := Option.bind_eq_some_iff.mp H
  obtain ⟨t403, A50, H⟩ := H
  replace H : ((impl_WordGet.f k l0 a1 t403).bind fun bt404 => (if bt404.2.2 = true then ((impl_widthOf.f k bt404.1).bind fun t407 => (if t407 > a2 then (some (0, 0, false)) else (some (bt404.1, bt404.2.1, true)))) else (some (0, 0, false)))) = some (r1, r2, r3) := H
  have A5 := Aside0.mk A50
  clear A50
  replace H := Option.bind_eq_some_iff.mp H
  obtain ⟨⟨t404, t405, t406⟩, A60, H⟩ := H
  replace H : (if t406 = true then ((impl_widthOf.f k t404).bind fun t407 => (if t407 > a2 then (some (0, 0, false)) else (some (t404, t405, true)))) else (some (0, 0, false))) = some (r1, r2, r3) := H
  have A6 := Aside0.mk A60
  clear A60
  by_cases c7 : t406 = true
  ·subst c7
   have H1 : ((impl_widthOf.f k t404).bind fun t407 => (if t407 > a2 then (some (0, 0, false)) else (some (t404, t405, true)))) = some (r1, r2, r3) := by rw [if_pos rfl] at H; exact H
   clear H
   have H := H1
   clear H1
   replace H := Option.bind_eq_some_iff.mp H
   obtain ⟨t407, A80, H⟩ := H
   replace H : (if t407 > a2 then (some (0, 0, false)) else (some (t404, t405, true))) = some (r1, r2, r3) := H
   have A8 := Aside0.mk A80
   clear A80
   by_cases c9 : t407 > a2
   ·rw [if_pos c9] at H
    have c9b0 : decide (a2 < t407) = true := decide_eq_true c9
    clear c9
    simp only [Option.some.injEq, Prod.mk.injEq] at H
    obtain ⟨rfl, rfl, rfl⟩ := H
    go_enter Try.func46, Try.ntmps46
    go_wp2_with (first|((with_reducible refine gate_callee (f := 35) rfl ?_); refine goesL_ (some 19) rfl rfl Try.func35 (by kernel_rfl) rfl #[.int .i64 1, .int .i64 a2] rfl (by (try simp only [List.map_toArray, List.map_cons, List.map_nil]); first|done|rfl|(simp only [List.length_drop, List.length_take]; rfl)) ?_; (with_reducible refine (impl_BitsSize.calls 1 a2 t403 _ A5.out).mono ?_); rintro e w' ⟨rfl, ⟨nd, rfl⟩⟩; refine ⟨_, rfl, ?_⟩)|((with_reducible refine gate_callee (f := 64) rfl ?_); refine goesL_ (some 20) rfl rfl Try.func64 (by kernel_rfl) rfl #[.slice A0 l0.length c0, .int .i64 a1, .int .i64 t403] rfl (by (try simp only [List.map_toArray, List.map_cons, List.map_nil]); first|done|rfl|(simp only [List.length_drop, List.length_take]; rfl)) ?_; (with_reducible refine (impl_WordGet.calls k _ _ l0 a1 t403 t404 t405 true _ ?side1 ?side2 A6.out).mono ?_); (case side1 => repeat (first|exact HR0.out|(with_reducible refine Kd.C_alloc ?_ _)|(with_reducible refine Kd.C_drewN ?_ _)|(with_reducible refine Kd.C_drew ?_))); (case side2 => exact HC0.out); rintro e w' ⟨rfl, ⟨nd, rfl⟩⟩; refine ⟨_, rfl, ?_⟩)|(go_at_call 66; (with_reducible refine (impl_widthOf.calls k t404 t407 _ A8.out).mono ?_); rintro e w' ⟨rfl, ⟨nd, rfl⟩⟩))
    go_ret3
    exact ⟨by first|rfl|(simp; done)|(simp [*]; done), by repeat (first|exact Drawn0.refl _|apply Drawn0.step)⟩
   ·rw [if_neg c9] at H
    have c9b0 : decide (a2 < t407) = false := decide_eq_false c9
    clear c9
    simp only [Option.some.injEq, Prod.mk.injEq] at H
    obtain ⟨rfl, rfl, rfl⟩ := H
    go_enter Try.func46, Try.ntmps46
    go_wp2_with (first|((with_reducible refine gate_callee (f := 35) rfl ?_); refine goesL_ (some 19) rfl rfl Try.func35 (by kernel_rfl) rfl #[.int .i64 1, .int .i64 a2] rfl (by (try simp only [List.map_toArray, List.map_cons, List.map_nil]); first|done|rfl|(simp only [List.length_drop, List.length_take]; rfl)) ?_; (with_reducible refine (impl_BitsSize.calls 1 a2 t403 _ A5.out).mono ?_); rintro e w' ⟨rfl, ⟨nd, rfl⟩⟩; refine ⟨_, rfl, ?_⟩)|((with_reducible refine gate_callee (f := 64) rfl ?_); refine goesL_ (some 20) rfl rfl Try.func64 (by kernel_rfl) rfl #[.slice A0 l0.length c0, .int .i64 a1, .int .i64 t403] rfl (by (try simp only [List.map_toArray, List.map_cons, List.map_nil]); first|done|rfl|(simp only [List.length_drop, List.length_take]; rfl)) ?_; (with_reducible refine (impl_WordGet.calls k _ _ l0 a1 t403 t404 t405 true _ ?side1 ?side2 A6.out).mono ?_); (case side1 => repeat (first|exact HR0.out|(with_reducible refine Kd.C_alloc ?_ _)|(with_reducible refine Kd.C_drewN ?_ _)|(with_reducible refine Kd.C_drew ?_))); (case side2 => exact HC0.out); rintro e w' ⟨rfl, ⟨nd, rfl⟩⟩; refine ⟨_, rfl, ?_⟩)|(go_at_call 66; (with_reducible refine (impl_widthOf.calls k t404 t407 _ A8.out).mono ?_); rintro e w' ⟨rfl, ⟨nd, rfl⟩⟩))
    go_ret3
    exact ⟨by first|rfl|(simp; done)|(simp [*]; done), by repeat (first|exact Drawn0.refl _|apply Drawn0.step)⟩
  ·replace c7 := Bool.eq_false_iff.mpr c7
   subst c7
   have H1 : (some (0, 0, false)) = some (r1, r2, r3) := by rw [if_neg (show ¬ (false = true) by decide)] at H; exact H
   clear H
   have H := H1
   clear H1
   simp only [Option.some.injEq, Prod.mk.injEq] at H
   obtain ⟨rfl, rfl, rfl⟩ := H
   go_enter Try.func46, Try.ntmps46
   go_wp2_with (first|((with_reducible refine gate_callee (f := 35) rfl ?_); refine goesL_ (some 19) rfl rfl Try.func35 (by kernel_rfl) rfl #[.int .i64 1, .int .i64 a2] rfl (by (try simp only [List.map_toArray, List.map_cons, List.map_nil]); first|done|rfl|(simp only [List.length_drop, List.length_take]; rfl)) ?_; (with_reducible refine (impl_BitsSize.calls 1 a2 t403 _ A5.out).mono ?_); rintro e w' ⟨rfl, ⟨nd, rfl⟩⟩; refine ⟨_, rfl, ?_⟩)|((with_reducible refine gate_callee (f := 64) rfl ?_); refine goesL_ (some 20) rfl rfl Try.func64 (by kernel_rfl) rfl #[.slice A0 l0.length c0, .int .i64 a1, .int .i64 t403] rfl (by (try simp only [List.map_toArray, List.map_cons, List.map_nil]); first|done|rfl|(simp only [List.length_drop, List.length_take]; rfl)) ?_; (with_reducible refine (impl_WordGet.calls k _ _ l0 a1 t403 t404 t405 false _ ?side1 ?side2 A6.out).mono ?_); (case side1 => repeat (first|exact HR0.out|(with_reducible refine Kd.C_alloc ?_ _)|(with_reducible refine Kd.C_drewN ?_ _)|(with_reducible refine Kd.C_drew ?_))); (case side2 => exact HC0.out); rintro e w' ⟨rfl, ⟨nd, rfl⟩⟩; refine ⟨_, rfl, ?_⟩))
   go_ret3
   exact ⟨by first|rfl|(simp; done)|(simp [*]; done), by repeat (first|exact Drawn0.refl _|apply Drawn0.step)⟩

def impl_BitAt.f (l0 : List Int) (a1 : Int) : Option (Int) := if a1 < 0 then (some (-1)) else (if (wrap64 (Int.tdiv a1 8)) ≥ (l0.length : Int) then (some (-1)) else (if 0 ≤ (wrap64 (Int.tdiv a1 8)) then (if (wrap64 (Int.tdiv a1 8)) < (l0.length : Int) then (if 0 ≤ (Int.tmod a1 8) then (some (wrap64 (Go.bits .and .u8 (shr .u8 (rd l0 (wrap64 (Int.tdiv a1 8))) (Int.tmod a1 8)) 1))) else (none)) else (none)) else (none)))
set_option maxHeartbeats 8000000 in
set_option maxRecDepth 100000 in
theorem impl_BitAt.calls (A0 : Option Addr) (c0 : Nat) (l0 : List Int) (a1 : Int) (r : Int) (w : World) (hr0 : Kd.C (Kd.int .u8) w A0 l0.length l0) (hc0 : l0.length ≤ c0) (h : impl_BitAt.f l0 a1 = some r) :
  Calls Try.prog 68 #[.slice A0 l0.length c0, .int .i64 a1] w fun e w' => e = .returned (.int .i64 r) ∧ Drawn0 w w' := by
 have HR0 := Aside0.mk hr0
 have HC0 := Aside0.mk hc0
 clear hr0 hc0
 have H : (if a1 < 0 then (some (-1)) else (if (wrap64 (Int.tdiv a1 8)) ≥ (l0.length : Int) then (some (-1)) else (if 0 ≤ (wrap64 (Int.tdiv a1 8)) then (if (wrap64 (Int.tdiv a1 8)) < (l0.length : Int) then (if 0 ≤ (Int.tmod a1 8) then (some (wrap64 (Go.bits .and .u8 (shr .u8 (rd l0 (wrap64 (Int.tdiv a1 8))) (Int.tmod a1 8)) 1))) else (none)) else (none)) else (none)))) = some r := h
 clear h
 by_cases c3 : a1 < 0
 ·rw [if_pos c3] at H
  have c3b0 : decide (a1 < 0) = true := decide_eq_true c3
  clear c3
  obtain rfl := Option.some.inj H
  go_enter Try.func68, Try.ntmps68
  go_wp2
  go_ret
  exact ⟨by first|rfl|(simp; done)|(simp [*]; done), by repeat (first|exact Drawn0.refl _|apply Drawn0.step)⟩
 ·rw [if_neg c3] at H
  have c3b0 : decide (a1 < 0) = false := decide_eq_false c3
  clear c3
  by_cases c4 : (wrap64 (Int.tdiv a1 8)) ≥ (l0.length : Int)
  ·rw [if_pos c4] at H
   have c4b0 : decide ((l0.length : Int) ≤ (wrap64 (Int.tdiv a1 8))) = true := decide_eq_true c4
   clear c4
   obtain rfl := Option.some.inj H
   go_enter Try.func68, Try.ntmps68
   go_wp2
   go_ret
   exact ⟨by first|rfl|(simp; done)|(simp [*]; done), by repeat (first|exact Drawn0.refl _|apply Drawn0.step)⟩
  ·rw [if_neg c4] at H
   have c4b0 : decide ((l0.length : Int) ≤ (wrap64 (Int.tdiv a1 8))) = false := decide_eq_false c4
   clear c4
   obtain ⟨ji5, hji5⟩ : ∃ j_ : Int, (wrap64 (Int.tdiv a1 8)) = j_ := ⟨_, rfl⟩
   replace H : (if 0 ≤ (ji5) then (if (ji5) < (l0.length : Int) then (if 0 ≤ (Int.tmod a1 8) then (some (wrap64 (Go.bits .and .u8 (shr .u8 (rd l0 (ji5)) (Int.tmod a1 8)) 1))) else (none)) else (none)) else (none)) = some r := by first|(rw [hji5] at H; exact H)|(simp only [hji5] at H ⊢; exact H)
   (try rw [hji5] at c4b0)
   have hji5w : (IntKind.i64.wrap (Int.tdiv a1 8)) = ji5 := (i64_w _).trans hji5
   by_cases c6 : 0 ≤ (ji5)
   ·rw [if_pos c6] at H
    have c6b0 : decide (0 ≤ (ji5)) = true := decide_eq_true c6
    clear c6
    by_cases c7 : (ji5) < (l0.length : Int)
    ·rw [if_pos c7] at H
     have c7b0 : decide ((ji5) < (l0.length : Int)) = true := decide_eq_true c7
     clear c7
     obtain ⟨ji8, hji8⟩ : ∃ j_ : Int, (Int.tmod a1 8) = j_ := ⟨_, rfl⟩
     replace H : (if 0 ≤ (ji8) then (some (wrap64 (Go.bits .and .u8 (shr .u8 (rd l0 (ji5)) (ji8)) 1))) else (none)) = some r := by first|(rw [hji8] at H; exact H)|(simp only [hji8] at H ⊢; exact H)
     by_cases c9 : 0 ≤ (ji8)
     ·rw [if_pos c9] at H
      have c9b0 := eq_true c9
      have c9b1 : decide (0 ≤ (ji8)) = true := decide_eq_true c9
      clear c9
      obtain ⟨ji10, hji10⟩ : ∃ j_ : Int, (shr .u8 (rd l0 (ji5)) (ji8)) = j_ := ⟨_, rfl⟩
      replace H : (some (wrap64 (Go.bits .and .u8 (ji10) 1))) = some r := by first|(rw [hji10] at H; exact H)|(simp only [hji10] at H ⊢; exact H)
      have hji10_ : ((rd l0 (ji5)) / 2 ^ min (ji8).toNat 8) = ji10 := hji10
      have hji10z : (ji8) ≤ 8 → ((rd l0 (ji5)) / 2 ^ (ji8).toNat) = ji10 := shr_small hji10
      obtain rfl := Option.some.inj H
      have p408 : 0 ≤ ((ji5) : Int) := of_decide_eq_true (by first|(with_reducible assumption)|assumption)
      have q408 : (ji5) < (l0.length : Int) := of_decide_eq_true (by first|(with_reducible assumption)|assumption)
      obtain ⟨ad408, e408, hx408_0⟩ := Kd.at_int HR0.out (ji5) p408 q408
      cases e408
      replace p408 := eq_true p408
      replace q408 := eq_true q408
      go_enter Try.func68, Try.ntmps68
      go_wp2
      go_ret
      exact ⟨by first|rfl|(simp; done)|(simp only [← hji5, ← hji8, ← hji10] <;> (first|rfl|simp))|(simp [*]; done), by repeat (first|exact Drawn0.refl _|apply Drawn0.step)⟩
     ·rw [if_neg c9] at H
      exact absurd H (by simp)
    ·rw [if_neg c7] at H
     exact absurd H (by simp)
   ·rw [if_neg c6] at H
    exact absurd H (by simp)

mutual
def impl_unpacked.l0 : Nat → List Int → Int → Int → List Int → Int → Int → Option (List Int)
 | 0, _, _, _, _, _, _ => none
 | k + 1, x0, x1, x3, x9, x14, x15 => if x15 < x14 then (impl_unpacked.l1 k x0 x1 x3 x9 x15 0 x14 x15 x3 0) else (some x9)
def impl_unpacked.l1 : Nat → List Int → Int → Int → List Int → Int → Int → Int → Int → Int → Int → Option (List Int)
 | 0, _, _, _, _, _, _, _, _, _, _ => none
 | k + 1, x0, x1, x3, x9, x10, x11, x14, x15, x18, x19 => if x19 < x18 then ((impl_BitAt.f x0 (wrap64 ((wrap64 ((wrap64 (8 * x1)) + (wrap64 (x10 * x3)))) + x19))).bind fun t412 => (if 0 ≤ x19 then (impl_unpacked.l1 k x0 x1 x3 x9 x10 (Go.bits .or .i64 x11 (shl .i64 t412 x19)) x14 x15 x18 (wrap64 (x19 + 1))) else (none))) else (if x9.length < 17592186044416 then (impl_unpacked.l0 k x0 x1 x3 (x9 ++ [x11]) x14 (wrap64 (x15 + 1))) else (none))
end
def impl_unpacked.f (k : Nat) (l0 : List Int) (a1 : Int) (a2 : Int) (a3 : Int) : Option (List Int) := impl_unpacked.l0 k l0 a1 a3 (([] : List Int)) a2 0
theorem impl_unpacked.mono_l : ∀ k, (∀ y0 y1 y2 y3 y4 y5, LeO (impl_unpacked.l0 k y0 y1 y2 y3 y4 y5) (impl_unpacked.l0 (k + 1) y0 y1 y2 y3 y4 y5)) ∧ (∀ y0 y1 y2 y3 y4 y5 y6 y7 y8 y9, LeO (impl_unpacked.l1 k y0 y1 y2 y3 y4 y5 y6 y7 y8 y9) (impl_unpacked.l1 (k + 1) y0 y1 y2 y3 y4 y5 y6 y7 y8 y9))
 | 0 => ⟨fun _ _ _ _ _ _ r h => by simp [impl_unpacked.l0] at h, fun _ _ _ _ _ _ _ _ _ _ r h => by simp [impl_unpacked.l1] at h⟩
 | k + 1 => by
  obtain ⟨ih0, ih1⟩ := impl_unpacked.mono_l k
  refine ⟨?_, ?_⟩
  ·intro y0 y1 y2 y3 y4 y5
   unfold impl_unpacked.l0
   repeat' first
   |(with_reducible exact ih0 _ _ _ _ _ _)
   |(with_reducible exact ih1 _ _ _ _ _ _ _ _ _ _)
   |(with_reducible exact LeO.refl _)
   |(with_reducible exact LeO.none _)
   |(with_reducible refine LeO.ite ?_ ?_)
   |(with_reducible refine LeO.bind ?_ (fun _ => ?_))
   | exact ih0 _ _ _ _ _ _
   | exact ih1 _ _ _ _ _ _ _ _ _ _
   | exact LeO.none _
   | refine LeO.ite ?_ ?_
   | refine LeO.bind ?_ (fun _ => ?_)
  ·intro y0 y1 y2 y3 y4 y5 y6 y7 y8 y9
   unfold impl_unpacked.l1
   repeat' first
   |(with_reducible exact ih0 _ _ _ _ _ _)
   |(with_reducible exact ih1 _ _ _ _ _ _ _ _ _ _)
   |(with_reducible exact LeO.refl _)
   |(with_reducible exact LeO.none _)
   |(with_reducible refine LeO.ite ?_ ?_)
   |(with_reducible refine LeO.bind ?_ (fun _ => ?_))
   | exact ih0 _ _ _ _ _ _
   | exact ih1 _ _ _ _ _ _ _ _ _ _
   | exact LeO.none _
   | refine LeO.ite ?_ ?_
   | refine LeO.bind ?_ (fun _ => ?_)
theorem impl_unpacked.mono : ∀ a0 a1 a2 a3 k, LeO (impl_unpacked.f k a0 a1 a2 a3) (impl_unpacked.f (k + 1) a0 a1 a2 a3) := by
 intro a0 a1 a2 a3 k
 obtain ⟨ih0, ih1⟩ := impl_unpacked.mono_l k
 unfold impl_unpacked.f
 repeat' first
   |(with_reducible exact ih0 _ _ _ _ _ _)
   |(with_reducible exact ih1 _ _ _ _ _ _ _ _ _ _)
   |(with_reducible exact LeO.refl _)
   |(with_reducible exact LeO.none _)
   |(with_reducible refine LeO.ite ?_ ?_)
   |(with_reducible refine LeO.bind ?_ (fun _ => ?_))
   | exact ih0 _ _ _ _ _ _
   | exact ih1 _ _ _ _ _ _ _ _ _ _
   | exact LeO.none _
   | refine LeO.ite ?_ ?_
   | refine LeO.bind ?_ (fun _ => ?_)
set_option maxHeartbeats 8000000 in
set_option maxRecDepth 100000 in
theorem impl_unpacked.calls (k : Nat) (A0 : Option Addr) (c0 : Nat) (l0 : List Int) (a1 : Int) (a2 : Int) (a3 : Int) (r : List Int) (w : World) (hr0 : Kd.C (Kd.int .u8) w A0 l0.length l0) (hc0 : l0.length ≤ c0) (h : impl_unpacked.f k l0 a1 a2 a3 = some r) :
  Calls Try.prog 47 #[.slice A0 l0.length c0, .int .i64 a1, .int .i64 a2, .int .i64 a3] w fun e w' => ∃ v0_ : Value, e = .returned (v0_) ∧ Kd.R (Kd.int .i64) 3 w' w.heap.size (fun _ => True) v0_ r ∧ Below w.heap.size w w' := by
 have HR0 := Aside0.mk hr0
 have HC0 := Aside0.mk hc0
 clear hr0 hc0
 have HB := Aside0.mk (Below.refl w.heap.size w)
 have H : (impl_unpacked.l0 k l0 a1 a3 (([] : List Int)) a2 0) = some r := h
 clear h
 obtain ⟨y409, hy409⟩ : ∃ y_ : List Int, y_ = (([] : List Int)) := ⟨_, rfl⟩
 replace H : (impl_unpacked.l0 k l0 a1 a3 y409 a2 0) = some r := by first|(rw [hy409]; with_reducible exact H)|(have H2_ := (Option.bind_some _ _).symm.trans H; rw [hy409]; with_reducible exact H2_)|(have H2_ := (Option.bind_some _ _).symm.trans H; with_reducible exact H2_)|with_reducible exact H|(rw [hy409]; exact H)|exact H
 have Ny409 := Aside0.mk hy409
 clear hy409
 have H' := Aside0.mk H
 clear H
 go_enter Try.func47, Try.ntmps47
 go_wp2_with (first|((with_reducible refine gate_dst (N := 13) rfl ?_); refine Kd.R_lit (Kd.int .i64) _ 3 ?hg (N := 13) ?hd (xs := ([] : List Int)) (inner := []) (ok := fun _ => True) (okp := fun _ => True) ?hr ?hp (fun _ hk => hk) trivial (Below.refl _ _) (Nat.le_refl _) (by simp) ?_; (case hd => rfl); (case hg => rfl); (case hr => first|(go_simp; done)|(go_simp; rfl)); (case hp => exact (Reps.none _ _)); intro v410 w5 ho6 hb hg_ hnew_; clear hg_ hnew_; (first|rw [← Ny409.out] at ho6|(simp only [Int.reduceToNat] at ho6; rw [← Ny409.out] at ho6)); have n0_ := Aside0.mk (Kd.R_lower ho6 (below_size (by repeat (first|(with_reducible first|exact HB.out|apply below_alloc|apply pw_below_drewN|apply below_drew1)|exact HB.out)))); have n1_ := Aside0.mk (below_step (by repeat (first|(with_reducible first|exact HB.out|apply below_alloc|apply pw_below_drewN|apply below_drew1)|exact HB.out)) hb); clear HB; have HO411 := n0_; have HB := n1_; clear n0_ n1_; clear hb ho6))
 go_loopg [9, 15] k (fun kq v9 v15 w' => ∃ (x9_1 : List Int) (x15_1 : Int), v15 = .int .i64 x15_1 ∧ Aside0 (impl_unpacked.l0 kq l0 a1 a3 x9_1 a2 x15_1 = some r) ∧ Aside0 (kq ≤ k) ∧ Aside0 (Kd.R (Kd.int .i64) 3 w' w.heap.size (fun _ => True) v9 x9_1) ∧ Aside0 (Below w.heap.size w w'))
 case atStart => exact ⟨(y409), (0), (by first|rfl|(simp; done)|(simp [*]; done)), H', ⟨Nat.le_refl _⟩, ⟨by (with_reducible repeat (first|apply Kd.R_alloc|apply Kd.R_drewN|apply Kd.R_drew)); exact HO411.out⟩, ⟨by repeat (first|(with_reducible first|exact HB.out|apply below_alloc|apply pw_below_drewN|apply below_drew1)|exact HB.out)⟩⟩
 case round =>
  clear H'
  try clear p2
  try clear c4
  obtain ⟨x9_1, x15_1, rfl, HA, HK1, HO_9, HB⟩ := hrel
  cases gk with
  | zero => exact absurd HA.out (by simp [impl_unpacked.l0])
  | succ k1 =>
   have H := HA.out
   clear HA
   simp only [impl_unpacked.l0] at H
   by_cases c7 : x15_1 < a2
   ·rw [if_pos c7] at H
    have c7b0 : decide (x15_1 < a2) = true := decide_eq_true c7
    clear c7
    have H' := Aside0.mk H
    clear H
    go_wp2
    go_loopg [11, 19] k1 (fun kq v11 v19 w' => ∃ (x11_2 : Int) (x19_2 : Int), v11 = .int .i64 x11_2 ∧ v19 = .int .i64 x19_2 ∧ Aside0 (impl_unpacked.l1 kq l0 a1 a3 x9_1 x15_1 x11_2 a2 x15_1 a3 x19_2 = some r) ∧ Aside0 (kq ≤ k1) ∧ Aside0 (Kd.R (Kd.int .i64) 3 w' w.heap.size (fun _ => True) u9 x9_1) ∧ Aside0 (Below w.heap.size w w'))
    case atStart => exact ⟨(0), (0), (by first|rfl|(simp; done)|(simp [*]; done)), (by first|rfl|(simp; done)|(simp [*]; done)), H', ⟨Nat.le_refl _⟩, ⟨by (with_reducible repeat (first|apply Kd.R_alloc|apply Kd.R_drewN|apply Kd.R_drew)); exact HO_9.out⟩, ⟨by repeat (first|(with_reducible first|exact HB.out|apply below_alloc|apply pw_below_drewN|apply below_drew1)|exact HB.out)⟩⟩
    case round =>
     clear H'
     try clear p2
     try clear c4
     try clear c7
     try clear c7b0
     try clear p2
     obtain ⟨x11_2, x19_2, rfl, rfl, HA, HK2, HO_9, HB⟩ := hrel
     cases gk with
     | zero => exact absurd HA.out (by simp [impl_unpacked.l1])
     | succ k2 =>
      have H := HA.out
      clear HA
      simp only [impl_unpacked.l1] at H
      by_cases c8 : x19_2 < a3
      ·rw [if_pos c8] at H
       have c8b0 : decide (x19_2 < a3) = true := decide_eq_true c8
       clear c8
       replace H := Option.bind_eq_some_iff.mp H
       obtain ⟨t412, A90, H⟩ := H
       replace H : (if 0 ≤ x19_2 then (impl_unpacked.l1 k2 l0 a1 a3 x9_1 x15_1 (Go.bits .or .i64 x11_2 (shl .i64 t412 x19_2)) a2 x15_1 a3 (wrap64 (x19_2 + 1))) else (none)) = some r := H
       have A9 := Aside0.mk A90
       clear A90
       by_cases c10 : 0 ≤ x19_2
       ·rw [if_pos c10] at H
        have c10b0 := eq_true c10
        have c10b1 : decide (0 ≤ x19_2) = true := decide_eq_true c10
        clear c10
        obtain ⟨ji11, hji11⟩ : ∃ j_ : Int, (shl .i64 t412 x19_2) = j_ := ⟨_, rfl⟩
        replace H : (impl_unpacked.l1 k2 l0 a1 a3 x9_1 x15_1 (Go.bits .or .i64 x11_2 (ji11)) a2 x15_1 a3 (wrap64 (x19_2 + 1))) = some r := by first|(rw [hji11] at H; exact H)|(simp only [hji11] at H ⊢; exact H)
        (try rw [hji11] at A9)
        have hji11_ : (IntKind.i64.wrap (t412 * 2 ^ min x19_2.toNat 64)) = ji11 := hji11
        have hji11z : x19_2 ≤ 64 → (IntKind.i64.wrap (t412 * 2 ^ x19_2.toNat)) = ji11 := shl_small hji11
        have hji11y : (wrap64 (t412 * 2 ^ min x19_2.toNat 64)) = ji11 := (i64_w _).symm.trans hji11_
        have hji11x : x19_2 ≤ 64 → (wrap64 (t412 * 2 ^ x19_2.toNat)) = ji11 := fun h_ => (i64_w _).symm.trans (hji11z h_)
        have H' := Aside0.mk H
        clear H
        go_wp2_with (first|((with_reducible refine gate_callee (f := 68) rfl ?_); refine goesL_ (some 32) rfl rfl Try.func68 (by kernel_rfl) rfl #[.slice A0 l0.length c0, .int .i64 (wrap64 ((wrap64 ((wrap64 (8 * a1)) + (wrap64 (x15_1 * a3)))) + x19_2))] rfl (by (try simp only [List.map_toArray, List.map_cons, List.map_nil]); first|done|rfl|(simp only [List.length_drop, List.length_take]; rfl)) ?_; (with_reducible refine (impl_BitAt.calls _ _ l0 (wrap64 ((wrap64 ((wrap64 (8 * a1)) + (wrap64 (x15_1 * a3)))) + x19_2)) t412 _ ?side1 ?side2 A9.out).mono ?_); (case side1 => repeat (first|exact (Kd.C_below HR0.out HB.out)|(with_reducible refine Kd.C_alloc ?_ _)|(with_reducible refine Kd.C_drewN ?_ _)|(with_reducible refine Kd.C_drew ?_))); (case side2 => exact HC0.out); rintro e w' ⟨rfl, ⟨nd, rfl⟩⟩; refine ⟨_, rfl, ?_⟩))
        (try simp only [hji19v])
        (try simp only [hji20v])
        go_roundg k2
        case measure => have := HK1.out; have := HK2.out; omega
        case rel => exact ⟨(Go.bits .or .i64 x11_2 (ji11)), (wrap64 (x19_2 + 1)), (by first|rfl|(simp; done)|(simp only [← hji11] <;> (first|rfl|simp))|(simp [*]; done)), (by first|rfl|(simp; done)|(simp [*]; done)), H', ⟨by have := HK1.out; have := HK2.out; omega⟩, ⟨by (with_reducible repeat (first|apply Kd.R_alloc|apply Kd.R_drewN|apply Kd.R_drew)); exact HO_9.out⟩, ⟨by repeat (first|(with_reducible first|exact HB.out|apply below_alloc|apply pw_below_drewN|apply below_drew1)|exact HB.out)⟩⟩
       ·rw [if_neg c10] at H
        exact absurd H (by simp)
      ·rw [if_neg c8] at H
       have c8b0 : decide (x19_2 < a3) = false := decide_eq_false c8
       clear c8
       by_cases c12 : x9_1.length < 17592186044416
       ·rw [if_pos c12] at H
        have LMc12 := Aside0.mk c12
        clear c12
        obtain ⟨y413, hy413⟩ : ∃ y_ : List Int, y_ = (x9_1 ++ [x11_2]) := ⟨_, rfl⟩
        replace H : (impl_unpacked.l0 k2 l0 a1 a3 y413 a2 (wrap64 (x15_1 + 1))) = some r := by first|(rw [hy413]; with_reducible exact H)|(have H2_ := (Option.bind_some _ _).symm.trans H; rw [hy413]; with_reducible exact H2_)|(have H2_ := (Option.bind_some _ _).symm.trans H; with_reducible exact H2_)|with_reducible exact H|(rw [hy413]; exact H)|exact H
        have Ny413 := Aside0.mk hy413
        clear hy413
        have H' := Aside0.mk H
        clear H
        go_wp2_with (first|((with_reducible refine gate_builtin (b := .append) (xs := #[.tmp 37, .tmp 39]) rfl ?_); at_builtin; refine Kd.R_append (Kd.int .i64) (w0 := w) w.heap.size rfl (.tmp 37) (.tmp 39) 24 3 (.int .i64 0) 8 rfl Try.underlying24 info3 rfl (by decide) (by omega) u9 x9_1 x11_2 [.int .i64 x11_2] (fun _ => True) (fun _ => False) rfl rfl ?aP (fun _ hk => hk.elim) ?aF ?aO ?aB ?aS ?aL ?_; (case aP => exact rfl); (case aB => exact (by repeat (first|(with_reducible first|exact HB.out|apply below_alloc|apply pw_below_drewN|apply below_drew1)|exact HB.out))); (case aF => exact (fun _ _ => trivial)); (case aO => exact (by (with_reducible repeat (first|apply Kd.R_alloc|apply Kd.R_drewN|apply Kd.R_drew)); exact HO_9.out)); (case aS => exact (below_size (by repeat (first|(with_reducible first|exact HB.out|apply below_alloc|apply pw_below_drewN|apply below_drew1)|exact HB.out)))); (case aL => have := LMc12.out; omega); intro v414 w13 ho hb hg hat; rw [← Ny413.out] at ho; have n0_ := Aside0.mk (hb); have n1_ := Aside0.mk (ho); clear HB; clear HO_9; have HB := n0_; have HO415 := n1_; clear n0_ n1_; clear ho hb hg hat))
        (try simp only [hji19v])
        (try simp only [hji20v])
        go_roundg k2
        case measure => have := HK1.out; have := HK2.out; omega
        case rel => exact ⟨(y413), (wrap64 (x15_1 + 1)), (by first|rfl|(simp; done)|(simp [*]; done)), H', ⟨by have := HK1.out; have := HK2.out; omega⟩, ⟨by (with_reducible repeat (first|apply Kd.R_alloc|apply Kd.R_drewN|apply Kd.R_drew)); exact HO415.out⟩, ⟨by repeat (first|(with_reducible first|exact HB.out|apply below_alloc|apply pw_below_drewN|apply below_drew1)|exact HB.out)⟩⟩
       ·rw [if_neg c12] at H
        exact absurd H (by simp)
   ·rw [if_neg c7] at H
    have c7b0 : decide (x15_1 < a2) = false := decide_eq_false c7
    clear c7
    obtain rfl := Option.some.inj H
    go_wp2
    go_ret
    exact ⟨_, by first|rfl|(simp [errW_none, errW_some] <;> rfl)|(simp [*, errW_none, errW_some] <;> rfl)|(exfalso; simp only [Bool.not_eq_true', Bool.not_eq_false', decide_eq_false_iff_not, decide_eq_true_eq, decide_eq_decide, Int.not_lt, Int.not_le] at *; omega), by (with_reducible repeat (first|apply Kd.R_alloc|apply Kd.R_drewN|apply Kd.R_drew)); exact HO_9.out, by repeat (first|(with_reducible first|exact HB.out|apply below_alloc|apply pw_below_drewN|apply below_drew1)|exact HB.out)⟩

mutual
def impl_RunRead.j0 : Nat → List Int → Int → Int → Int → Bool → Option (List Int × Int × Bool)
 | 0, _, _, _, _, _ => none
 | k + 1, x0, x1, x2, x3, x34 => if x34 = true then (some (([] : List Int), 0, false)) else (impl_RunRead.l0 k x0 x1 x2 x3 (([] : List Int)))
def impl_RunRead.l0 : Nat → List Int → Int → Int → Int → List Int → Option (List Int × Int × Bool)
 | 0, _, _, _, _, _ => none
 | k + 1, x0, x1, x2, x3, x11 => if (x11.length : Int) < x2 then ((impl_UvarGet.f k x0 x1).bind fun bt422 => (if bt422.2.2 = true then (if (Go.bits .and .i64 bt422.1 1) = 0 then ((impl_runNumber.f k x0 bt422.2.1 x3).bind fun bt425 => (if bt425.2.2 = true then (impl_RunRead.l1 k x0 x2 x3 x11 bt425.1 bt425.2.1 (mn (wrap64 ((IntKind.u64.wrap (bt422.1)) / 2)) (wrap64 (x2 - (x11.length : Int)))) 0) else (some (([] : List Int), 0, false)))) else (if (wrap64 ((IntKind.u64.wrap (bt422.1)) / 2)) > 2000 then (some (([] : List Int), 0, false)) else (if (wrap64 ((wrap64 ((IntKind.u64.wrap (bt422.1)) / 2)) * x3)) > (wrap64 ((x0.length : Int) - bt422.2.1)) then (some (([] : List Int), 0, false)) else ((impl_unpacked.f k x0 bt422.2.1 (mn (wrap64 (8 * (wrap64 ((IntKind.u64.wrap (bt422.1)) / 2)))) (wrap64 (x2 - (x11.length : Int)))) x3).bind fun t431 => (if x11.length + t431.length < 17592186044416 then (impl_RunRead.l0 k x0 (wrap64 (bt422.2.1 + (wrap64 ((wrap64 ((IntKind.u64.wrap (bt422.1)) / 2)) * x3)))) x2 x3 (x11 ++ t431)) else (none)))))) else (some (([] : List Int), 0, false)))) else (some (x11, x1, true))
def impl_RunRead.l1 : Nat → List Int → Int → Int → List Int → Int → Int → Int → Int → Option (List Int × Int × Bool)
 | 0, _, _, _, _, _, _, _, _ => none
 | k + 1, x0, x2, x3, x11, x17, x18, x72, x73 => if x73 < x72 then (if x11.length < 17592186044416 then (impl_RunRead.l1 k x0 x2 x3 (x11 ++ [x17]) x17 x18 x72 (wrap64 (x73 + 1))) else (none)) else (impl_RunRead.l0 k x0 x18 x2 x3 x11)
end
def impl_RunRead.f (k : Nat) (l0 : List Int) (a1 : Int) (a2 : Int) (a3 : Int) : Option (List Int × Int × Bool) := (impl_within.f a3 0 24).bind fun t416 => (if t416 = true then ((impl_within.f a2 0 2000).bind fun t417 => (if t417 = true then ((impl_within.f a1 0 (l0.length : Int)).bind fun t418 => (impl_RunRead.j0 k l0 a1 a2 a3 (!t418))) else (impl_RunRead.j0 k l0 a1 a2 a3 true))) else (impl_RunRead.j0 k l0 a1 a2 a3 true))
theorem impl_RunRead.mono_l : ∀ k, (∀ y0 y1 y2 y3 y4, LeO (impl_RunRead.j0 k y0 y1 y2 y3 y4) (impl_RunRead.j0 (k + 1) y0 y1 y2 y3 y4)) ∧ (∀ y0 y1 y2 y3 y4, LeO (impl_RunRead.l0 k y0 y1 y2 y3 y4) (impl_RunRead.l0 (k + 1) y0 y1 y2 y3 y4)) ∧ (∀ y0 y1 y2 y3 y4 y5 y6 y7, LeO (impl_RunRead.l1 k y0 y1 y2 y3 y4 y5 y6 y7) (impl_RunRead.l1 (k + 1) y0 y1 y2 y3 y4 y5 y6 y7))
 | 0 => ⟨fun _ _ _ _ _ r h => by simp [impl_RunRead.j0] at h, fun _ _ _ _ _ r h => by simp [impl_RunRead.l0] at h, fun _ _ _ _ _ _ _ _ r h => by simp [impl_RunRead.l1] at h⟩
 | k + 1 => by
  obtain ⟨ih0, ih1, ih2⟩ := impl_RunRead.mono_l k
  refine ⟨?_, ?_, ?_⟩
  ·intro y0 y1 y2 y3 y4
   unfold impl_RunRead.j0
   repeat' first
   |(with_reducible exact ih0 _ _ _ _ _)
   |(with_reducible exact ih1 _ _ _ _ _)
   |(with_reducible exact ih2 _ _ _ _ _ _ _ _)
   |(with_reducible exact impl_UvarGet.mono _ _ _)
   |(with_reducible exact impl_runNumber.mono _ _ _ _)
   |(with_reducible exact impl_unpacked.mono _ _ _ _ _)
   |(with_reducible exact LeO.refl _)
   |(with_reducible exact LeO.none _)
   |(with_reducible refine LeO.ite ?_ ?_)
   |(with_reducible refine LeO.bind ?_ (fun _ => ?_))
   | exact ih0 _ _ _ _ _
   | exact ih1 _ _ _ _ _
   | exact ih2 _ _ _ _ _ _ _ _
   | exact impl_UvarGet.mono _ _ _
   | exact impl_runNumber.mono _ _ _ _
   | exact impl_unpacked.mono _ _ _ _ _
   | exact LeO.none _
   | refine LeO.ite ?_ ?_
   | refine LeO.bind ?_ (fun _ => ?_)
  ·intro y0 y1 y2 y3 y4
   unfold impl_RunRead.l0
   repeat' first
   |(with_reducible exact ih0 _ _ _ _ _)
   |(with_reducible exact ih1 _ _ _ _ _)
   |(with_reducible exact ih2 _ _ _ _ _ _ _ _)
   |(with_reducible exact impl_UvarGet.mono _ _ _)
   |(with_reducible exact impl_runNumber.mono _ _ _ _)
   |(with_reducible exact impl_unpacked.mono _ _ _ _ _)
   |(with_reducible exact LeO.refl _)
   |(with_reducible exact LeO.none _)
   |(with_reducible refine LeO.ite ?_ ?_)
   |(with_reducible refine LeO.bind ?_ (fun _ => ?_))
   | exact ih0 _ _ _ _ _
   | exact ih1 _ _ _ _ _
   | exact ih2 _ _ _ _ _ _ _ _
   | exact impl_UvarGet.mono _ _ _
   | exact impl_runNumber.mono _ _ _ _
   | exact impl_unpacked.mono _ _ _ _ _
   | exact LeO.none _
   | refine LeO.ite ?_ ?_
   | refine LeO.bind ?_ (fun _ => ?_)
  ·intro y0 y1 y2 y3 y4 y5 y6 y7
   unfold impl_RunRead.l1
   repeat' first
   |(with_reducible exact ih0 _ _ _ _ _)
   |(with_reducible exact ih1 _ _ _ _ _)
   |(with_reducible exact ih2 _ _ _ _ _ _ _ _)
   |(with_reducible exact impl_UvarGet.mono _ _ _)
   |(with_reducible exact impl_runNumber.mono _ _ _ _)
   |(with_reducible exact impl_unpacked.mono _ _ _ _ _)
   |(with_reducible exact LeO.refl _)
   |(with_reducible exact LeO.none _)
   |(with_reducible refine LeO.ite ?_ ?_)
   |(with_reducible refine LeO.bind ?_ (fun _ => ?_))
   | exact ih0 _ _ _ _ _
   | exact ih1 _ _ _ _ _
   | exact ih2 _ _ _ _ _ _ _ _
   | exact impl_UvarGet.mono _ _ _
   | exact impl_runNumber.mono _ _ _ _
   | exact impl_unpacked.mono _ _ _ _ _
   | exact LeO.none _
   | refine LeO.ite ?_ ?_
   | refine LeO.bind ?_ (fun _ => ?_)
theorem impl_RunRead.mono : ∀ a0 a1 a2 a3 k, LeO (impl_RunRead.f k a0 a1 a2 a3) (impl_RunRead.f (k + 1) a0 a1 a2 a3) := by
 intro a0 a1 a2 a3 k
 obtain ⟨ih0, ih1, ih2⟩ := impl_RunRead.mono_l k
 unfold impl_RunRead.f
 repeat' first
   |(with_reducible exact ih0 _ _ _ _ _)
   |(with_reducible exact ih1 _ _ _ _ _)
   |(with_reducible exact ih2 _ _ _ _ _ _ _ _)
   |(with_reducible exact impl_UvarGet.mono _ _ _)
   |(with_reducible exact impl_runNumber.mono _ _ _ _)
   |(with_reducible exact impl_unpacked.mono _ _ _ _ _)
   |(with_reducible exact LeO.refl _)
   |(with_reducible exact LeO.none _)
   |(with_reducible refine LeO.ite ?_ ?_)
   |(with_reducible refine LeO.bind ?_ (fun _ => ?_))
   | exact ih0 _ _ _ _ _
   | exact ih1 _ _ _ _ _
   | exact ih2 _ _ _ _ _ _ _ _
   | exact impl_UvarGet.mono _ _ _
   | exact impl_runNumber.mono _ _ _ _
   | exact impl_unpacked.mono _ _ _ _ _
   | exact LeO.none _
   | refine LeO.ite ?_ ?_
   | refine LeO.bind ?_ (fun _ => ?_)
set_option maxHeartbeats 8000000 in
set_option maxRecDepth 100000 in
theorem impl_RunRead.calls (k : Nat) (A0 : Option Addr) (c0 : Nat) (l0 : List Int) (a1 : Int) (a2 : Int) (a3 : Int) (r1 : List Int) (r2 : Int) (r3 : Bool) (w : World) (hr0 : Kd.C (Kd.int .u8) w A0 l0.length l0) (hc0 : l0.length ≤ c0) (h : impl_RunRead.f k l0 a1 a2 a3 = some (r1, r2, r3)) :
  Calls Try.prog 10 #[.slice A0 l0.length c0, .int .i64 a1, .int .i64 a2, .int .i64 a3] w fun e w' => ∃ v0_ : Value, e = .returned (.tuple #[v0_, .int .i64 r2, .bool r3]) ∧ Kd.R (Kd.int .i64) 3 w' w.heap.size (fun _ => True) v0_ r1 ∧ Below w.heap.size w w' := by
 have HR0 := Aside0.mk hr0
 have HC0 := Aside0.mk hc0
 clear hr0 hc0
 have HB := Aside0.mk (Below.refl w.heap.size w)
 have H : ((impl_within.f a3 0 24).bind fun t416 => (if t416 = true then ((impl_within.f a2 0 2000).bind fun t417 => (if t417 = true then ((impl_within.f a1 0 (l0.length : Int)).bind fun t418 => (impl_RunRead.j0 k l0 a1 a2 a3 (!t418))) else (impl_RunRead.j0 k l0 a1 a2 a3 true))) else (impl_RunRead.j0 k l0 a1 a2 a3 true))) = some (r1, r2, r3) := h
 clear h
 have HC5 := Aside0.mk H
 clear H
 go_enter Try.func10, Try.ntmps10
 go_upto_region 1 with (fail)
 go_cut [34] (fun v34 wc => ∃ (kq : Nat) (x34_4 : Bool), v34 = .bool x34_4 ∧ Aside0 (impl_RunRead.j0 kq l0 a1 a2 a3 x34_4 = some (r1, r2, r3)) ∧ Aside0 (kq ≤ k) ∧ Aside0 (Below w.heap.size w wc))
 case first =>
  have H := HC5.out
  clear HC5
  replace H := Option.bind_eq_some_iff.mp H
  obtain ⟨t416, A60, H⟩ := H
  replace H : (if t416 = true then ((impl_within.f a2 0 2000).bind fun t417 => (if t417 = true then ((impl_within.f a1 0 (l0.length : Int)).bind fun t418 => (impl_RunRead.j0 k l0 a1 a2 a3 (!t418))) else (impl_RunRead.j0 k l0 a1 a2 a3 true))) else (impl_RunRead.j0 k l0 a1 a2 a3 true)) = some (r1, r2, r3) := H
  have A6 := Aside0.mk A60
  clear A60
  by_cases c7 : t416 = true
  ·subst c7
   have H1 : ((impl_within.f a2 0 2000).bind fun t417 => (if t417 = true then ((impl_within.f a1 0 (l0.length : Int)).bind fun t418 => (impl_RunRead.j0 k l0 a1 a2 a3 (!t418))) else (impl_RunRead.j0 k l0 a1 a2 a3 true))) = some (r1, r2, r3) := by rw [if_pos rfl] at H; exact H
   clear H
   have H := H1
   clear H1
   replace H := Option.bind_eq_some_iff.mp H
   obtain ⟨t417, A80, H⟩ := H
   replace H : (if t417 = true then ((impl_within.f a1 0 (l0.length : Int)).bind fun t418 => (impl_RunRead.j0 k l0 a1 a2 a3 (!t418))) else (impl_RunRead.j0 k l0 a1 a2 a3 true)) = some (r1, r2, r3) := H
   have A8 := Aside0.mk A80
   clear A80
   by_cases c9 : t417 = true
   ·subst c9
    have H1 : ((impl_within.f a1 0 (l0.length : Int)).bind fun t418 => (impl_RunRead.j0 k l0 a1 a2 a3 (!t418))) = some (r1, r2, r3) := by rw [if_pos rfl] at H; exact H
    clear H
    have H := H1
    clear H1
    replace H := Option.bind_eq_some_iff.mp H
    obtain ⟨t418, A100, H⟩ := H
    replace H : (impl_RunRead.j0 k l0 a1 a2 a3 (!t418)) = some (r1, r2, r3) := H
    have A10 := Aside0.mk A100
    clear A100
    have H' := Aside0.mk H
    clear H
    go_wp2_with (first|((with_reducible refine gate_callee (f := 44) rfl ?_); refine goesL_ (some 21) rfl rfl Try.func44 (by kernel_rfl) rfl #[.int .i64 a3, .int .i64 0, .int .i64 24] rfl (by (try simp only [List.map_toArray, List.map_cons, List.map_nil]); first|done|rfl|(simp only [List.length_drop, List.length_take]; rfl)) ?_; (with_reducible refine (impl_within.calls a3 0 24 true _ A6.out).mono ?_); rintro e w' ⟨rfl, ⟨nd, rfl⟩⟩; refine ⟨_, rfl, ?_⟩)|(go_at_call 44; (with_reducible refine (impl_within.calls a2 0 2000 true _ A8.out).mono ?_); rintro e w' ⟨rfl, ⟨nd, rfl⟩⟩)|(go_at_call 44; (with_reducible refine (impl_within.calls a1 0 (l0.length : Int) t418 _ A10.out).mono ?_); rintro e w' ⟨rfl, ⟨nd, rfl⟩⟩))
    (try simp only [hji19v])
    (try simp only [hji20v])
    go_meet
    case rel => exact ⟨_, (!t418), (by first|rfl|(simp; done)|(simp [*]; done)), H', ⟨by first|omega|exact Nat.le_refl _⟩, ⟨by repeat (first|(with_reducible first|exact HB.out|apply below_alloc|apply pw_below_drewN|apply below_drew1)|exact HB.out)⟩⟩
   ·replace c9 := Bool.eq_false_iff.mpr c9
    subst c9
    have H1 : (impl_RunRead.j0 k l0 a1 a2 a3 true) = some (r1, r2, r3) := by rw [if_neg (show ¬ (false = true) by decide)] at H; exact H
    clear H
    have H := H1
    clear H1
    have H' := Aside0.mk H
    clear H
    go_wp2_with (first|((with_reducible refine gate_callee (f := 44) rfl ?_); refine goesL_ (some 21) rfl rfl Try.func44 (by kernel_rfl) rfl #[.int .i64 a3, .int .i64 0, .int .i64 24] rfl (by (try simp only [List.map_toArray, List.map_cons, List.map_nil]); first|done|rfl|(simp only [List.length_drop, List.length_take]; rfl)) ?_; (with_reducible refine (impl_within.calls a3 0 24 true _ A6.out).mono ?_); rintro e w' ⟨rfl, ⟨nd, rfl⟩⟩; refine ⟨_, rfl, ?_⟩)|(go_at_call 44; (with_reducible refine (impl_within.calls a2 0 2000 false _ A8.out).mono ?_); rintro e w' ⟨rfl, ⟨nd, rfl⟩⟩))
    (try simp only [hji19v])
    (try simp only [hji20v])
    go_meet
    case rel => exact ⟨_, (true), (by first|rfl|(simp; done)|(simp [*]; done)), H', ⟨by first|omega|exact Nat.le_refl _⟩, ⟨by repeat (first|(with_reducible first|exact HB.out|apply below_alloc|apply pw_below_drewN|apply below_drew1)|exact HB.out)⟩⟩
  ·replace c7 := Bool.eq_false_iff.mpr c7
   subst c7
   have H1 : (impl_RunRead.j0 k l0 a1 a2 a3 true) = some (r1, r2, r3) := by rw [if_neg (show ¬ (false = true) by decide)] at H; exact H
   clear H
   have H := H1
   clear H1
   have H' := Aside0.mk H
   clear H
   go_wp2_with (first|((with_reducible refine gate_callee (f := 44) rfl ?_); refine goesL_ (some 21) rfl rfl Try.func44 (by kernel_rfl) rfl #[.int .i64 a3, .int .i64 0, .int .i64 24] rfl (by (try simp only [List.map_toArray, List.map_cons, List.map_nil]); first|done|rfl|(simp only [List.length_drop, List.length_take]; rfl)) ?_; (with_reducible refine (impl_within.calls a3 0 24 false _ A6.out).mono ?_); rintro e w' ⟨rfl, ⟨nd, rfl⟩⟩; refine ⟨_, rfl, ?_⟩))
   (try simp only [hji19v])
   (try simp only [hji20v])
   go_meet
   case rel => exact ⟨_, (true), (by first|rfl|(simp; done)|(simp [*]; done)), H', ⟨by first|omega|exact Nat.le_refl _⟩, ⟨by repeat (first|(with_reducible first|exact HB.out|apply below_alloc|apply pw_below_drewN|apply below_drew1)|exact HB.out)⟩⟩
 case rest =>
  clear HC5
  try clear c1
  try clear p2
  try clear c4
  try clear c7
  try clear c9
  try clear c10
  obtain ⟨kq, x34_4, rfl, HA, HJ4, HB⟩ := hcut
  cases kq with
  | zero => exact absurd HA.out (by simp [impl_RunRead.j0])
  | succ kj4 =>
   have H := HA.out
   clear HA
   simp only [impl_RunRead.j0] at H
   by_cases c11 : x34_4 = true
   ·subst c11
    have H1 : (some (([] : List Int), 0, false)) = some (r1, r2, r3) := by rw [if_pos rfl] at H; exact H
    clear H
    have H := H1
    clear H1
    simp only [Option.some.injEq, Prod.mk.injEq] at H
    obtain ⟨rfl, rfl, rfl⟩ := H
    go_wp2
    go_ret3
    exact ⟨_, by first|rfl|(simp [errW_none, errW_some] <;> rfl)|(simp [*, errW_none, errW_some] <;> rfl)|(exfalso; simp only [Bool.not_eq_true', Bool.not_eq_false', decide_eq_false_iff_not, decide_eq_true_eq, decide_eq_decide, Int.not_lt, Int.not_le] at *; omega), by first|exact Kd.R_nil _ _ _ _ _|exact Kd.N_nil _ _ _ _ _|exact Kd.V_nil _ _ _ _ _|exact Kd.Q_nil _ _ _ _ _|exact Kd.S_nil _ _ _ _ _, by repeat (first|(with_reducible first|exact HB.out|apply below_alloc|apply pw_below_drewN|apply below_drew1)|exact HB.out)⟩
   ·replace c11 := Bool.eq_false_iff.mpr c11
    subst c11
    have H1 : (impl_RunRead.l0 kj4 l0 a1 a2 a3 (([] : List Int))) = some (r1, r2, r3) := by rw [if_neg (show ¬ (false = true) by decide)] at H; exact H
    clear H
    have H := H1
    clear H1
    obtain ⟨y419, hy419⟩ : ∃ y_ : List Int, y_ = (([] : List Int)) := ⟨_, rfl⟩
    replace H : (impl_RunRead.l0 kj4 l0 a1 a2 a3 y419) = some (r1, r2, r3) := by first|(rw [hy419]; with_reducible exact H)|(have H2_ := (Option.bind_some _ _).symm.trans H; rw [hy419]; with_reducible exact H2_)|(have H2_ := (Option.bind_some _ _).symm.trans H; with_reducible exact H2_)|with_reducible exact H|(rw [hy419]; exact H)|exact H
    have Ny419 := Aside0.mk hy419
    clear hy419
    have H' := Aside0.mk H
    clear H
    go_wp2_with (first|((with_reducible refine gate_dst (N := 35) rfl ?_); (try (refine gate_guard (by rfl) ?_; dsimp only)); refine Kd.R_lit (Kd.int .i64) _ 3 ?hg (N := 35) ?hd (xs := ([] : List Int)) (inner := []) (ok := fun _ => True) (okp := fun _ => True) ?hr ?hp (fun _ hk => hk) trivial (Below.refl _ _) (Nat.le_refl _) (by simp) ?_; (case hd => rfl); (case hg => rfl); (case hr => first|(go_simp; done)|(go_simp; rfl)); (case hp => exact (Reps.none _ _)); intro v420 w12 ho13 hb hg_ hnew_; clear hg_ hnew_; (first|rw [← Ny419.out] at ho13|(simp only [Int.reduceToNat] at ho13; rw [← Ny419.out] at ho13)); have n0_ := Aside0.mk (Kd.R_lower ho13 (below_size (by repeat (first|(with_reducible first|exact HB.out|apply below_alloc|apply pw_below_drewN|apply below_drew1)|exact HB.out)))); have n1_ := Aside0.mk (below_step (by repeat (first|(with_reducible first|exact HB.out|apply below_alloc|apply pw_below_drewN|apply below_drew1)|exact HB.out)) hb); clear HB; have HO421 := n0_; have HB := n1_; clear n0_ n1_; clear hb ho13))
    go_loopg [1, 11] kj4 (fun kq v1 v11 w' => ∃ (x1_2 : Int) (x11_2 : List Int), v1 = .int .i64 x1_2 ∧ Aside0 (impl_RunRead.l0 kq l0 x1_2 a2 a3 x11_2 = some (r1, r2, r3)) ∧ Aside0 (kq ≤ kj4) ∧ Aside0 (Kd.R (Kd.int .i64) 3 w' w.heap.size (fun _ => True) v11 x11_2) ∧ Aside0 (Below w.heap.size w w'))
    case atStart => exact ⟨(a1), (y419), (by first|rfl|(simp; done)|(simp [*]; done)), H', ⟨Nat.le_refl _⟩, ⟨by (with_reducible repeat (first|apply Kd.R_alloc|apply Kd.R_drewN|apply Kd.R_drew)); exact HO421.out⟩, ⟨by repeat (first|(with_reducible first|exact HB.out|apply below_alloc|apply pw_below_drewN|apply below_drew1)|exact HB.out)⟩⟩
    case round =>
     clear H'
     try clear c1
     try clear p2
     try clear c4
     try clear c7
     try clear c9
     try clear c10
     try clear c11
     try clear p2
     obtain ⟨x1_2, x11_2, rfl, HA, HK2, HO_11, HB⟩ := hrel
     cases gk with
     | zero => exact absurd HA.out (by simp [impl_RunRead.l0])
     | succ k2 =>
      have H := HA.out
      clear HA
      simp only [impl_RunRead.l0] at H
      by_cases c14 : (x11_2.length : Int) < a2
      ·rw [if_pos c14] at H
       have c14b0 : decide ((x11_2.length : Int) < a2) = true := decide_eq_true c14
       clear c14
       replace H := Option.bind_eq_some_iff.mp H
       obtain ⟨⟨t422, t423, t424⟩, A150, H⟩ := H
       replace H : (if t424 = true then (if (Go.bits .and .i64 t422 1) = 0 then ((impl_runNumber.f k2 l0 t423 a3).bind fun bt425 => (if bt425.2.2 = true then (impl_RunRead.l1 k2 l0 a2 a3 x11_2 bt425.1 bt425.2.1 (mn (wrap64 ((IntKind.u64.wrap (t422)) / 2)) (wrap64 (a2 - (x11_2.length : Int)))) 0) else (some (([] : List Int), 0, false)))) else (if (wrap64 ((IntKind.u64.wrap (t422)) / 2)) > 2000 then (some (([] : List Int), 0, false)) else (if (wrap64 ((wrap64 ((IntKind.u64.wrap (t422)) / 2)) * a3)) > (wrap64 ((l0.length : Int) - t423)) then (some (([] : List Int), 0, false)) else ((impl_unpacked.f k2 l0 t423 (mn (wrap64 (8 * (wrap64 ((IntKind.u64.wrap (t422)) / 2)))) (wrap64 (a2 - (x11_2.length : Int)))) a3).bind fun t431 => (if x11_2.length + t431.length < 17592186044416 then (impl_RunRead.l0 k2 l0 (wrap64 (t423 + (wrap64 ((wrap64 ((IntKind.u64.wrap (t422)) / 2)) * a3)))) a2 a3 (x11_2 ++ t431)) else (none)))))) else (some (([] : List Int), 0, false))) = some (r1, r2, r3) := H
       have A15 := Aside0.mk A150
       clear A150
       by_cases c16 : t424 = true
       ·subst c16
        have H1 : (if (Go.bits .and .i64 t422 1) = 0 then ((impl_runNumber.f k2 l0 t423 a3).bind fun bt425 => (if bt425.2.2 = true then (impl_RunRead.l1 k2 l0 a2 a3 x11_2 bt425.1 bt425.2.1 (mn (wrap64 ((IntKind.u64.wrap (t422)) / 2)) (wrap64 (a2 - (x11_2.length : Int)))) 0) else (some (([] : List Int), 0, false)))) else (if (wrap64 ((IntKind.u64.wrap (t422)) / 2)) > 2000 then (some (([] : List Int), 0, false)) else (if (wrap64 ((wrap64 ((IntKind.u64.wrap (t422)) / 2)) * a3)) > (wrap64 ((l0.length : Int) - t423)) then (some (([] : List Int), 0, false)) else ((impl_unpacked.f k2 l0 t423 (mn (wrap64 (8 * (wrap64 ((IntKind.u64.wrap (t422)) / 2)))) (wrap64 (a2 - (x11_2.length : Int)))) a3).bind fun t431 => (if x11_2.length + t431.length < 17592186044416 then (impl_RunRead.l0 k2 l0 (wrap64 (t423 + (wrap64 ((wrap64 ((IntKind.u64.wrap (t422)) / 2)) * a3)))) a2 a3 (x11_2 ++ t431)) else (none)))))) = some (r1, r2, r3) := by rw [if_pos rfl] at H; exact H
        clear H
        have H := H1
        clear H1
        by_cases c17 : (Go.bits .and .i64 t422 1) = 0
        ·rw [if_pos c17] at H
         have c17b0 : ((Go.bits .and .i64 t422 1) == 0) = true := beq_iff_eq.mpr c17
         have c17b1 : ((Go.bits .and .i64 t422 1) != 0) = false := bne_eq_false_iff_eq.mpr c17
         clear c17
         replace H := Option.bind_eq_some_iff.mp H
         obtain ⟨⟨t425, t426, t427⟩, A180, H⟩ := H
         replace H : (if t427 = true then (impl_RunRead.l1 k2 l0 a2 a3 x11_2 t425 t426 (mn (wrap64 ((IntKind.u64.wrap (t422)) / 2)) (wrap64 (a2 - (x11_2.length : Int)))) 0) else (some (([] : List Int), 0, false))) = some (r1, r2, r3) := H
         have A18 := Aside0.mk A180
         clear A180
         by_cases c19 : t427 = true
         ·subst c19
          have H1 : (impl_RunRead.l1 k2 l0 a2 a3 x11_2 t425 t426 (mn (wrap64 ((IntKind.u64.wrap (t422)) / 2)) (wrap64 (a2 - (x11_2.length : Int)))) 0) = some (r1, r2, r3) := by rw [if_pos rfl] at H; exact H
          clear H
          have H := H1
          clear H1
          obtain ⟨ji20, hji20⟩ : ∃ j_ : Int, (mn (wrap64 ((IntKind.u64.wrap (t422)) / 2)) (wrap64 (a2 - (x11_2.length : Int)))) = j_ := ⟨_, rfl⟩
          replace H : (impl_RunRead.l1 k2 l0 a2 a3 x11_2 t425 t426 ji20 0) = some (r1, r2, r3) := by first|(rw [hji20] at H; exact H)|(simp only [hji20] at H ⊢; exact H)
          (try rw [hji20] at A15)
          (try rw [hji20] at A18)
          have hji20_ : (if (wrap64 (a2 - (x11_2.length : Int))) < (wrap64 ((IntKind.u64.wrap (t422)) / 2)) then (wrap64 (a2 - (x11_2.length : Int))) else (wrap64 ((IntKind.u64.wrap (t422)) / 2))) = ji20 := hji20
          have H' := Aside0.mk H
          clear H
          obtain ⟨Ao21, co21, eo21⟩ := Kd.R_slice HO_11.out
          subst eo21
          go_wp2_with (first|((with_reducible refine gate_callee (f := 45) rfl ?_); refine goesL_ (some 43) rfl rfl Try.func45 (by kernel_rfl) rfl #[.slice A0 l0.length c0, .int .i64 x1_2] rfl (by (try simp only [List.map_toArray, List.map_cons, List.map_nil]); first|done|rfl|(simp only [List.length_drop, List.length_take]; rfl)) ?_; (with_reducible refine (impl_UvarGet.calls k2 _ _ l0 x1_2 t422 t423 true _ ?side1 ?side2 A15.out).mono ?_); (case side1 => repeat (first|exact (Kd.C_below HR0.out HB.out)|(with_reducible refine Kd.C_alloc ?_ _)|(with_reducible refine Kd.C_drewN ?_ _)|(with_reducible refine Kd.C_drew ?_))); (case side2 => exact HC0.out); rintro e w' ⟨rfl, ⟨nd, rfl⟩⟩; refine ⟨_, rfl, ?_⟩)|((with_reducible refine gate_callee (f := 46) rfl ?_); refine goesL_ (some 64) rfl rfl Try.func46 (by kernel_rfl) rfl #[.slice A0 l0.length c0, .int .i64 t423, .int .i64 a3] rfl (by (try simp only [List.map_toArray, List.map_cons, List.map_nil]); first|done|rfl|(simp only [List.length_drop, List.length_take]; rfl)) ?_; (with_reducible refine (impl_runNumber.calls k2 _ _ l0 t423 a3 t425 t426 true _ ?side1 ?side2 A18.out).mono ?_); (case side1 => repeat (first|exact (Kd.C_below HR0.out (by repeat (first|(with_reducible first|exact HB.out|apply below_alloc|apply pw_below_drewN|apply below_drew1)|exact HB.out)))|(with_reducible refine Kd.C_alloc ?_ _)|(with_reducible refine Kd.C_drewN ?_ _)|(with_reducible refine Kd.C_drew ?_))); (case side2 => exact HC0.out); rintro e w' ⟨rfl, ⟨nd, rfl⟩⟩; refine ⟨_, rfl, ?_⟩))
          go_loopg [11, 73] k2 (fun kq v11 v73 w' => ∃ (x11_3 : List Int) (x73_3 : Int), v73 = .int .i64 x73_3 ∧ Aside0 (impl_RunRead.l1 kq l0 a2 a3 x11_3 t425 t426 ji20 x73_3 = some (r1, r2, r3)) ∧ Aside0 (kq ≤ k2) ∧ Aside0 (Kd.R (Kd.int .i64) 3 w' w.heap.size (fun _ => True) v11 x11_3) ∧ Aside0 (Below w.heap.size w w'))
          case atStart => exact ⟨(x11_2), (0), (by first|rfl|(simp; done)|(simp [*]; done)), H', ⟨Nat.le_refl _⟩, ⟨by (with_reducible repeat (first|apply Kd.R_alloc|apply Kd.R_drewN|apply Kd.R_drew)); exact HO_11.out⟩, ⟨by repeat (first|(with_reducible first|exact HB.out|apply below_alloc|apply pw_below_drewN|apply below_drew1)|exact HB.out)⟩⟩
          case round =>
           clear H'
           try clear c1
           try clear p2
           try clear c4
           try clear p6
           try clear c7
           try clear c9
           try clear c10
           try clear c11
           try clear c14
           try clear c14b0
           try clear c16
           try clear c17
           try clear c17b0
           try clear c17b1
           try clear c19
           try clear p2
           obtain ⟨x11_3, x73_3, rfl, HA, HK3, HO_11, HB⟩ := hrel
           cases gk with
           | zero => exact absurd HA.out (by simp [impl_RunRead.l1])
           | succ k3 =>
            have H := HA.out
            clear HA
            simp only [impl_RunRead.l1] at H
            by_cases c22 : x73_3 < ji20
            ·rw [if_pos c22] at H
             have c22b0 : decide (x73_3 < ji20) = true := decide_eq_true c22
             clear c22
             by_cases c23 : x11_3.length < 17592186044416
             ·rw [if_pos c23] at H
              have LMc23 := Aside0.mk c23
              clear c23
              obtain ⟨y428, hy428⟩ : ∃ y_ : List Int, y_ = (x11_3 ++ [t425]) := ⟨_, rfl⟩
              replace H : (impl_RunRead.l1 k3 l0 a2 a3 y428 t425 t426 ji20 (wrap64 (x73_3 + 1))) = some (r1, r2, r3) := by first|(rw [hy428]; with_reducible exact H)|(have H2_ := (Option.bind_some _ _).symm.trans H; rw [hy428]; with_reducible exact H2_)|(have H2_ := (Option.bind_some _ _).symm.trans H; with_reducible exact H2_)|with_reducible exact H|(rw [hy428]; exact H)|exact H
              have Ny428 := Aside0.mk hy428
              clear hy428
              have H' := Aside0.mk H
              clear H
              go_wp2_with (first|((with_reducible refine gate_builtin (b := .append) (xs := #[.tmp 75, .tmp 77]) rfl ?_); (try (refine gate_guard (by rfl) ?_; dsimp only)); at_builtin; refine Kd.R_append (Kd.int .i64) (w0 := w) w.heap.size rfl (.tmp 75) (.tmp 77) 24 3 (.int .i64 0) 8 rfl Try.underlying24 info3 rfl (by decide) (by omega) u11 x11_3 t425 [.int .i64 t425] (fun _ => True) (fun _ => False) rfl rfl ?aP (fun _ hk => hk.elim) ?aF ?aO ?aB ?aS ?aL ?_; (case aP => exact rfl); (case aB => exact (by repeat (first|(with_reducible first|exact HB.out|apply below_alloc|apply pw_below_drewN|apply below_drew1)|exact HB.out))); (case aF => exact (fun _ _ => trivial)); (case aO => exact (by (with_reducible repeat (first|apply Kd.R_alloc|apply Kd.R_drewN|apply Kd.R_drew)); exact HO_11.out)); (case aS => exact (below_size (by repeat (first|(with_reducible first|exact HB.out|apply below_alloc|apply pw_below_drewN|apply below_drew1)|exact HB.out)))); (case aL => have := LMc23.out; omega); intro v429 w24 ho hb hg hat; rw [← Ny428.out] at ho; have n0_ := Aside0.mk (hb); have n1_ := Aside0.mk (ho); clear HB; clear HO_11; have HB := n0_; have HO430 := n1_; clear n0_ n1_; clear ho hb hg hat))
              (try simp only [hji19v])
              (try simp only [hji20v])
              go_roundg k3
              case measure => have := HJ4.out; have := HK2.out; have := HK3.out; omega
              case rel => exact ⟨(y428), (wrap64 (x73_3 + 1)), (by first|rfl|(simp; done)|(simp [*]; done)), H', ⟨by have := HJ4.out; have := HK2.out; have := HK3.out; omega⟩, ⟨by (with_reducible repeat (first|apply Kd.R_alloc|apply Kd.R_drewN|apply Kd.R_drew)); exact HO430.out⟩, ⟨by repeat (first|(with_reducible first|exact HB.out|apply below_alloc|apply pw_below_drewN|apply below_drew1)|exact HB.out)⟩⟩
             ·rw [if_neg c23] at H
              exact absurd H (by simp)
            ·rw [if_neg c22] at H
             have c22b0 : decide (x73_3 < ji20) = false := decide_eq_false c22
             clear c22
             have H' := Aside0.mk H
             clear H
             go_wp2
             (try simp only [hji19v])
             (try simp only [hji20v])
             go_roundg k3
             case measure => have := HJ4.out; have := HK2.out; have := HK3.out; omega
             case rel => exact ⟨(t426), (x11_3), (by first|rfl|(simp; done)|(simp [*]; done)), H', ⟨by have := HJ4.out; have := HK2.out; have := HK3.out; omega⟩, ⟨by (with_reducible repeat (first|apply Kd.R_alloc|apply Kd.R_drewN|apply Kd.R_drew)); exact HO_11.out⟩, ⟨by repeat (first|(with_reducible first|exact HB.out|apply below_alloc|apply pw_below_drewN|apply below_drew1)|exact HB.out)⟩⟩
         ·replace c19 := Bool.eq_false_iff.mpr c19
          subst c19
          have H1 : (some (([] : List Int), 0, false)) = some (r1, r2, r3) := by rw [if_neg (show ¬ (false = true) by decide)] at H; exact H
          clear H
          have H := H1
          clear H1
          simp only [Option.some.injEq, Prod.mk.injEq] at H
          obtain ⟨rfl, rfl, rfl⟩ := H
          obtain ⟨Ao25, co25, eo25⟩ := Kd.R_slice HO_11.out
          subst eo25
          go_wp2_with (first|((with_reducible refine gate_callee (f := 45) rfl ?_); refine goesL_ (some 43) rfl rfl Try.func45 (by kernel_rfl) rfl #[.slice A0 l0.length c0, .int .i64 x1_2] rfl (by (try simp only [List.map_toArray, List.map_cons, List.map_nil]); first|done|rfl|(simp only [List.length_drop, List.length_take]; rfl)) ?_; (with_reducible refine (impl_UvarGet.calls k2 _ _ l0 x1_2 t422 t423 true _ ?side1 ?side2 A15.out).mono ?_); (case side1 => repeat (first|exact (Kd.C_below HR0.out HB.out)|(with_reducible refine Kd.C_alloc ?_ _)|(with_reducible refine Kd.C_drewN ?_ _)|(with_reducible refine Kd.C_drew ?_))); (case side2 => exact HC0.out); rintro e w' ⟨rfl, ⟨nd, rfl⟩⟩; refine ⟨_, rfl, ?_⟩)|((with_reducible refine gate_callee (f := 46) rfl ?_); refine goesL_ (some 64) rfl rfl Try.func46 (by kernel_rfl) rfl #[.slice A0 l0.length c0, .int .i64 t423, .int .i64 a3] rfl (by (try simp only [List.map_toArray, List.map_cons, List.map_nil]); first|done|rfl|(simp only [List.length_drop, List.length_take]; rfl)) ?_; (with_reducible refine (impl_runNumber.calls k2 _ _ l0 t423 a3 t425 t426 false _ ?side1 ?side2 A18.out).mono ?_); (case side1 => repeat (first|exact (Kd.C_below HR0.out (by repeat (first|(with_reducible first|exact HB.out|apply below_alloc|apply pw_below_drewN|apply below_drew1)|exact HB.out)))|(with_reducible refine Kd.C_alloc ?_ _)|(with_reducible refine Kd.C_drewN ?_ _)|(with_reducible refine Kd.C_drew ?_))); (case side2 => exact HC0.out); rintro e w' ⟨rfl, ⟨nd, rfl⟩⟩; refine ⟨_, rfl, ?_⟩))
          go_ret3
          exact ⟨_, by first|rfl|(simp [errW_none, errW_some] <;> rfl)|(simp [*, errW_none, errW_some] <;> rfl)|(exfalso; simp only [Bool.not_eq_true', Bool.not_eq_false', decide_eq_false_iff_not, decide_eq_true_eq, decide_eq_decide, Int.not_lt, Int.not_le] at *; omega), by first|exact Kd.R_nil _ _ _ _ _|exact Kd.N_nil _ _ _ _ _|exact Kd.V_nil _ _ _ _ _|exact Kd.Q_nil _ _ _ _ _|exact Kd.S_nil _ _ _ _ _, by repeat (first|(with_reducible first|exact HB.out|apply below_alloc|apply pw_below_drewN|apply below_drew1)|exact HB.out)⟩
        ·rw [if_neg c17] at H
         have c17b0 : ((Go.bits .and .i64 t422 1) == 0) = false := beq_eq_false_iff_ne.mpr c17
         have c17b1 : ((Go.bits .and .i64 t422 1) != 0) = true := bne_iff_ne.mpr c17
         by_cases c26 : (wrap64 ((IntKind.u64.wrap (t422)) / 2)) > 2000
         ·rw [if_pos c26] at H
          have c26b0 : decide (2000 < (wrap64 ((IntKind.u64.wrap (t422)) / 2))) = true := decide_eq_true c26
          clear c26
          simp only [Option.some.injEq, Prod.mk.injEq] at H
          obtain ⟨rfl, rfl, rfl⟩ := H
          obtain ⟨Ao27, co27, eo27⟩ := Kd.R_slice HO_11.out
          subst eo27
          go_wp2_with (first|((with_reducible refine gate_callee (f := 45) rfl ?_); refine goesL_ (some 43) rfl rfl Try.func45 (by kernel_rfl) rfl #[.slice A0 l0.length c0, .int .i64 x1_2] rfl (by (try simp only [List.map_toArray, List.map_cons, List.map_nil]); first|done|rfl|(simp only [List.length_drop, List.length_take]; rfl)) ?_; (with_reducible refine (impl_UvarGet.calls k2 _ _ l0 x1_2 t422 t423 true _ ?side1 ?side2 A15.out).mono ?_); (case side1 => repeat (first|exact (Kd.C_below HR0.out HB.out)|(with_reducible refine Kd.C_alloc ?_ _)|(with_reducible refine Kd.C_drewN ?_ _)|(with_reducible refine Kd.C_drew ?_))); (case side2 => exact HC0.out); rintro e w' ⟨rfl, ⟨nd, rfl⟩⟩; refine ⟨_, rfl, ?_⟩))
          go_ret3
          exact ⟨_, by first|rfl|(simp [errW_none, errW_some] <;> rfl)|(simp [*, errW_none, errW_some] <;> rfl)|(exfalso; simp only [Bool.not_eq_true', Bool.not_eq_false', decide_eq_false_iff_not, decide_eq_true_eq, decide_eq_decide, Int.not_lt, Int.not_le] at *; omega), by first|exact Kd.R_nil _ _ _ _ _|exact Kd.N_nil _ _ _ _ _|exact Kd.V_nil _ _ _ _ _|exact Kd.Q_nil _ _ _ _ _|exact Kd.S_nil _ _ _ _ _, by repeat (first|(with_reducible first|exact HB.out|apply below_alloc|apply pw_below_drewN|apply below_drew1)|exact HB.out)⟩
         ·rw [if_neg c26] at H
          have c26b0 : decide (2000 < (wrap64 ((IntKind.u64.wrap (t422)) / 2))) = false := decide_eq_false c26
          clear c26
          by_cases c28 : (wrap64 ((wrap64 ((IntKind.u64.wrap (t422)) / 2)) * a3)) > (wrap64 ((l0.length : Int) - t423))
          ·rw [if_pos c28] at H
           have c28b0 : decide ((wrap64 ((l0.length : Int) - t423)) < (wrap64 ((wrap64 ((IntKind.u64.wrap (t422)) / 2)) * a3))) = true := decide_eq_true c28
           clear c28
           simp only [Option.some.injEq, Prod.mk.injEq] at H
           obtain ⟨rfl, rfl, rfl⟩ := H
           obtain ⟨Ao29, co29, eo29⟩ := Kd.R_slice HO_11.out
           subst eo29
           go_wp2_with (first|((with_reducible refine gate_callee (f := 45) rfl ?_); refine goesL_ (some 43) rfl rfl Try.func45 (by kernel_rfl) rfl #[.slice A0 l0.length c0, .int .i64 x1_2] rfl (by (try simp only [List.map_toArray, List.map_cons, List.map_nil]); first|done|rfl|(simp only [List.length_drop, List.length_take]; rfl)) ?_; (with_reducible refine (impl_UvarGet.calls k2 _ _ l0 x1_2 t422 t423 true _ ?side1 ?side2 A15.out).mono ?_); (case side1 => repeat (first|exact (Kd.C_below HR0.out HB.out)|(with_reducible refine Kd.C_alloc ?_ _)|(with_reducible refine Kd.C_drewN ?_ _)|(with_reducible refine Kd.C_drew ?_))); (case side2 => exact HC0.out); rintro e w' ⟨rfl, ⟨nd, rfl⟩⟩; refine ⟨_, rfl, ?_⟩))
           go_ret3
           exact ⟨_, by first|rfl|(simp [errW_none, errW_some] <;> rfl)|(simp [*, errW_none, errW_some] <;> rfl)|(exfalso; simp only [Bool.not_eq_true', Bool.not_eq_false', decide_eq_false_iff_not, decide_eq_true_eq, decide_eq_decide, Int.not_lt, Int.not_le] at *; omega), by first|exact Kd.R_nil _ _ _ _ _|exact Kd.N_nil _ _ _ _ _|exact Kd.V_nil _ _ _ _ _|exact Kd.Q_nil _ _ _ _ _|exact Kd.S_nil _ _ _ _ _, by repeat (first|(with_reducible first|exact HB.out|apply below_alloc|apply pw_below_drewN|apply below_drew1)|exact HB.out)⟩
          ·rw [if_neg c28] at H
           have c28b0 : decide ((wrap64 ((l0.length : Int) - t423)) < (wrap64 ((wrap64 ((IntKind.u64.wrap (t422)) / 2)) * a3))) = false := decide_eq_false c28
           clear c28
           obtain ⟨ji30, hji30⟩ : ∃ j_ : Int, (mn (wrap64 (8 * (wrap64 ((IntKind.u64.wrap (t422)) / 2)))) (wrap64 (a2 - (x11_2.length : Int)))) = j_ := ⟨_, rfl⟩
           replace H : ((impl_unpacked.f k2 l0 t423 (ji30) a3).bind fun t431 => (if x11_2.length + t431.length < 17592186044416 then (impl_RunRead.l0 k2 l0 (wrap64 (t423 + (wrap64 ((wrap64 ((IntKind.u64.wrap (t422)) / 2)) * a3)))) a2 a3 (x11_2 ++ t431)) else (none))) = some (r1, r2, r3) := by first|(rw [hji30] at H; exact H)|(simp only [hji30] at H ⊢; exact H)
           (try rw [hji30] at A15)
           have hji30_ : (if (wrap64 (a2 - (x11_2.length : Int))) < (wrap64 (8 * (wrap64 ((IntKind.u64.wrap (t422)) / 2)))) then (wrap64 (a2 - (x11_2.length : Int))) else (wrap64 (8 * (wrap64 ((IntKind.u64.wrap (t422)) / 2))))) = ji30 := hji30
           replace H := Option.bind_eq_some_iff.mp H
           obtain ⟨t431, A310, H⟩ := H
           replace H : (if x11_2.length + t431.length < 17592186044416 then (impl_RunRead.l0 k2 l0 (wrap64 (t423 + (wrap64 ((wrap64 ((IntKind.u64.wrap (t422)) / 2)) * a3)))) a2 a3 (x11_2 ++ t431)) else (none)) = some (r1, r2, r3) := H
           have A31 := Aside0.mk A310
           clear A310
           by_cases c32 : x11_2.length + t431.length < 17592186044416
           ·rw [if_pos c32] at H
            have LMc32 := Aside0.mk c32
            clear c32
            obtain ⟨y434, hy434⟩ : ∃ y_ : List Int, y_ = (x11_2 ++ t431) := ⟨_, rfl⟩
            replace H : (impl_RunRead.l0 k2 l0 (wrap64 (t423 + (wrap64 ((wrap64 ((IntKind.u64.wrap (t422)) / 2)) * a3)))) a2 a3 y434) = some (r1, r2, r3) := by first|(rw [hy434]; with_reducible exact H)|(have H2_ := (Option.bind_some _ _).symm.trans H; rw [hy434]; with_reducible exact H2_)|(have H2_ := (Option.bind_some _ _).symm.trans H; with_reducible exact H2_)|with_reducible exact H|(rw [hy434]; exact H)|exact H
            have Ny434 := Aside0.mk hy434
            clear hy434
            have H' := Aside0.mk H
            clear H
            obtain ⟨Ao33, co33, eo33⟩ := Kd.R_slice HO_11.out
            subst eo33
            go_wp2_with (first|((with_reducible refine gate_callee (f := 45) rfl ?_); refine goesL_ (some 43) rfl rfl Try.func45 (by kernel_rfl) rfl #[.slice A0 l0.length c0, .int .i64 x1_2] rfl (by (try simp only [List.map_toArray, List.map_cons, List.map_nil]); first|done|rfl|(simp only [List.length_drop, List.length_take]; rfl)) ?_; (with_reducible refine (impl_UvarGet.calls k2 _ _ l0 x1_2 t422 t423 true _ ?side1 ?side2 A15.out).mono ?_); (case side1 => repeat (first|exact (Kd.C_below HR0.out HB.out)|(with_reducible refine Kd.C_alloc ?_ _)|(with_reducible refine Kd.C_drewN ?_ _)|(with_reducible refine Kd.C_drew ?_))); (case side2 => exact HC0.out); rintro e w' ⟨rfl, ⟨nd, rfl⟩⟩; refine ⟨_, rfl, ?_⟩)|((with_reducible refine gate_callee (f := 47) rfl ?_); refine goesL_ (some 101) rfl rfl Try.func47 (by kernel_rfl) rfl #[.slice A0 l0.length c0, .int .i64 t423, .int .i64 ji30, .int .i64 a3] rfl (by (try simp only [List.map_toArray, List.map_cons, List.map_nil]); first|done|(simp only [hji30]; rfl)|rfl|(simp only [List.length_drop, List.length_take]; rfl)) ?_; (with_reducible refine (impl_unpacked.calls k2 _ _ l0 t423 ji30 a3 t431 _ ?side1 ?side2 A31.out).mono ?_); (case side1 => repeat (first|exact (Kd.C_below HR0.out (by repeat (first|(with_reducible first|exact HB.out|apply below_alloc|apply pw_below_drewN|apply below_drew1)|exact HB.out)))|(with_reducible refine Kd.C_alloc ?_ _)|(with_reducible refine Kd.C_drewN ?_ _)|(with_reducible refine Kd.C_drew ?_))); (case side2 => exact HC0.out); rintro e w34 ⟨v432, rfl, ho0, hb⟩; refine ⟨_, rfl, ?_⟩; have n0_ := Aside0.mk (Kd.R_elder' (by (with_reducible repeat (first|apply Kd.R_alloc|apply Kd.R_drewN|apply Kd.R_drew)); exact HO_11.out) (Kd.R_base ho0) hb); have n1_ := Aside0.mk (Kd.R_lower (Kd.R_new' ho0 (Kd.R_lt (by (with_reducible repeat (first|apply Kd.R_alloc|apply Kd.R_drewN|apply Kd.R_drew)); exact HO_11.out))) (below_size (by repeat (first|(with_reducible first|exact HB.out|apply below_alloc|apply pw_below_drewN|apply below_drew1)|exact HB.out)))); have n2_ := Aside0.mk (below_step (by repeat (first|(with_reducible first|exact HB.out|apply below_alloc|apply pw_below_drewN|apply below_drew1)|exact HB.out)) hb); clear HO_11; clear HB; have HO_11 := n0_; have HO433 := n1_; have HB := n2_; clear n0_ n1_ n2_; (try clear hb); (try clear hb2); (try clear hk); (try clear hi); (try clear ho0); obtain ⟨Ao36, co36, eo36⟩ := Kd.R_slice HO433.out; subst eo36)|((with_reducible refine gate_builtin (b := .append) (xs := #[.tmp 93, .tmp 101]) rfl ?_); (try (refine gate_guard (by rfl) ?_; dsimp only)); at_builtin; refine Kd.R_append_rows (Kd.int .i64) (w0 := w) w.heap.size rfl (.tmp 93) (.tmp 101) 24 3 (.int .i64 0) 8 rfl Try.underlying24 info3 rfl (by decide) (by omega) (.slice Ao33 x11_2.length co33) x11_2 t431 _ _ _ (fun k_ => some k_ ≠ (.slice Ao36 t431.length co36 : Value).ownBlock) (fun _ => False) rfl rfl ?aO ?aR (fun _ _ h => h) (fun _ h => h.elim) ?aF ?aB ?aS ?aL ?_; (case aR => repeat (first|exact (Kd.R_reads' HO433.out).2.2|(with_reducible refine Kd.C_alloc ?_ _)|(with_reducible refine Kd.C_drewN ?_ _)|(with_reducible refine Kd.C_drew ?_))); (case aB => exact (by repeat (first|(with_reducible first|exact HB.out|apply below_alloc|apply pw_below_drewN|apply below_drew1)|exact HB.out))); (case aF => exact (fun k_ hk => Kd.fresh' (Kd.R_lt (by (with_reducible repeat (first|apply Kd.R_alloc|apply Kd.R_drewN|apply Kd.R_drew)); exact HO433.out)) k_ hk)); (case aO => exact (by (with_reducible repeat (first|apply Kd.R_alloc|apply Kd.R_drewN|apply Kd.R_drew)); exact Kd.R_mono HO_11.out (fun _ hk => hk.2))); (case aS => exact (below_size (by repeat (first|(with_reducible first|exact HB.out|apply below_alloc|apply pw_below_drewN|apply below_drew1)|exact HB.out)))); (case aL => have := LMc32.out; omega); intro v435 w35 ho hb hg hat; rw [← Ny434.out] at ho; have n0_ := Aside0.mk (Kd.R_after (ok := (fun _ => True)) (by (with_reducible repeat (first|apply Kd.R_alloc|apply Kd.R_drewN|apply Kd.R_drew)); exact HO433.out) hg hat); have n1_ := Aside0.mk (hb); have n2_ := Aside0.mk (ho); clear HO433; clear HB; clear HO_11; have HO433 := n0_; have HB := n1_; have HO436 := n2_; clear n0_ n1_ n2_; clear ho hb hg hat))
            (try simp only [hji19v])
            (try simp only [hji20v])
            go_roundg k2
            case measure => have := HJ4.out; have := HK2.out; omega
            case rel => exact ⟨(wrap64 (t423 + (wrap64 ((wrap64 ((IntKind.u64.wrap (t422)) / 2)) * a3)))), (y434), (by first|rfl|(simp; done)|(simp [*]; done)), H', ⟨by have := HJ4.out; have := HK2.out; omega⟩, ⟨by (with_reducible repeat (first|apply Kd.R_alloc|apply Kd.R_drewN|apply Kd.R_drew)); exact Kd.R_mono HO436.out (fun _ hk => trivial)⟩, ⟨by repeat (first|(with_reducible first|exact HB.out|apply below_alloc|apply pw_below_drewN|apply below_drew1)|exact HB.out)⟩⟩
           ·rw [if_neg c32] at H
            exact absurd H (by simp)
       ·replace c16 := Bool.eq_false_iff.mpr c16
        subst c16
        have H1 : (some (([] : List Int), 0, false)) = some (r1, r2, r3) := by rw [if_neg (show ¬ (false = true) by decide)] at H; exact H
        clear H
        have H := H1
        clear H1
        simp only [Option.some.injEq, Prod.mk.injEq] at H
        obtain ⟨rfl, rfl, rfl⟩ := H
        obtain ⟨Ao37, co37, eo37⟩ := Kd.R_slice HO_11.out
        subst eo37
        go_wp2_with (first|((with_reducible refine gate_callee (f := 45) rfl ?_); refine goesL_ (some 43) rfl rfl Try.func45 (by kernel_rfl) rfl #[.slice A0 l0.length c0, .int .i64 x1_2] rfl (by (try simp only [List.map_toArray, List.map_cons, List.map_nil]); first|done|rfl|(simp only [List.length_drop, List.length_take]; rfl)) ?_; (with_reducible refine (impl_UvarGet.calls k2 _ _ l0 x1_2 t422 t423 false _ ?side1 ?side2 A15.out).mono ?_); (case side1 => repeat (first|exact (Kd.C_below HR0.out HB.out)|(with_reducible refine Kd.C_alloc ?_ _)|(with_reducible refine Kd.C_drewN ?_ _)|(with_reducible refine Kd.C_drew ?_))); (case side2 => exact HC0.out); rintro e w' ⟨rfl, ⟨nd, rfl⟩⟩; refine ⟨_, rfl, ?_⟩))
        go_ret3
        exact ⟨_, by first|rfl|(simp [errW_none, errW_some] <;> rfl)|(simp [*, errW_none, errW_some] <;> rfl)|(exfalso; simp only [Bool.not_eq_true', Bool.not_eq_false', decide_eq_false_iff_not, decide_eq_true_eq, decide_eq_decide, Int.not_lt, Int.not_le] at *; omega), by first|exact Kd.R_nil _ _ _ _ _|exact Kd.N_nil _ _ _ _ _|exact Kd.V_nil _ _ _ _ _|exact Kd.Q_nil _ _ _ _ _|exact Kd.S_nil _ _ _ _ _, by repeat (first|(with_reducible first|exact HB.out|apply below_alloc|apply pw_below_drewN|apply below_drew1)|exact HB.out)⟩
      ·rw [if_neg c14] at H
       have c14b0 : decide ((x11_2.length : Int) < a2) = false := decide_eq_false c14
       clear c14
       simp only [Option.some.injEq, Prod.mk.injEq] at H
       obtain ⟨rfl, rfl, rfl⟩ := H
       obtain ⟨Ao38, co38, eo38⟩ := Kd.R_slice HO_11.out
       subst eo38
       go_wp2
       go_ret3
       exact ⟨_, by first|rfl|(simp [errW_none, errW_some] <;> rfl)|(simp [*, errW_none, errW_some] <;> rfl)|(exfalso; simp only [Bool.not_eq_true', Bool.not_eq_false', decide_eq_false_iff_not, decide_eq_true_eq, decide_eq_decide, Int.not_lt, Int.not_le] at *; omega), by (with_reducible repeat (first|apply Kd.R_alloc|apply Kd.R_drewN|apply Kd.R_drew)); exact HO_11.out, by repeat (first|(with_reducible first|exact HB.out|apply below_alloc|apply pw_below_drewN|apply below_drew1)|exact HB.out)⟩

end Go.Proofs.Ytelgjjpojndlpaa.PFnLevels
