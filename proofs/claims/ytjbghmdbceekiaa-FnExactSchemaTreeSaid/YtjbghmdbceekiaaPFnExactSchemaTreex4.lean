-- Written by a program of this seat's prover (wip/myprint.sh) over the loaded functions.
import Derived.Test.YtjbghmdbceekiaaPFnExactSchemaTreex0
import Derived.Test.YtjbghmdbceekiaaPFnExactSchemaTreex2
import Derived.Test.YtjbghmdbceekiaaPFnExactSchemaTreex3
namespace Go.Proofs.Ytjbghmdbceekiaa.PFnExactSchemaTree
open Go.RowKit Go.Proofs.YtjbghmdbceekiaaW.PrintWords Go.Proofs.YtjbghmdbceekiaaW.PrintLast Go.Proofs.YtjbghmdbceekiaaW.PrintMore
attribute [local go_sem] max2_int min2_int max_two min_two max_three min_three max_four min_four   -- for this text's walks alone
set_option linter.unusedVariables false
set_option linter.unusedSimpArgs false

def spec_SchemaOk.f (k : Nat) (l0 : List (S56)) : Option (Bool) := (spec_l1In.f (l0.length : Int) 2 20).bind fun t154 => (if t154 = true then ((spec_l5Check.f k l0 0 1).bind fun t155 => (some (t155 == (l0.length : Int)))) else (some false))
theorem spec_SchemaOk.mono : ∀ a0 k, LeO (spec_SchemaOk.f k a0) (spec_SchemaOk.f (k + 1) a0) := by
 intro a0 k
 unfold spec_SchemaOk.f
 repeat' first
   | (with_reducible exact spec_l5Check.mono _ _ _ _)
   | (with_reducible exact LeO.refl _)
   | (with_reducible exact LeO.none _)
   | (with_reducible refine LeO.ite ?_ ?_)
   | (with_reducible refine LeO.bind ?_ (fun _ => ?_))
   | exact spec_l5Check.mono _ _ _ _
   | exact LeO.none _
   | refine LeO.ite ?_ ?_
   | refine LeO.bind ?_ (fun _ => ?_)
set_option maxHeartbeats 8000000 in
set_option maxRecDepth 100000 in
theorem spec_SchemaOk.calls (k : Nat) (A0 : Option Addr) (c0 : Nat) (l0 : List (S56)) (r : Bool) (w : World) (hr0 : Kd.C k56 w A0 l0.length l0) (hc0 : l0.length ≤ c0) (h : spec_SchemaOk.f k l0 = some r) :
  Calls Try.prog 16 #[.slice A0 l0.length c0] w fun e w' => e = .returned (.bool r) ∧ Below w.heap.size w w' := by
 have HR0 := Aside0.mk hr0
 have HC0 := Aside0.mk hc0
 clear hr0 hc0
 have HB := Aside0.mk (Below.refl w.heap.size w)
 have H : ((spec_l1In.f (l0.length : Int) 2 20).bind fun t154 => (if t154 = true then ((spec_l5Check.f k l0 0 1).bind fun t155 => (some (t155 == (l0.length : Int)))) else (some false))) = some r := h
 clear h
 replace H := Option.bind_eq_some_iff.mp H
 obtain ⟨t154, A20, H⟩ := H
 replace H : (if t154 = true then ((spec_l5Check.f k l0 0 1).bind fun t155 => (some (t155 == (l0.length : Int)))) else (some false)) = some r := H
 have A2 := Aside0.mk A20
 clear A20
 by_cases c3 : t154 = true
 ·subst c3
  have H1 : ((spec_l5Check.f k l0 0 1).bind fun t155 => (some (t155 == (l0.length : Int)))) = some r := by rw [if_pos rfl] at H; exact H
  clear H
  have H := H1
  clear H1
  replace H := Option.bind_eq_some_iff.mp H
  obtain ⟨t155, A40, H⟩ := H
  replace H : (some (t155 == (l0.length : Int))) = some r := H
  have A4 := Aside0.mk A40
  clear A40
  obtain rfl := Option.some.inj H
  go_enter Try.func16, Try.ntmps16
  go_wp2_with (first | ((with_reducible refine gate_callee (f := 59) rfl ?_); refine goesL_ (some 5) rfl rfl Try.func59 (by kernel_rfl) rfl #[.int .i64 (l0.length : Int), .int .i64 2, .int .i64 20] rfl (by (try simp only [List.map_toArray, List.map_cons, List.map_nil]); first | done | rfl | (simp only [List.length_drop, List.length_take]; rfl)) ?_; (with_reducible refine (spec_l1In.calls (l0.length : Int) 2 20 true _ A2.out).mono ?_); rintro e w' ⟨rfl, ⟨nd, rfl⟩⟩; refine ⟨_, rfl, ?_⟩) | (go_at_call 60; (with_reducible refine (spec_l5Check.calls k _ _ l0 0 1 t155 _ ?side1 ?side2 A4.out).mono ?_); (case side1 => repeat (first | exact HR0.out | (with_reducible refine Kd.C_alloc ?_ _) | (with_reducible refine Kd.C_drewN ?_ _) | (with_reducible refine Kd.C_drew ?_))); (case side2 => exact HC0.out); rintro e w5 ⟨rfl, hb⟩; have n0_ := Aside0.mk (below_step (by repeat (first | (with_reducible first | exact HB.out | apply below_alloc | apply pw_below_drewN | apply below_drew1) | exact HB.out)) hb); clear HB; have HB := n0_; clear n0_; (try clear hb); (try clear hb2); (try clear hk); (try clear hi)))
  go_ret
  exact ⟨by first | rfl | (simp [errW_none, errW_some] <;> rfl) | (simp [*, errW_none, errW_some] <;> rfl) | (exfalso; simp only [Bool.not_eq_true', Bool.not_eq_false', decide_eq_false_iff_not, decide_eq_true_eq, decide_eq_decide, Int.not_lt, Int.not_le] at *; omega), by repeat (first | (with_reducible first | exact HB.out | apply below_alloc | apply pw_below_drewN | apply below_drew1) | exact HB.out)⟩
 ·replace c3 := Bool.eq_false_iff.mpr c3
  subst c3
  have H1 : (some false) = some r := by rw [if_neg (show ¬ (false = true) by decide)] at H; exact H
  clear H
  have H := H1
  clear H1
  obtain rfl := Option.some.inj H
  go_enter Try.func16, Try.ntmps16
  go_wp2_with (first | ((with_reducible refine gate_callee (f := 59) rfl ?_); refine goesL_ (some 5) rfl rfl Try.func59 (by kernel_rfl) rfl #[.int .i64 (l0.length : Int), .int .i64 2, .int .i64 20] rfl (by (try simp only [List.map_toArray, List.map_cons, List.map_nil]); first | done | rfl | (simp only [List.length_drop, List.length_take]; rfl)) ?_; (with_reducible refine (spec_l1In.calls (l0.length : Int) 2 20 false _ A2.out).mono ?_); rintro e w' ⟨rfl, ⟨nd, rfl⟩⟩; refine ⟨_, rfl, ?_⟩))
  go_ret
  exact ⟨by first | rfl | (simp [errW_none, errW_some] <;> rfl) | (simp [*, errW_none, errW_some] <;> rfl) | (exfalso; simp only [Bool.not_eq_true', Bool.not_eq_false', decide_eq_false_iff_not, decide_eq_true_eq, decide_eq_decide, Int.not_lt, Int.not_le] at *; omega), by repeat (first | (with_reducible first | exact HB.out | apply below_alloc | apply pw_below_drewN | apply below_drew1) | exact HB.out)⟩

mutual
def spec_l5Nodes.l0 : Nat → List (S56) → List (S74) → Int → Option ((List (S74)))
 | 0, _, _, _ => none
 | k + 1, x0, x5, x6 => if x6 < (x0.length : Int) then (if 0 ≤ x6 then (if x5.length < 2932031007402 then ((some (x5 ++ [(⟨12, 0, 0, (⟨#[]⟩ : ByteArray), 0⟩ : S74)] : List (S74))).bind fun y161 => (if ((rd_T56 x0 x6).f1) = 7 then (spec_l5Nodes.j1 k x0 y161 x6 (x5.length : Int) ((rd_T56 x0 x6).f0) ((rd_T56 x0 x6).f1) ((rd_T56 x0 x6).f2) ((rd_T56 x0 x6).f3)) else (if y161.length < 2932031007402 then (spec_l5Nodes.j1 k x0 (y161 ++ [(⟨5, 1, (rd_T56 x0 x6).f1, (⟨#[]⟩ : ByteArray), 0⟩ : S74)]) x6 (x5.length : Int) ((rd_T56 x0 x6).f0) ((rd_T56 x0 x6).f1) ((rd_T56 x0 x6).f2) ((rd_T56 x0 x6).f3)) else (none)))) else (none)) else (none)) else (some x5)
def spec_l5Nodes.j1 : Nat → List (S56) → List (S74) → Int → Int → ByteArray → Int → Int → Int → Option ((List (S74)))
 | 0, _, _, _, _, _, _, _, _ => none
 | k + 1, x0, x5, x6, x8, x161000, x161001, x161002, x161003 => if x6 > 0 then (if x5.length < 2932031007402 then ((some (x5 ++ [(⟨5, 3, x161002, (⟨#[]⟩ : ByteArray), 0⟩ : S74)] : List (S74))).bind fun y167 => (if y167.length < 2932031007402 then ((some (y167 ++ [(⟨8, 4, 0, x161000, 0⟩ : S74)] : List (S74))).bind fun y170 => (if x161001 = 7 then (if y170.length < 2932031007402 then ((some (y170 ++ [(⟨5, 5, x161003, (⟨#[]⟩ : ByteArray), 0⟩ : S74)] : List (S74))).bind fun y173 => (if 0 ≤ x8 then (if x8 < (y173.length : Int) then (spec_l5Nodes.l0 k x0 (y173.set (x8 : Int).toNat (⟨(rd_T74 y173 x8).f0, (rd_T74 y173 x8).f1, (rd_T74 y173 x8).f2, (rd_T74 y173 x8).f3, wrap64 ((wrap64 ((y173.length : Int) - x8)) - 1)⟩ : S74)) (wrap64 (x6 + 1))) else (none)) else (none))) else (none)) else (if 0 ≤ x8 then (if x8 < (y170.length : Int) then (spec_l5Nodes.l0 k x0 (y170.set (x8 : Int).toNat (⟨(rd_T74 y170 x8).f0, (rd_T74 y170 x8).f1, (rd_T74 y170 x8).f2, (rd_T74 y170 x8).f3, wrap64 ((wrap64 ((y170.length : Int) - x8)) - 1)⟩ : S74)) (wrap64 (x6 + 1))) else (none)) else (none)))) else (none))) else (none)) else (if x5.length < 2932031007402 then ((some (x5 ++ [(⟨8, 4, 0, x161000, 0⟩ : S74)] : List (S74))).bind fun y178 => (if x161001 = 7 then (if y178.length < 2932031007402 then ((some (y178 ++ [(⟨5, 5, x161003, (⟨#[]⟩ : ByteArray), 0⟩ : S74)] : List (S74))).bind fun y181 => (if 0 ≤ x8 then (if x8 < (y181.length : Int) then (spec_l5Nodes.l0 k x0 (y181.set (x8 : Int).toNat (⟨(rd_T74 y181 x8).f0, (rd_T74 y181 x8).f1, (rd_T74 y181 x8).f2, (rd_T74 y181 x8).f3, wrap64 ((wrap64 ((y181.length : Int) - x8)) - 1)⟩ : S74)) (wrap64 (x6 + 1))) else (none)) else (none))) else (none)) else (if 0 ≤ x8 then (if x8 < (y178.length : Int) then (spec_l5Nodes.l0 k x0 (y178.set (x8 : Int).toNat (⟨(rd_T74 y178 x8).f0, (rd_T74 y178 x8).f1, (rd_T74 y178 x8).f2, (rd_T74 y178 x8).f3, wrap64 ((wrap64 ((y178.length : Int) - x8)) - 1)⟩ : S74)) (wrap64 (x6 + 1))) else (none)) else (none)))) else (none))
end
def spec_l5Nodes.f (k : Nat) (l0 : List (S56)) (a1 : Int) : Option ((List (S74))) := spec_l5Nodes.l0 k l0 (([(⟨9, a1, 12, (⟨#[]⟩ : ByteArray), (l0.length : Int)⟩ : S74)] : List (S74))) 0
theorem spec_l5Nodes.mono_l : ∀ k, (∀ y0 y1 y2, LeO (spec_l5Nodes.l0 k y0 y1 y2) (spec_l5Nodes.l0 (k + 1) y0 y1 y2)) ∧ (∀ y0 y1 y2 y3 y4 y5 y6 y7, LeO (spec_l5Nodes.j1 k y0 y1 y2 y3 y4 y5 y6 y7) (spec_l5Nodes.j1 (k + 1) y0 y1 y2 y3 y4 y5 y6 y7))
 | 0 => ⟨fun _ _ _ r h => by simp [spec_l5Nodes.l0] at h, fun _ _ _ _ _ _ _ _ r h => by simp [spec_l5Nodes.j1] at h⟩
 | k + 1 => by
  obtain ⟨ih0, ih1⟩ := spec_l5Nodes.mono_l k
  refine ⟨?_, ?_⟩
  ·intro y0 y1 y2
   unfold spec_l5Nodes.l0
   repeat' first
   | (with_reducible exact ih0 _ _ _)
   | (with_reducible exact ih1 _ _ _ _ _ _ _ _)
   | (with_reducible exact LeO.refl _)
   | (with_reducible exact LeO.none _)
   | (with_reducible refine LeO.ite ?_ ?_)
   | (with_reducible refine LeO.bind ?_ (fun _ => ?_))
   | exact ih0 _ _ _
   | exact ih1 _ _ _ _ _ _ _ _
   | exact LeO.none _
   | refine LeO.ite ?_ ?_
   | refine LeO.bind ?_ (fun _ => ?_)
  ·intro y0 y1 y2 y3 y4 y5 y6 y7
   unfold spec_l5Nodes.j1
   repeat' first
   | (with_reducible exact ih0 _ _ _)
   | (with_reducible exact ih1 _ _ _ _ _ _ _ _)
   | (with_reducible exact LeO.refl _)
   | (with_reducible exact LeO.none _)
   | (with_reducible refine LeO.ite ?_ ?_)
   | (with_reducible refine LeO.bind ?_ (fun _ => ?_))
   | exact ih0 _ _ _
   | exact ih1 _ _ _ _ _ _ _ _
   | exact LeO.none _
   | refine LeO.ite ?_ ?_
   | refine LeO.bind ?_ (fun _ => ?_)
theorem spec_l5Nodes.mono : ∀ a0 a1 k, LeO (spec_l5Nodes.f k a0 a1) (spec_l5Nodes.f (k + 1) a0 a1) := by
 intro a0 a1 k
 obtain ⟨ih0, ih1⟩ := spec_l5Nodes.mono_l k
 unfold spec_l5Nodes.f
 repeat' first
   | (with_reducible exact ih0 _ _ _)
   | (with_reducible exact ih1 _ _ _ _ _ _ _ _)
   | (with_reducible exact LeO.refl _)
   | (with_reducible exact LeO.none _)
   | (with_reducible refine LeO.ite ?_ ?_)
   | (with_reducible refine LeO.bind ?_ (fun _ => ?_))
   | exact ih0 _ _ _
   | exact ih1 _ _ _ _ _ _ _ _
   | exact LeO.none _
   | refine LeO.ite ?_ ?_
   | refine LeO.bind ?_ (fun _ => ?_)
set_option maxHeartbeats 8000000 in
set_option maxRecDepth 100000 in
theorem spec_l5Nodes.calls (k : Nat) (A0 : Option Addr) (c0 : Nat) (l0 : List (S56)) (a1 : Int) (r : List (S74)) (w : World) (hr0 : Kd.C k56 w A0 l0.length l0) (hc0 : l0.length ≤ c0) (h : spec_l5Nodes.f k l0 a1 = some r) :
  Calls Try.prog 84 #[.slice A0 l0.length c0, .int .i64 a1] w fun e w' => ∃ v0_ : Value, e = .returned (v0_) ∧ Kd.R k74 74 w' w.heap.size (fun _ => True) v0_ r ∧ Below w.heap.size w w' := by
 have hu74 := Try.underlying74
 have hu56 := Try.underlying56
 have HR0 := Aside0.mk hr0
 have HC0 := Aside0.mk hc0
 clear hr0 hc0
 have HB := Aside0.mk (Below.refl w.heap.size w)
 have H : (spec_l5Nodes.l0 k l0 (([(⟨9, a1, 12, (⟨#[]⟩ : ByteArray), (l0.length : Int)⟩ : S74)] : List (S74))) 0) = some r := h
 clear h
 obtain ⟨y156, hy156⟩ : ∃ y_ : List (S74), y_ = (([(⟨9, a1, 12, (⟨#[]⟩ : ByteArray), (l0.length : Int)⟩ : S74)] : List (S74))) := ⟨_, rfl⟩
 replace H : (spec_l5Nodes.l0 k l0 y156 0) = some r := by first | (rw [hy156]; with_reducible exact H) | (have H2_ := (Option.bind_some _ _).symm.trans H; rw [hy156]; with_reducible exact H2_) | (have H2_ := (Option.bind_some _ _).symm.trans H; with_reducible exact H2_) | with_reducible exact H | (rw [hy156]; exact H) | exact H
 have Ny156 := Aside0.mk hy156
 clear hy156
 have H' := Aside0.mk H
 clear H
 go_enter Try.func84, Try.ntmps84
 go_wp2_with (first | ((with_reducible refine gate_dst (N := 13) rfl ?_); refine Kd.R_lit k74 _ 74 ?hg (N := 13) ?hd (xs := ([(⟨9, a1, 12, (⟨#[]⟩ : ByteArray), (l0.length : Int)⟩ : S74)] : List (S74))) (inner := [.int .i64 9, .int .i64 a1, .int .i64 12, .string (⟨#[]⟩ : ByteArray), .int .i64 (l0.length : Int)]) (ok := fun _ => True) (okp := fun _ => True) ?hr ?hp (fun _ hk => hk) trivial (Below.refl _ _) (Nat.le_refl _) (by simp) ?_; (case hd => rfl); (case hg => rfl); (case hr => first | (go_simp; done) | (go_simp; rfl)); (case hp => exact (Reps.c5 (show Kd.M k74 _ _ _ (⟨9, a1, 12, (⟨#[]⟩ : ByteArray), (l0.length : Int)⟩ : S74) [.int .i64 9, .int .i64 a1, .int .i64 12, .string (⟨#[]⟩ : ByteArray), .int .i64 (l0.length : Int)] from (k74_mkM _ _ _ (⟨9, a1, 12, (⟨#[]⟩ : ByteArray), (l0.length : Int)⟩ : S74) )) (Reps.none _ _))); intro v157 w3 ho4 hb hg_ hnew_; clear hg_ hnew_; (first | rw [← Ny156.out] at ho4 | (simp only [Int.reduceToNat] at ho4; rw [← Ny156.out] at ho4)); have n0_ := Aside0.mk (Kd.R_lower ho4 (below_size (by repeat (first | (with_reducible first | exact HB.out | apply below_alloc | apply pw_below_drewN | apply below_drew1) | exact HB.out)))); have n1_ := Aside0.mk (below_step (by repeat (first | (with_reducible first | exact HB.out | apply below_alloc | apply pw_below_drewN | apply below_drew1) | exact HB.out)) hb); clear HB; have HO158 := n0_; have HB := n1_; clear n0_ n1_; clear hb ho4))
 go_loopg [5, 6] k (fun kq v5 v6 w' => ∃ (x5_1 : List (S74)) (x6_1 : Int), v6 = .int .i64 x6_1 ∧ Aside0 (spec_l5Nodes.l0 kq l0 x5_1 x6_1 = some r) ∧ Aside0 (kq ≤ k) ∧ Aside0 (Kd.R k74 74 w' w.heap.size (fun _ => True) v5 x5_1) ∧ Aside0 (Below w.heap.size w w'))
 case atStart => exact ⟨(y156), (0), (by first | rfl | (simp; done) | (simp [*]; done)), H', ⟨Nat.le_refl _⟩, ⟨by (with_reducible repeat (first | apply Kd.R_alloc | apply Kd.R_drewN | apply Kd.R_drew)); exact HO158.out⟩, ⟨by repeat (first | (with_reducible first | exact HB.out | apply below_alloc | apply pw_below_drewN | apply below_drew1) | exact HB.out)⟩⟩
 case round =>
  clear H'
  try clear p2
  obtain ⟨x5_1, x6_1, rfl, HA, HK1, HO_5, HB⟩ := hrel
  cases gk with
  | zero => exact absurd HA.out (by simp [spec_l5Nodes.l0])
  | succ k1 =>
   have H := HA.out
   clear HA
   simp only [spec_l5Nodes.l0] at H
   by_cases c5 : x6_1 < (l0.length : Int)
   ·rw [if_pos c5] at H
    have c5b0 : decide (x6_1 < (l0.length : Int)) = true := decide_eq_true c5
    clear c5
    by_cases c6 : 0 ≤ x6_1
    ·rw [if_pos c6] at H
     have c6b0 : decide (0 ≤ x6_1) = true := decide_eq_true c6
     clear c6
     by_cases c7 : x5_1.length < 2932031007402
     ·rw [if_pos c7] at H
      have LMc7 := Aside0.mk c7
      clear c7
      obtain ⟨y161, hy161⟩ : ∃ y_ : List (S74), y_ = (x5_1 ++ [(⟨12, 0, 0, (⟨#[]⟩ : ByteArray), 0⟩ : S74)]) := ⟨_, rfl⟩
      replace H : (if ((rd_T56 l0 x6_1).f1) = 7 then (spec_l5Nodes.j1 k1 l0 y161 x6_1 (x5_1.length : Int) ((rd_T56 l0 x6_1).f0) ((rd_T56 l0 x6_1).f1) ((rd_T56 l0 x6_1).f2) ((rd_T56 l0 x6_1).f3)) else (if y161.length < 2932031007402 then (spec_l5Nodes.j1 k1 l0 (y161 ++ [(⟨5, 1, (rd_T56 l0 x6_1).f1, (⟨#[]⟩ : ByteArray), 0⟩ : S74)]) x6_1 (x5_1.length : Int) ((rd_T56 l0 x6_1).f0) ((rd_T56 l0 x6_1).f1) ((rd_T56 l0 x6_1).f2) ((rd_T56 l0 x6_1).f3)) else (none))) = some r := by first | (rw [hy161]; with_reducible exact H) | (have H2_ := (Option.bind_some _ _).symm.trans H; rw [hy161]; with_reducible exact H2_) | (have H2_ := (Option.bind_some _ _).symm.trans H; with_reducible exact H2_) | with_reducible exact H | (rw [hy161]; exact H) | exact H
      have Ny161 := Aside0.mk hy161
      clear hy161
      have HC8 := Aside0.mk H
      clear H
      have p159 : 0 ≤ (x6_1 : Int) := of_decide_eq_true (by first | (with_reducible assumption) | assumption)
      have q159 : x6_1 < (l0.length : Int) := of_decide_eq_true (by first | (with_reducible assumption) | assumption)
      obtain ⟨ad159, e159, hx159_0, hx159_1, hx159_2, hx159_3⟩ := at_T56 HR0.out x6_1 p159 q159
      cases e159
      replace hx159_0 := (HB.out.cell (World.block_lt_of_cell? w _ hx159_0)).trans hx159_0
      replace hx159_1 := (HB.out.cell (World.block_lt_of_cell? w _ hx159_1)).trans hx159_1
      replace hx159_2 := (HB.out.cell (World.block_lt_of_cell? w _ hx159_2)).trans hx159_2
      replace hx159_3 := (HB.out.cell (World.block_lt_of_cell? w _ hx159_3)).trans hx159_3
      replace p159 := eq_true p159
      replace q159 := eq_true q159
      go_upto_if 32 with (first | ((with_reducible refine gate_dst (N := 7) rfl ?_); refine box_event ?hg (N := 7) ?hd (cs := #[.string (⟨#[]⟩ : ByteArray), .int .i64 0, .int .i64 0, .int .i64 0]) (t := 56) ?hr ?_; (case hd => rfl); (case hg => rfl); (case hr => first | (go_simp; done) | (go_simp; rfl)); intro gb160 hg w9 hbox hb; have n0_ := Aside0.mk (Kd.R_below (by (with_reducible repeat (first | apply Kd.R_alloc | apply Kd.R_drewN | apply Kd.R_drew)); exact HO_5.out) hb); have n1_ := Aside0.mk (below_step (by repeat (first | (with_reducible first | exact HB.out | apply below_alloc | apply pw_below_drewN | apply below_drew1) | exact HB.out)) hb); have n2_ := Aside0.mk (hbox); have n3_ := Aside0.mk ((by rw [hg]; exact (below_size (by repeat (first | (with_reducible first | exact HB.out | apply below_alloc | apply pw_below_drewN | apply below_drew1) | exact HB.out))) : w.heap.size ≤ gb160)); have n4_ := Aside0.mk ((by rw [hg]; exact (below_size (by repeat (first | (with_reducible first | exact HB.out | apply below_alloc | apply pw_below_drewN | apply below_drew1) | exact HB.out))) : w.heap.size ≤ gb160)); clear HO_5; clear HB; have HO_5 := n0_; have HB := n1_; have BK160 := n2_; have GW160 := n3_; have GE160 := n4_; clear n0_ n1_ n2_ n3_ n4_; clear hb hbox hg; have hcz10_0 : w9.cell? ⟨gb160, 0, none⟩ = some (.string (⟨#[]⟩ : ByteArray)) := (blk_cell BK160.out 0).trans rfl; have hcz10_1 : w9.cell? ⟨gb160, 1, none⟩ = some (.int .i64 0) := (blk_cell BK160.out 1).trans rfl; have hcz10_2 : w9.cell? ⟨gb160, 2, none⟩ = some (.int .i64 0) := (blk_cell BK160.out 2).trans rfl; have hcz10_3 : w9.cell? ⟨gb160, 3, none⟩ = some (.int .i64 0) := (blk_cell BK160.out 3).trans rfl; have hfz10_0 := blk_frozen BK160.out 0; have hfz10_1 := blk_frozen BK160.out 1; have hfz10_2 := blk_frozen BK160.out 2; have hfz10_3 := blk_frozen BK160.out 3; obtain ⟨Ao11, co11, eo11⟩ := Kd.R_slice HO_5.out; subst eo11) | ((with_reducible refine gate_builtin (b := .append) (xs := #[.tmp 26, .tmp 28]) rfl ?_); at_builtin; refine Kd.R_append k74 (w0 := w) w.heap.size rfl (.tmp 26) (.tmp 28) 34 74 (.agg #[(.int .i64 0), (.int .i64 0), (.int .i64 0), (.string ⟨#[]⟩), (.int .i64 0)]) 48 rfl Try.underlying34 info74 rfl (by decide) (by omega) (.slice Ao11 x5_1.length co11) x5_1 (⟨12, 0, 0, (⟨#[]⟩ : ByteArray), 0⟩ : S74) [.int .i64 12, .int .i64 0, .int .i64 0, .string (⟨#[]⟩ : ByteArray), .int .i64 0] (fun _ => True) (fun _ => False) rfl (by first | (go_simp; done) | (go_simp; rfl)) ?aP (fun _ hk => hk.elim) ?aF ?aO ?aB ?aS ?aL ?_; (case aP => exact k74_mkM _ _ _ (⟨12, 0, 0, (⟨#[]⟩ : ByteArray), 0⟩ : S74)); (case aB => exact (by repeat (first | (with_reducible first | exact HB.out | apply below_alloc | apply pw_below_drewN | apply below_drew1 | refine below_set ?_ GE160.out) | exact HB.out))); (case aF => exact (fun _ _ => trivial)); (case aO => exact (by (with_reducible repeat (first | apply Kd.R_alloc | apply Kd.R_drewN | apply Kd.R_drew)); exact Kd.R_mono (Kd.R_far (p := ⟨gb160, 3, none⟩) (Kd.R_far (p := ⟨gb160, 2, none⟩) (Kd.R_far (p := ⟨gb160, 1, none⟩) (Kd.R_far (p := ⟨gb160, 0, none⟩) (Kd.R_types HO_5.out BK160.out (by decide)) (fun _ hk => hk.2) (.string ((rd_T56 l0 x6_1).f0))) (fun _ hk => hk.2) (.int .i64 ((rd_T56 l0 x6_1).f1))) (fun _ hk => hk.2) (.int .i64 ((rd_T56 l0 x6_1).f2))) (fun _ hk => hk.2) (.int .i64 ((rd_T56 l0 x6_1).f3))) (fun _ hk => trivial))); (case aS => exact (below_size (by repeat (first | (with_reducible first | exact HB.out | apply below_alloc | apply pw_below_drewN | apply below_drew1 | refine below_set ?_ GE160.out) | exact HB.out)))); (case aL => have := LMc7.out; omega); intro v162 w12 ho hb hg hat; rw [← Ny161.out] at ho; have n0_ := Aside0.mk (blk_grown (g := gb160) (o := .cells #[.string ((rd_T56 l0 x6_1).f0), .int .i64 ((rd_T56 l0 x6_1).f1), .int .i64 ((rd_T56 l0 x6_1).f2), .int .i64 ((rd_T56 l0 x6_1).f3)] 56 (0, 0)) (by (with_reducible repeat (first | refine blk_drewN ?_ _ | refine blk_drew ?_ | refine blk_alloc ?_ _)); refine blk_put (cs := #[.string ((rd_T56 l0 x6_1).f0), .int .i64 ((rd_T56 l0 x6_1).f1), .int .i64 ((rd_T56 l0 x6_1).f2), .int .i64 0]) ?_ 3 _ rfl; (with_reducible repeat (first | refine blk_drewN ?_ _ | refine blk_drew ?_ | refine blk_alloc ?_ _)); refine blk_put (cs := #[.string ((rd_T56 l0 x6_1).f0), .int .i64 ((rd_T56 l0 x6_1).f1), .int .i64 0, .int .i64 0]) ?_ 2 _ rfl; (with_reducible repeat (first | refine blk_drewN ?_ _ | refine blk_drew ?_ | refine blk_alloc ?_ _)); refine blk_put (cs := #[.string ((rd_T56 l0 x6_1).f0), .int .i64 0, .int .i64 0, .int .i64 0]) ?_ 1 _ rfl; (with_reducible repeat (first | refine blk_drewN ?_ _ | refine blk_drew ?_ | refine blk_alloc ?_ _)); refine blk_put (cs := #[.string (⟨#[]⟩ : ByteArray), .int .i64 0, .int .i64 0, .int .i64 0]) ?_ 0 _ rfl; (with_reducible repeat (first | refine blk_drewN ?_ _ | refine blk_drew ?_ | refine blk_alloc ?_ _)); exact BK160.out) hg (Kd.R_ne HO_5.out BK160.out (by decide))); have n1_ := Aside0.mk (hb); have n2_ := Aside0.mk (ho); clear BK160; clear HB; clear HO_5; have BK160 := n0_; have HB := n1_; have HO163 := n2_; clear n0_ n1_ n2_; clear ho hb hg hat; have hcz13_0 : w12.cell? ⟨gb160, 0, none⟩ = some (.string ((rd_T56 l0 x6_1).f0)) := (blk_cell BK160.out 0).trans rfl; have hcz13_1 : w12.cell? ⟨gb160, 1, none⟩ = some (.int .i64 ((rd_T56 l0 x6_1).f1)) := (blk_cell BK160.out 1).trans rfl; have hcz13_2 : w12.cell? ⟨gb160, 2, none⟩ = some (.int .i64 ((rd_T56 l0 x6_1).f2)) := (blk_cell BK160.out 2).trans rfl; have hcz13_3 : w12.cell? ⟨gb160, 3, none⟩ = some (.int .i64 ((rd_T56 l0 x6_1).f3)) := (blk_cell BK160.out 3).trans rfl; have hfz13_0 := blk_frozen BK160.out 0; have hfz13_1 := blk_frozen BK160.out 1; have hfz13_2 := blk_frozen BK160.out 2; have hfz13_3 := blk_frozen BK160.out 3))
      (try simp only [Act.put, List.setIfInBounds_toArray, List.set_cons_zero, List.set_cons_succ])
      go_cut [5] (fun v5 wc => ∃ (kq : Nat) (x5_7 : List (S74)), Aside0 (spec_l5Nodes.j1 kq l0 x5_7 x6_1 (x5_1.length : Int) ((rd_T56 l0 x6_1).f0) ((rd_T56 l0 x6_1).f1) ((rd_T56 l0 x6_1).f2) ((rd_T56 l0 x6_1).f3) = some r) ∧ Aside0 (kq ≤ k1) ∧ Aside0 (Kd.R k74 74 wc w.heap.size (fun _ => True) v5 x5_7) ∧ Aside0 (wc.heap[gb160]? = some (.cells #[.string ((rd_T56 l0 x6_1).f0), .int .i64 ((rd_T56 l0 x6_1).f1), .int .i64 ((rd_T56 l0 x6_1).f2), .int .i64 ((rd_T56 l0 x6_1).f3)] 56 (0, 0))) ∧ Aside0 (Below w.heap.size w wc))
      case first =>
       have H := HC8.out
       clear HC8
       by_cases c14 : ((rd_T56 l0 x6_1).f1) = 7
       ·rw [if_pos c14] at H
        have c14b0 : (((rd_T56 l0 x6_1).f1) == 7) = true := beq_iff_eq.mpr c14
        have c14b1 : (((rd_T56 l0 x6_1).f1) != 7) = false := bne_eq_false_iff_eq.mpr c14
        clear c14
        (first | rw [c14b0] | (simp only [i64_w, i32_w]; rw [c14b0]) | skip)
        have H' := Aside0.mk H
        clear H
        go_wp2
        go_meet
        case rel => exact ⟨_, (y161), H', ⟨by have := HK1.out; first | omega | exact Nat.le_refl _⟩, ⟨by (with_reducible repeat (first | apply Kd.R_alloc | apply Kd.R_drewN | apply Kd.R_drew)); exact HO163.out⟩, ⟨by (with_reducible repeat (first | refine blk_drewN ?_ _ | refine blk_drew ?_ | refine blk_alloc ?_ _)); exact BK160.out⟩, ⟨by repeat (first | (with_reducible first | exact HB.out | apply below_alloc | apply pw_below_drewN | apply below_drew1 | refine below_set ?_ GE160.out) | exact HB.out)⟩⟩
       ·rw [if_neg c14] at H
        have c14b0 : (((rd_T56 l0 x6_1).f1) == 7) = false := beq_eq_false_iff_ne.mpr c14
        have c14b1 : (((rd_T56 l0 x6_1).f1) != 7) = true := bne_iff_ne.mpr c14
        (first | rw [c14b0] | (simp only [i64_w, i32_w]; rw [c14b0]) | skip)
        by_cases c15 : y161.length < 2932031007402
        ·rw [if_pos c15] at H
         have LMc15 := Aside0.mk c15
         clear c15
         obtain ⟨y164, hy164⟩ : ∃ y_ : List (S74), y_ = (y161 ++ [(⟨5, 1, (rd_T56 l0 x6_1).f1, (⟨#[]⟩ : ByteArray), 0⟩ : S74)]) := ⟨_, rfl⟩
         replace H : (spec_l5Nodes.j1 k1 l0 y164 x6_1 (x5_1.length : Int) ((rd_T56 l0 x6_1).f0) ((rd_T56 l0 x6_1).f1) ((rd_T56 l0 x6_1).f2) ((rd_T56 l0 x6_1).f3)) = some r := by first | (rw [hy164]; with_reducible exact H) | (have H2_ := (Option.bind_some _ _).symm.trans H; rw [hy164]; with_reducible exact H2_) | (have H2_ := (Option.bind_some _ _).symm.trans H; with_reducible exact H2_) | with_reducible exact H | (rw [hy164]; exact H) | exact H
         have Ny164 := Aside0.mk hy164
         clear hy164
         have H' := Aside0.mk H
         clear H
         have hcz16_0 : w12.cell? ⟨gb160, 0, none⟩ = some (.string ((rd_T56 l0 x6_1).f0)) := (blk_cell BK160.out 0).trans rfl
         have hcz16_1 : w12.cell? ⟨gb160, 1, none⟩ = some (.int .i64 ((rd_T56 l0 x6_1).f1)) := (blk_cell BK160.out 1).trans rfl
         have hcz16_2 : w12.cell? ⟨gb160, 2, none⟩ = some (.int .i64 ((rd_T56 l0 x6_1).f2)) := (blk_cell BK160.out 2).trans rfl
         have hcz16_3 : w12.cell? ⟨gb160, 3, none⟩ = some (.int .i64 ((rd_T56 l0 x6_1).f3)) := (blk_cell BK160.out 3).trans rfl
         have hfz16_0 := blk_frozen BK160.out 0
         have hfz16_1 := blk_frozen BK160.out 1
         have hfz16_2 := blk_frozen BK160.out 2
         have hfz16_3 := blk_frozen BK160.out 3
         go_wp2_with (first | ((with_reducible refine gate_builtin (b := .append) (xs := #[.tmp 33, .tmp 37]) rfl ?_); at_builtin; refine Kd.R_append k74 (w0 := w) w.heap.size rfl (.tmp 33) (.tmp 37) 34 74 (.agg #[(.int .i64 0), (.int .i64 0), (.int .i64 0), (.string ⟨#[]⟩), (.int .i64 0)]) 48 rfl Try.underlying34 info74 rfl (by decide) (by omega) v162 y161 (⟨5, 1, (rd_T56 l0 x6_1).f1, (⟨#[]⟩ : ByteArray), 0⟩ : S74) [.int .i64 5, .int .i64 1, .int .i64 ((rd_T56 l0 x6_1).f1), .string (⟨#[]⟩ : ByteArray), .int .i64 0] (fun _ => True) (fun _ => False) rfl rfl ?aP (fun _ hk => hk.elim) ?aF ?aO ?aB ?aS ?aL ?_; (case aP => exact k74_mkM _ _ _ (⟨5, 1, (rd_T56 l0 x6_1).f1, (⟨#[]⟩ : ByteArray), 0⟩ : S74)); (case aB => exact (by repeat (first | (with_reducible first | exact HB.out | apply below_alloc | apply pw_below_drewN | apply below_drew1 | refine below_set ?_ GE160.out) | exact HB.out))); (case aF => exact (fun _ _ => trivial)); (case aO => exact (by (with_reducible repeat (first | apply Kd.R_alloc | apply Kd.R_drewN | apply Kd.R_drew)); exact HO163.out)); (case aS => exact (below_size (by repeat (first | (with_reducible first | exact HB.out | apply below_alloc | apply pw_below_drewN | apply below_drew1 | refine below_set ?_ GE160.out) | exact HB.out)))); (case aL => have := LMc15.out; omega); intro v165 w17 ho hb hg hat; rw [← Ny164.out] at ho; have n0_ := Aside0.mk (blk_grown (g := gb160) (o := .cells #[.string ((rd_T56 l0 x6_1).f0), .int .i64 ((rd_T56 l0 x6_1).f1), .int .i64 ((rd_T56 l0 x6_1).f2), .int .i64 ((rd_T56 l0 x6_1).f3)] 56 (0, 0)) (by (with_reducible repeat (first | refine blk_drewN ?_ _ | refine blk_drew ?_ | refine blk_alloc ?_ _)); exact BK160.out) hg (Kd.R_ne HO163.out BK160.out (by decide))); have n1_ := Aside0.mk (hb); have n2_ := Aside0.mk (ho); clear BK160; clear HB; clear HO163; have BK160 := n0_; have HB := n1_; have HO166 := n2_; clear n0_ n1_ n2_; clear ho hb hg hat))
         go_meet
         case rel => exact ⟨_, (y164), H', ⟨by have := HK1.out; first | omega | exact Nat.le_refl _⟩, ⟨by (with_reducible repeat (first | apply Kd.R_alloc | apply Kd.R_drewN | apply Kd.R_drew)); exact HO166.out⟩, ⟨by (with_reducible repeat (first | refine blk_drewN ?_ _ | refine blk_drew ?_ | refine blk_alloc ?_ _)); exact BK160.out⟩, ⟨by repeat (first | (with_reducible first | exact HB.out | apply below_alloc | apply pw_below_drewN | apply below_drew1 | refine below_set ?_ GE160.out) | exact HB.out)⟩⟩
        ·rw [if_neg c15] at H
         exact absurd H (by simp)
      case rest =>
       clear HC8
       try clear c1
       try clear p1
       try clear q1
       try clear hx1
       try clear p2
       try clear c5
       try clear c5b0
       try clear c6
       try clear c6b0
       try clear c7
       try clear c8
       try clear c14
       try clear c14b0
       try clear c14b1
       try clear c15
       try clear p15
       try clear q15
       try clear hx15
       try clear hcz10_0
       try clear hcz10_1
       try clear hcz10_2
       try clear hcz10_3
       try clear hcz13_0
       try clear hcz13_1
       try clear hcz13_2
       try clear hcz13_3
       try clear hcz16_0
       try clear hcz16_1
       try clear hcz16_2
       try clear hcz16_3
       try clear hfz10_0
       try clear hfz10_1
       try clear hfz10_2
       try clear hfz10_3
       try clear hfz13_0
       try clear hfz13_1
       try clear hfz13_2
       try clear hfz13_3
       try clear hfz16_0
       try clear hfz16_1
       try clear hfz16_2
       try clear hfz16_3
       try clear hx159_0
       try clear hx159_1
       try clear hx159_2
       try clear hx159_3
       try clear p159
       try clear p2
       try clear q159
       obtain ⟨kq, x5_7, HA, HJ7, HO_5, BK160, HB⟩ := hcut
       cases kq with
       | zero => exact absurd HA.out (by simp [spec_l5Nodes.j1])
       | succ kj7 =>
        have H := HA.out
        clear HA
        simp only [spec_l5Nodes.j1] at H
        by_cases c18 : x6_1 > 0
        ·rw [if_pos c18] at H
         have c18b0 : decide (0 < x6_1) = true := decide_eq_true c18
         clear c18
         by_cases c19 : x5_7.length < 2932031007402
         ·rw [if_pos c19] at H
          have LMc19 := Aside0.mk c19
          clear c19
          obtain ⟨y167, hy167⟩ : ∃ y_ : List (S74), y_ = (x5_7 ++ [(⟨5, 3, ((rd_T56 l0 x6_1).f2), (⟨#[]⟩ : ByteArray), 0⟩ : S74)]) := ⟨_, rfl⟩
          replace H : (if y167.length < 2932031007402 then ((some (y167 ++ [(⟨8, 4, 0, ((rd_T56 l0 x6_1).f0), 0⟩ : S74)] : List (S74))).bind fun y170 => (if ((rd_T56 l0 x6_1).f1) = 7 then (if y170.length < 2932031007402 then ((some (y170 ++ [(⟨5, 5, ((rd_T56 l0 x6_1).f3), (⟨#[]⟩ : ByteArray), 0⟩ : S74)] : List (S74))).bind fun y173 => (if 0 ≤ (x5_1.length : Int) then (if (x5_1.length : Int) < (y173.length : Int) then (spec_l5Nodes.l0 kj7 l0 (y173.set ((x5_1.length : Int) : Int).toNat (⟨(rd_T74 y173 (x5_1.length : Int)).f0, (rd_T74 y173 (x5_1.length : Int)).f1, (rd_T74 y173 (x5_1.length : Int)).f2, (rd_T74 y173 (x5_1.length : Int)).f3, wrap64 ((wrap64 ((y173.length : Int) - (x5_1.length : Int))) - 1)⟩ : S74)) (wrap64 (x6_1 + 1))) else (none)) else (none))) else (none)) else (if 0 ≤ (x5_1.length : Int) then (if (x5_1.length : Int) < (y170.length : Int) then (spec_l5Nodes.l0 kj7 l0 (y170.set ((x5_1.length : Int) : Int).toNat (⟨(rd_T74 y170 (x5_1.length : Int)).f0, (rd_T74 y170 (x5_1.length : Int)).f1, (rd_T74 y170 (x5_1.length : Int)).f2, (rd_T74 y170 (x5_1.length : Int)).f3, wrap64 ((wrap64 ((y170.length : Int) - (x5_1.length : Int))) - 1)⟩ : S74)) (wrap64 (x6_1 + 1))) else (none)) else (none)))) else (none)) = some r := by first | (rw [hy167]; with_reducible exact H) | (have H2_ := (Option.bind_some _ _).symm.trans H; rw [hy167]; with_reducible exact H2_) | (have H2_ := (Option.bind_some _ _).symm.trans H; with_reducible exact H2_) | with_reducible exact H | (rw [hy167]; exact H) | exact H
          have Ny167 := Aside0.mk hy167
          clear hy167
          by_cases c20 : y167.length < 2932031007402
          ·rw [if_pos c20] at H
           have LMc20 := Aside0.mk c20
           clear c20
           obtain ⟨y170, hy170⟩ : ∃ y_ : List (S74), y_ = (y167 ++ [(⟨8, 4, 0, ((rd_T56 l0 x6_1).f0), 0⟩ : S74)]) := ⟨_, rfl⟩
           replace H : (if ((rd_T56 l0 x6_1).f1) = 7 then (if y170.length < 2932031007402 then ((some (y170 ++ [(⟨5, 5, ((rd_T56 l0 x6_1).f3), (⟨#[]⟩ : ByteArray), 0⟩ : S74)] : List (S74))).bind fun y173 => (if 0 ≤ (x5_1.length : Int) then (if (x5_1.length : Int) < (y173.length : Int) then (spec_l5Nodes.l0 kj7 l0 (y173.set ((x5_1.length : Int) : Int).toNat (⟨(rd_T74 y173 (x5_1.length : Int)).f0, (rd_T74 y173 (x5_1.length : Int)).f1, (rd_T74 y173 (x5_1.length : Int)).f2, (rd_T74 y173 (x5_1.length : Int)).f3, wrap64 ((wrap64 ((y173.length : Int) - (x5_1.length : Int))) - 1)⟩ : S74)) (wrap64 (x6_1 + 1))) else (none)) else (none))) else (none)) else (if 0 ≤ (x5_1.length : Int) then (if (x5_1.length : Int) < (y170.length : Int) then (spec_l5Nodes.l0 kj7 l0 (y170.set ((x5_1.length : Int) : Int).toNat (⟨(rd_T74 y170 (x5_1.length : Int)).f0, (rd_T74 y170 (x5_1.length : Int)).f1, (rd_T74 y170 (x5_1.length : Int)).f2, (rd_T74 y170 (x5_1.length : Int)).f3, wrap64 ((wrap64 ((y170.length : Int) - (x5_1.length : Int))) - 1)⟩ : S74)) (wrap64 (x6_1 + 1))) else (none)) else (none))) = some r := by first | (rw [hy170]; with_reducible exact H) | (have H2_ := (Option.bind_some _ _).symm.trans H; rw [hy170]; with_reducible exact H2_) | (have H2_ := (Option.bind_some _ _).symm.trans H; with_reducible exact H2_) | with_reducible exact H | (rw [hy170]; exact H) | exact H
           have Ny170 := Aside0.mk hy170
           clear hy170
           by_cases c21 : ((rd_T56 l0 x6_1).f1) = 7
           ·rw [if_pos c21] at H
            have c21b0 : (((rd_T56 l0 x6_1).f1) == 7) = true := beq_iff_eq.mpr c21
            have c21b1 : (((rd_T56 l0 x6_1).f1) != 7) = false := bne_eq_false_iff_eq.mpr c21
            clear c21
            by_cases c22 : y170.length < 2932031007402
            ·rw [if_pos c22] at H
             have LMc22 := Aside0.mk c22
             clear c22
             obtain ⟨y173, hy173⟩ : ∃ y_ : List (S74), y_ = (y170 ++ [(⟨5, 5, ((rd_T56 l0 x6_1).f3), (⟨#[]⟩ : ByteArray), 0⟩ : S74)]) := ⟨_, rfl⟩
             replace H : (if 0 ≤ (x5_1.length : Int) then (if (x5_1.length : Int) < (y173.length : Int) then (spec_l5Nodes.l0 kj7 l0 (y173.set ((x5_1.length : Int) : Int).toNat (⟨(rd_T74 y173 (x5_1.length : Int)).f0, (rd_T74 y173 (x5_1.length : Int)).f1, (rd_T74 y173 (x5_1.length : Int)).f2, (rd_T74 y173 (x5_1.length : Int)).f3, wrap64 ((wrap64 ((y173.length : Int) - (x5_1.length : Int))) - 1)⟩ : S74)) (wrap64 (x6_1 + 1))) else (none)) else (none)) = some r := by first | (rw [hy173]; with_reducible exact H) | (have H2_ := (Option.bind_some _ _).symm.trans H; rw [hy173]; with_reducible exact H2_) | (have H2_ := (Option.bind_some _ _).symm.trans H; with_reducible exact H2_) | with_reducible exact H | (rw [hy173]; exact H) | exact H
             have Ny173 := Aside0.mk hy173
             clear hy173
             by_cases c23 : 0 ≤ (x5_1.length : Int)
             ·rw [if_pos c23] at H
              have c23b0 : decide (0 ≤ (x5_1.length : Int)) = true := decide_eq_true c23
              have c23b1 : decide (0 ≤ x5_1.length) = true := decide_eq_true (by omega)
              clear c23
              by_cases c24 : (x5_1.length : Int) < (y173.length : Int)
              ·rw [if_pos c24] at H
               have c24b0 : decide ((x5_1.length : Int) < (y173.length : Int)) = true := decide_eq_true c24
               have c24b1 : decide (x5_1.length < y173.length) = true := decide_eq_true (Int.ofNat_lt.mp c24)
               clear c24
               obtain ⟨y176, hy176⟩ : ∃ y_ : List (S74), y_ = (y173.set ((x5_1.length : Int) : Int).toNat (⟨(rd_T74 y173 (x5_1.length : Int)).f0, (rd_T74 y173 (x5_1.length : Int)).f1, (rd_T74 y173 (x5_1.length : Int)).f2, (rd_T74 y173 (x5_1.length : Int)).f3, wrap64 ((wrap64 ((y173.length : Int) - (x5_1.length : Int))) - 1)⟩ : S74)) := ⟨_, rfl⟩
               replace H : (spec_l5Nodes.l0 kj7 l0 y176 (wrap64 (x6_1 + 1))) = some r := by first | (rw [hy176]; with_reducible exact H) | (have H2_ := (Option.bind_some _ _).symm.trans H; rw [hy176]; with_reducible exact H2_) | (have H2_ := (Option.bind_some _ _).symm.trans H; with_reducible exact H2_) | with_reducible exact H | (rw [hy176]; exact H) | exact H
               have Ny176 := Aside0.mk hy176
               clear hy176
               have H' := Aside0.mk H
               clear H
               have hcz26_0 : wc.cell? ⟨gb160, 0, none⟩ = some (.string ((rd_T56 l0 x6_1).f0)) := (blk_cell BK160.out 0).trans rfl
               have hcz26_1 : wc.cell? ⟨gb160, 1, none⟩ = some (.int .i64 ((rd_T56 l0 x6_1).f1)) := (blk_cell BK160.out 1).trans rfl
               have hcz26_2 : wc.cell? ⟨gb160, 2, none⟩ = some (.int .i64 ((rd_T56 l0 x6_1).f2)) := (blk_cell BK160.out 2).trans rfl
               have hcz26_3 : wc.cell? ⟨gb160, 3, none⟩ = some (.int .i64 ((rd_T56 l0 x6_1).f3)) := (blk_cell BK160.out 3).trans rfl
               have hfz26_0 := blk_frozen BK160.out 0
               have hfz26_1 := blk_frozen BK160.out 1
               have hfz26_2 := blk_frozen BK160.out 2
               have hfz26_3 := blk_frozen BK160.out 3
               go_wp2_with (first | ((with_reducible refine gate_builtin (b := .append) (xs := #[.tmp 41, .tmp 45]) rfl ?_); at_builtin; refine Kd.R_append k74 (w0 := w) w.heap.size rfl (.tmp 41) (.tmp 45) 34 74 (.agg #[(.int .i64 0), (.int .i64 0), (.int .i64 0), (.string ⟨#[]⟩), (.int .i64 0)]) 48 rfl Try.underlying34 info74 rfl (by decide) (by omega) u5 x5_7 (⟨5, 3, ((rd_T56 l0 x6_1).f2), (⟨#[]⟩ : ByteArray), 0⟩ : S74) [.int .i64 5, .int .i64 3, .int .i64 ((rd_T56 l0 x6_1).f2), .string (⟨#[]⟩ : ByteArray), .int .i64 0] (fun _ => True) (fun _ => False) rfl rfl ?aP (fun _ hk => hk.elim) ?aF ?aO ?aB ?aS ?aL ?_; (case aP => exact k74_mkM _ _ _ (⟨5, 3, ((rd_T56 l0 x6_1).f2), (⟨#[]⟩ : ByteArray), 0⟩ : S74)); (case aB => exact (by repeat (first | (with_reducible first | exact HB.out | apply below_alloc | apply pw_below_drewN | apply below_drew1 | refine below_set ?_ GE160.out) | exact HB.out))); (case aF => exact (fun _ _ => trivial)); (case aO => exact (by (with_reducible repeat (first | apply Kd.R_alloc | apply Kd.R_drewN | apply Kd.R_drew)); exact HO_5.out)); (case aS => exact (below_size (by repeat (first | (with_reducible first | exact HB.out | apply below_alloc | apply pw_below_drewN | apply below_drew1 | refine below_set ?_ GE160.out) | exact HB.out)))); (case aL => have := LMc19.out; omega); intro v168 w27 ho hb hg hat; rw [← Ny167.out] at ho; have n0_ := Aside0.mk (blk_grown (g := gb160) (o := .cells #[.string ((rd_T56 l0 x6_1).f0), .int .i64 ((rd_T56 l0 x6_1).f1), .int .i64 ((rd_T56 l0 x6_1).f2), .int .i64 ((rd_T56 l0 x6_1).f3)] 56 (0, 0)) (by (with_reducible repeat (first | refine blk_drewN ?_ _ | refine blk_drew ?_ | refine blk_alloc ?_ _)); exact BK160.out) hg (Kd.R_ne HO_5.out BK160.out (by decide))); have n1_ := Aside0.mk (hb); have n2_ := Aside0.mk (ho); clear BK160; clear HB; clear HO_5; have BK160 := n0_; have HB := n1_; have HO169 := n2_; clear n0_ n1_ n2_; clear ho hb hg hat; have hcz28_0 : w27.cell? ⟨gb160, 0, none⟩ = some (.string ((rd_T56 l0 x6_1).f0)) := (blk_cell BK160.out 0).trans rfl; have hcz28_1 : w27.cell? ⟨gb160, 1, none⟩ = some (.int .i64 ((rd_T56 l0 x6_1).f1)) := (blk_cell BK160.out 1).trans rfl; have hcz28_2 : w27.cell? ⟨gb160, 2, none⟩ = some (.int .i64 ((rd_T56 l0 x6_1).f2)) := (blk_cell BK160.out 2).trans rfl; have hcz28_3 : w27.cell? ⟨gb160, 3, none⟩ = some (.int .i64 ((rd_T56 l0 x6_1).f3)) := (blk_cell BK160.out 3).trans rfl; have hfz28_0 := blk_frozen BK160.out 0; have hfz28_1 := blk_frozen BK160.out 1; have hfz28_2 := blk_frozen BK160.out 2; have hfz28_3 := blk_frozen BK160.out 3) | ((with_reducible refine gate_builtin (b := .append) (xs := #[.tmp 47, .tmp 51]) rfl ?_); at_builtin; refine Kd.R_append k74 (w0 := w) w.heap.size rfl (.tmp 47) (.tmp 51) 34 74 (.agg #[(.int .i64 0), (.int .i64 0), (.int .i64 0), (.string ⟨#[]⟩), (.int .i64 0)]) 48 rfl Try.underlying34 info74 rfl (by decide) (by omega) v168 y167 (⟨8, 4, 0, ((rd_T56 l0 x6_1).f0), 0⟩ : S74) [.int .i64 8, .int .i64 4, .int .i64 0, .string ((rd_T56 l0 x6_1).f0), .int .i64 0] (fun _ => True) (fun _ => False) rfl rfl ?aP (fun _ hk => hk.elim) ?aF ?aO ?aB ?aS ?aL ?_; (case aP => exact k74_mkM _ _ _ (⟨8, 4, 0, ((rd_T56 l0 x6_1).f0), 0⟩ : S74)); (case aB => exact (by repeat (first | (with_reducible first | exact HB.out | apply below_alloc | apply pw_below_drewN | apply below_drew1 | refine below_set ?_ GE160.out) | exact HB.out))); (case aF => exact (fun _ _ => trivial)); (case aO => exact (by (with_reducible repeat (first | apply Kd.R_alloc | apply Kd.R_drewN | apply Kd.R_drew)); exact HO169.out)); (case aS => exact (below_size (by repeat (first | (with_reducible first | exact HB.out | apply below_alloc | apply pw_below_drewN | apply below_drew1 | refine below_set ?_ GE160.out) | exact HB.out)))); (case aL => have := LMc20.out; omega); intro v171 w29 ho hb hg hat; rw [← Ny170.out] at ho; have n0_ := Aside0.mk (blk_grown (g := gb160) (o := .cells #[.string ((rd_T56 l0 x6_1).f0), .int .i64 ((rd_T56 l0 x6_1).f1), .int .i64 ((rd_T56 l0 x6_1).f2), .int .i64 ((rd_T56 l0 x6_1).f3)] 56 (0, 0)) (by (with_reducible repeat (first | refine blk_drewN ?_ _ | refine blk_drew ?_ | refine blk_alloc ?_ _)); exact BK160.out) hg (Kd.R_ne HO169.out BK160.out (by decide))); have n1_ := Aside0.mk (hb); have n2_ := Aside0.mk (ho); clear BK160; clear HB; clear HO169; have BK160 := n0_; have HB := n1_; have HO172 := n2_; clear n0_ n1_ n2_; clear ho hb hg hat; have hcz30_0 : w29.cell? ⟨gb160, 0, none⟩ = some (.string ((rd_T56 l0 x6_1).f0)) := (blk_cell BK160.out 0).trans rfl; have hcz30_1 : w29.cell? ⟨gb160, 1, none⟩ = some (.int .i64 ((rd_T56 l0 x6_1).f1)) := (blk_cell BK160.out 1).trans rfl; have hcz30_2 : w29.cell? ⟨gb160, 2, none⟩ = some (.int .i64 ((rd_T56 l0 x6_1).f2)) := (blk_cell BK160.out 2).trans rfl; have hcz30_3 : w29.cell? ⟨gb160, 3, none⟩ = some (.int .i64 ((rd_T56 l0 x6_1).f3)) := (blk_cell BK160.out 3).trans rfl; have hfz30_0 := blk_frozen BK160.out 0; have hfz30_1 := blk_frozen BK160.out 1; have hfz30_2 := blk_frozen BK160.out 2; have hfz30_3 := blk_frozen BK160.out 3) | ((with_reducible refine gate_builtin (b := .append) (xs := #[.tmp 56, .tmp 60]) rfl ?_); at_builtin; refine Kd.R_append k74 (w0 := w) w.heap.size rfl (.tmp 56) (.tmp 60) 34 74 (.agg #[(.int .i64 0), (.int .i64 0), (.int .i64 0), (.string ⟨#[]⟩), (.int .i64 0)]) 48 rfl Try.underlying34 info74 rfl (by decide) (by omega) v171 y170 (⟨5, 5, ((rd_T56 l0 x6_1).f3), (⟨#[]⟩ : ByteArray), 0⟩ : S74) [.int .i64 5, .int .i64 5, .int .i64 ((rd_T56 l0 x6_1).f3), .string (⟨#[]⟩ : ByteArray), .int .i64 0] (fun _ => True) (fun _ => False) rfl rfl ?aP (fun _ hk => hk.elim) ?aF ?aO ?aB ?aS ?aL ?_; (case aP => exact k74_mkM _ _ _ (⟨5, 5, ((rd_T56 l0 x6_1).f3), (⟨#[]⟩ : ByteArray), 0⟩ : S74)); (case aB => exact (by repeat (first | (with_reducible first | exact HB.out | apply below_alloc | apply pw_below_drewN | apply below_drew1 | refine below_set ?_ GE160.out) | exact HB.out))); (case aF => exact (fun _ _ => trivial)); (case aO => exact (by (with_reducible repeat (first | apply Kd.R_alloc | apply Kd.R_drewN | apply Kd.R_drew)); exact HO172.out)); (case aS => exact (below_size (by repeat (first | (with_reducible first | exact HB.out | apply below_alloc | apply pw_below_drewN | apply below_drew1 | refine below_set ?_ GE160.out) | exact HB.out)))); (case aL => have := LMc22.out; omega); intro v174 w31 ho hb hg hat; rw [← Ny173.out] at ho; have n0_ := Aside0.mk (blk_grown (g := gb160) (o := .cells #[.string ((rd_T56 l0 x6_1).f0), .int .i64 ((rd_T56 l0 x6_1).f1), .int .i64 ((rd_T56 l0 x6_1).f2), .int .i64 ((rd_T56 l0 x6_1).f3)] 56 (0, 0)) (by (with_reducible repeat (first | refine blk_drewN ?_ _ | refine blk_drew ?_ | refine blk_alloc ?_ _)); exact BK160.out) hg (Kd.R_ne HO172.out BK160.out (by decide))); have n1_ := Aside0.mk (hb); have n2_ := Aside0.mk (ho); clear BK160; clear HB; clear HO172; have BK160 := n0_; have HB := n1_; have HO175 := n2_; clear n0_ n1_ n2_; clear ho hb hg hat; obtain ⟨Ao32, co32, eo32⟩ := Kd.R_slice HO175.out; subst eo32; have p25 : 0 ≤ ((x5_1.length : Int) : Int) := of_decide_eq_true (by first | (with_reducible assumption) | assumption); have q25 : ((x5_1.length : Int) : Int) < ((y173.length : Int) : Int) := of_decide_eq_true (by first | (with_reducible assumption) | assumption); obtain ⟨go25, co25, eo25, gb25, gl25, cl25, HG25⟩ := Kd.R_form HO175.out (by omega); (first | cases eo25 | (injection eo25 with ea_ en_ ec_; (first | subst ea_ | (injection ea_ with ea_; subst ea_)); subst ec_; clear en_)); have GB25 := Aside0.mk gb25; have GG25 := Aside0.mk HG25; clear gb25 gl25 HG25; obtain ⟨ce25, hcl25, hM25, hcc25, hfr25⟩ := Kd.R_elem HO175.out z74 ((x5_1.length : Int) : Int) p25 q25; obtain rfl := k74_openM hM25; have hx25_0 : w31.cell? ⟨go25, ((x5_1.length : Int) : Int).toNat * 5, none⟩ = some (.int .i64 ((rd_T74 y173 (x5_1.length : Int)).f0)) := hcc25 0 _ rfl; have hx25_1 : w31.cell? ⟨go25, ((x5_1.length : Int) : Int).toNat * 5 + 1, none⟩ = some (.int .i64 ((rd_T74 y173 (x5_1.length : Int)).f1)) := hcc25 1 _ rfl; have hx25_2 : w31.cell? ⟨go25, ((x5_1.length : Int) : Int).toNat * 5 + 2, none⟩ = some (.int .i64 ((rd_T74 y173 (x5_1.length : Int)).f2)) := hcc25 2 _ rfl; have hx25_3 : w31.cell? ⟨go25, ((x5_1.length : Int) : Int).toNat * 5 + 3, none⟩ = some (.string ((rd_T74 y173 (x5_1.length : Int)).f3)) := hcc25 3 _ rfl; have hx25_4 : w31.cell? ⟨go25, ((x5_1.length : Int) : Int).toNat * 5 + 4, none⟩ = some (.int .i64 ((rd_T74 y173 (x5_1.length : Int)).f4)) := hcc25 4 _ rfl; have hf25_0 : w31.frozen? ⟨go25, ((x5_1.length : Int) : Int).toNat * 5, none⟩ = false := hfr25 0; have hf25_1 : w31.frozen? ⟨go25, ((x5_1.length : Int) : Int).toNat * 5 + 1, none⟩ = false := hfr25 1; have hf25_2 : w31.frozen? ⟨go25, ((x5_1.length : Int) : Int).toNat * 5 + 2, none⟩ = false := hfr25 2; have hf25_3 : w31.frozen? ⟨go25, ((x5_1.length : Int) : Int).toNat * 5 + 3, none⟩ = false := hfr25 3; have hf25_4 : w31.frozen? ⟨go25, ((x5_1.length : Int) : Int).toNat * 5 + 4, none⟩ = false := hfr25 4; (try simp only [Int.toNat_natCast] at hx25_0 hf25_0 hx25_1 hf25_1 hx25_2 hf25_2 hx25_3 hf25_3 hx25_4 hf25_4); clear hcl25 hcc25 hfr25 hM25; replace p25 := eq_true p25; replace q25 := eq_true q25; have HX33 := Aside0.mk (show Kd.R k74 74 w31 w.heap.size (fun _ => True) (.slice (some ⟨go25, 0, none⟩) y173.length co32) y173 from (by (with_reducible repeat (first | apply Kd.R_alloc | apply Kd.R_drewN | apply Kd.R_drew)); exact HO175.out)); obtain ⟨ce33, hcl33, hM33, hcc33, hfr33⟩ := Kd.R_elem HX33.out z74 ((x5_1.length : Int) : Int) (of_decide_eq_true (by first | (with_reducible assumption) | assumption)) (by have h_ : ((x5_1.length : Int) : Int) < ((y173.length : Int) : Int) := of_decide_eq_true (by first | (with_reducible assumption) | assumption); first | exact h_ | (have e_ := (Kd.R_reads' HO175.out).1; omega) | simpa using h_); obtain rfl := k74_openM hM33; have HP33 := Kd.R_seg HX33.out ((x5_1.length : Int) : Int) (of_decide_eq_true (by first | (with_reducible assumption) | assumption)) (by have h_ : ((x5_1.length : Int) : Int) < ((y173.length : Int) : Int) := of_decide_eq_true (by first | (with_reducible assumption) | assumption); first | exact h_ | (have e_ := (Kd.R_reads' HO175.out).1; omega) | simpa using h_) (seg := [.int .i64 (wrap64 ((wrap64 ((y173.length : Int) - (x5_1.length : Int))) - 1))]) (j := 4) hcl33 hcc33 (show 5 ≤ 5 from by decide) (x' := (⟨(rd_T74 y173 (x5_1.length : Int)).f0, (rd_T74 y173 (x5_1.length : Int)).f1, (rd_T74 y173 (x5_1.length : Int)).f2, (rd_T74 y173 (x5_1.length : Int)).f3, wrap64 ((wrap64 ((y173.length : Int) - (x5_1.length : Int))) - 1)⟩ : S74)) (k74_mkM _ _ _ (⟨(rd_T74 y173 (x5_1.length : Int)).f0, (rd_T74 y173 (x5_1.length : Int)).f1, (rd_T74 y173 (x5_1.length : Int)).f2, (rd_T74 y173 (x5_1.length : Int)).f3, wrap64 ((wrap64 ((y173.length : Int) - (x5_1.length : Int))) - 1)⟩ : S74) ) (fun _ hk => hk); have hx33_4 := hcc33 4 _ rfl; (try simp only [show (k74).sz = 5 from rfl, Nat.mul_one, Nat.add_zero, Int.toNat_natCast] at hx33_4); have hf33_4 := hfr33 4; (try simp only [show (k74).sz = 5 from rfl, Nat.mul_one, Nat.add_zero, Int.toNat_natCast] at hf33_4); clear hcl33 hcc33 hfr33 hM33) | ((with_reducible refine gate_store (t := 3) (p := 70) rfl ?_); refine store_event (t := 3) (p := 70) (v := ?vo_w34) (w1 := (w31.setCell ⟨go25, ((x5_1.length : Int) : Int).toNat * 5 + 4, none⟩ (.int .i64 (wrap64 ((wrap64 ((y173.length : Int) - (x5_1.length : Int))) - 1))))) ?hg ?ho ?hn ?hr ?_; (case ho => rfl); (case hg => rfl); (case hn => rfl); (case hr => first | (go_simp; done) | (go_simp; rfl)); intro w34 hw; have hg : w31.grownBy w34 (some go25) := (by rw [hw]; exact HP33.2); have hp_ : Kd.R k74 74 w34 w.heap.size (fun _ => True) (.slice (some ⟨go25, 0, none⟩) y173.length co32) y176 := (by rw [hw, Ny176.out]; exact HP33.1); clear HP33; have n0_ := Aside0.mk (blk_grown (g := gb160) (o := .cells #[.string ((rd_T56 l0 x6_1).f0), .int .i64 ((rd_T56 l0 x6_1).f1), .int .i64 ((rd_T56 l0 x6_1).f2), .int .i64 ((rd_T56 l0 x6_1).f3)] 56 (0, 0)) (by (with_reducible repeat (first | refine blk_drewN ?_ _ | refine blk_drew ?_ | refine blk_alloc ?_ _)); exact BK160.out) hg (Kd.R_ne HO175.out BK160.out (by decide))); have n1_ := Aside0.mk (hp_); have n2_ := Aside0.mk ((by rw [hw]; exact below_set (HB.out) GB25.out : Below w.heap.size w w34)); clear BK160; clear HO175; clear HB; have BK160 := n0_; have HO175 := n1_; have HB := n2_; clear n0_ n1_ n2_; clear hg hw hp_))
               go_roundg kj7
               case measure => have := HK1.out; have := HJ7.out; omega
               case rel => exact ⟨(y176), (wrap64 (x6_1 + 1)), (by first | rfl | (simp; done) | (simp [*]; done)), H', ⟨by have := HK1.out; have := HJ7.out; omega⟩, ⟨by (with_reducible repeat (first | apply Kd.R_alloc | apply Kd.R_drewN | apply Kd.R_drew)); exact HO175.out⟩, ⟨by repeat (first | (with_reducible first | exact HB.out | apply below_alloc | apply pw_below_drewN | apply below_drew1 | refine below_set ?_ GE160.out) | exact HB.out)⟩⟩
              ·rw [if_neg c24] at H
               exact absurd H (by simp)
             ·rw [if_neg c23] at H
              exact absurd H (by simp)
            ·rw [if_neg c22] at H
             exact absurd H (by simp)
           ·rw [if_neg c21] at H
            have c21b0 : (((rd_T56 l0 x6_1).f1) == 7) = false := beq_eq_false_iff_ne.mpr c21
            have c21b1 : (((rd_T56 l0 x6_1).f1) != 7) = true := bne_iff_ne.mpr c21
            by_cases c35 : 0 ≤ (x5_1.length : Int)
            ·rw [if_pos c35] at H
             have c35b0 : decide (0 ≤ (x5_1.length : Int)) = true := decide_eq_true c35
             have c35b1 : decide (0 ≤ x5_1.length) = true := decide_eq_true (by omega)
             clear c35
             by_cases c36 : (x5_1.length : Int) < (y170.length : Int)
             ·rw [if_pos c36] at H
              have c36b0 : decide ((x5_1.length : Int) < (y170.length : Int)) = true := decide_eq_true c36
              have c36b1 : decide (x5_1.length < y170.length) = true := decide_eq_true (Int.ofNat_lt.mp c36)
              clear c36
              obtain ⟨y177, hy177⟩ : ∃ y_ : List (S74), y_ = (y170.set ((x5_1.length : Int) : Int).toNat (⟨(rd_T74 y170 (x5_1.length : Int)).f0, (rd_T74 y170 (x5_1.length : Int)).f1, (rd_T74 y170 (x5_1.length : Int)).f2, (rd_T74 y170 (x5_1.length : Int)).f3, wrap64 ((wrap64 ((y170.length : Int) - (x5_1.length : Int))) - 1)⟩ : S74)) := ⟨_, rfl⟩
              replace H : (spec_l5Nodes.l0 kj7 l0 y177 (wrap64 (x6_1 + 1))) = some r := by first | (rw [hy177]; with_reducible exact H) | (have H2_ := (Option.bind_some _ _).symm.trans H; rw [hy177]; with_reducible exact H2_) | (have H2_ := (Option.bind_some _ _).symm.trans H; with_reducible exact H2_) | with_reducible exact H | (rw [hy177]; exact H) | exact H
              have Ny177 := Aside0.mk hy177
              clear hy177
              have H' := Aside0.mk H
              clear H
              have hcz38_0 : wc.cell? ⟨gb160, 0, none⟩ = some (.string ((rd_T56 l0 x6_1).f0)) := (blk_cell BK160.out 0).trans rfl
              have hcz38_1 : wc.cell? ⟨gb160, 1, none⟩ = some (.int .i64 ((rd_T56 l0 x6_1).f1)) := (blk_cell BK160.out 1).trans rfl
              have hcz38_2 : wc.cell? ⟨gb160, 2, none⟩ = some (.int .i64 ((rd_T56 l0 x6_1).f2)) := (blk_cell BK160.out 2).trans rfl
              have hcz38_3 : wc.cell? ⟨gb160, 3, none⟩ = some (.int .i64 ((rd_T56 l0 x6_1).f3)) := (blk_cell BK160.out 3).trans rfl
              have hfz38_0 := blk_frozen BK160.out 0
              have hfz38_1 := blk_frozen BK160.out 1
              have hfz38_2 := blk_frozen BK160.out 2
              have hfz38_3 := blk_frozen BK160.out 3
              go_wp2_with (first | ((with_reducible refine gate_builtin (b := .append) (xs := #[.tmp 41, .tmp 45]) rfl ?_); at_builtin; refine Kd.R_append k74 (w0 := w) w.heap.size rfl (.tmp 41) (.tmp 45) 34 74 (.agg #[(.int .i64 0), (.int .i64 0), (.int .i64 0), (.string ⟨#[]⟩), (.int .i64 0)]) 48 rfl Try.underlying34 info74 rfl (by decide) (by omega) u5 x5_7 (⟨5, 3, ((rd_T56 l0 x6_1).f2), (⟨#[]⟩ : ByteArray), 0⟩ : S74) [.int .i64 5, .int .i64 3, .int .i64 ((rd_T56 l0 x6_1).f2), .string (⟨#[]⟩ : ByteArray), .int .i64 0] (fun _ => True) (fun _ => False) rfl rfl ?aP (fun _ hk => hk.elim) ?aF ?aO ?aB ?aS ?aL ?_; (case aP => exact k74_mkM _ _ _ (⟨5, 3, ((rd_T56 l0 x6_1).f2), (⟨#[]⟩ : ByteArray), 0⟩ : S74)); (case aB => exact (by repeat (first | (with_reducible first | exact HB.out | apply below_alloc | apply pw_below_drewN | apply below_drew1 | refine below_set ?_ GE160.out) | exact HB.out))); (case aF => exact (fun _ _ => trivial)); (case aO => exact (by (with_reducible repeat (first | apply Kd.R_alloc | apply Kd.R_drewN | apply Kd.R_drew)); exact HO_5.out)); (case aS => exact (below_size (by repeat (first | (with_reducible first | exact HB.out | apply below_alloc | apply pw_below_drewN | apply below_drew1 | refine below_set ?_ GE160.out) | exact HB.out)))); (case aL => have := LMc19.out; omega); intro v168 w39 ho hb hg hat; rw [← Ny167.out] at ho; have n0_ := Aside0.mk (blk_grown (g := gb160) (o := .cells #[.string ((rd_T56 l0 x6_1).f0), .int .i64 ((rd_T56 l0 x6_1).f1), .int .i64 ((rd_T56 l0 x6_1).f2), .int .i64 ((rd_T56 l0 x6_1).f3)] 56 (0, 0)) (by (with_reducible repeat (first | refine blk_drewN ?_ _ | refine blk_drew ?_ | refine blk_alloc ?_ _)); exact BK160.out) hg (Kd.R_ne HO_5.out BK160.out (by decide))); have n1_ := Aside0.mk (hb); have n2_ := Aside0.mk (ho); clear BK160; clear HB; clear HO_5; have BK160 := n0_; have HB := n1_; have HO169 := n2_; clear n0_ n1_ n2_; clear ho hb hg hat; have hcz40_0 : w39.cell? ⟨gb160, 0, none⟩ = some (.string ((rd_T56 l0 x6_1).f0)) := (blk_cell BK160.out 0).trans rfl; have hcz40_1 : w39.cell? ⟨gb160, 1, none⟩ = some (.int .i64 ((rd_T56 l0 x6_1).f1)) := (blk_cell BK160.out 1).trans rfl; have hcz40_2 : w39.cell? ⟨gb160, 2, none⟩ = some (.int .i64 ((rd_T56 l0 x6_1).f2)) := (blk_cell BK160.out 2).trans rfl; have hcz40_3 : w39.cell? ⟨gb160, 3, none⟩ = some (.int .i64 ((rd_T56 l0 x6_1).f3)) := (blk_cell BK160.out 3).trans rfl; have hfz40_0 := blk_frozen BK160.out 0; have hfz40_1 := blk_frozen BK160.out 1; have hfz40_2 := blk_frozen BK160.out 2; have hfz40_3 := blk_frozen BK160.out 3) | ((with_reducible refine gate_builtin (b := .append) (xs := #[.tmp 47, .tmp 51]) rfl ?_); at_builtin; refine Kd.R_append k74 (w0 := w) w.heap.size rfl (.tmp 47) (.tmp 51) 34 74 (.agg #[(.int .i64 0), (.int .i64 0), (.int .i64 0), (.string ⟨#[]⟩), (.int .i64 0)]) 48 rfl Try.underlying34 info74 rfl (by decide) (by omega) v168 y167 (⟨8, 4, 0, ((rd_T56 l0 x6_1).f0), 0⟩ : S74) [.int .i64 8, .int .i64 4, .int .i64 0, .string ((rd_T56 l0 x6_1).f0), .int .i64 0] (fun _ => True) (fun _ => False) rfl rfl ?aP (fun _ hk => hk.elim) ?aF ?aO ?aB ?aS ?aL ?_; (case aP => exact k74_mkM _ _ _ (⟨8, 4, 0, ((rd_T56 l0 x6_1).f0), 0⟩ : S74)); (case aB => exact (by repeat (first | (with_reducible first | exact HB.out | apply below_alloc | apply pw_below_drewN | apply below_drew1 | refine below_set ?_ GE160.out) | exact HB.out))); (case aF => exact (fun _ _ => trivial)); (case aO => exact (by (with_reducible repeat (first | apply Kd.R_alloc | apply Kd.R_drewN | apply Kd.R_drew)); exact HO169.out)); (case aS => exact (below_size (by repeat (first | (with_reducible first | exact HB.out | apply below_alloc | apply pw_below_drewN | apply below_drew1 | refine below_set ?_ GE160.out) | exact HB.out)))); (case aL => have := LMc20.out; omega); intro v171 w41 ho hb hg hat; rw [← Ny170.out] at ho; have n0_ := Aside0.mk (blk_grown (g := gb160) (o := .cells #[.string ((rd_T56 l0 x6_1).f0), .int .i64 ((rd_T56 l0 x6_1).f1), .int .i64 ((rd_T56 l0 x6_1).f2), .int .i64 ((rd_T56 l0 x6_1).f3)] 56 (0, 0)) (by (with_reducible repeat (first | refine blk_drewN ?_ _ | refine blk_drew ?_ | refine blk_alloc ?_ _)); exact BK160.out) hg (Kd.R_ne HO169.out BK160.out (by decide))); have n1_ := Aside0.mk (hb); have n2_ := Aside0.mk (ho); clear BK160; clear HB; clear HO169; have BK160 := n0_; have HB := n1_; have HO172 := n2_; clear n0_ n1_ n2_; clear ho hb hg hat; have hcz42_0 : w41.cell? ⟨gb160, 0, none⟩ = some (.string ((rd_T56 l0 x6_1).f0)) := (blk_cell BK160.out 0).trans rfl; have hcz42_1 : w41.cell? ⟨gb160, 1, none⟩ = some (.int .i64 ((rd_T56 l0 x6_1).f1)) := (blk_cell BK160.out 1).trans rfl; have hcz42_2 : w41.cell? ⟨gb160, 2, none⟩ = some (.int .i64 ((rd_T56 l0 x6_1).f2)) := (blk_cell BK160.out 2).trans rfl; have hcz42_3 : w41.cell? ⟨gb160, 3, none⟩ = some (.int .i64 ((rd_T56 l0 x6_1).f3)) := (blk_cell BK160.out 3).trans rfl; have hfz42_0 := blk_frozen BK160.out 0; have hfz42_1 := blk_frozen BK160.out 1; have hfz42_2 := blk_frozen BK160.out 2; have hfz42_3 := blk_frozen BK160.out 3; obtain ⟨Ao43, co43, eo43⟩ := Kd.R_slice HO172.out; subst eo43; have p37 : 0 ≤ ((x5_1.length : Int) : Int) := of_decide_eq_true (by first | (with_reducible assumption) | assumption); have q37 : ((x5_1.length : Int) : Int) < ((y170.length : Int) : Int) := of_decide_eq_true (by first | (with_reducible assumption) | assumption); obtain ⟨go37, co37, eo37, gb37, gl37, cl37, HG37⟩ := Kd.R_form HO172.out (by omega); (first | cases eo37 | (injection eo37 with ea_ en_ ec_; (first | subst ea_ | (injection ea_ with ea_; subst ea_)); subst ec_; clear en_)); have GB37 := Aside0.mk gb37; have GG37 := Aside0.mk HG37; clear gb37 gl37 HG37; obtain ⟨ce37, hcl37, hM37, hcc37, hfr37⟩ := Kd.R_elem HO172.out z74 ((x5_1.length : Int) : Int) p37 q37; obtain rfl := k74_openM hM37; have hx37_0 : w41.cell? ⟨go37, ((x5_1.length : Int) : Int).toNat * 5, none⟩ = some (.int .i64 ((rd_T74 y170 (x5_1.length : Int)).f0)) := hcc37 0 _ rfl; have hx37_1 : w41.cell? ⟨go37, ((x5_1.length : Int) : Int).toNat * 5 + 1, none⟩ = some (.int .i64 ((rd_T74 y170 (x5_1.length : Int)).f1)) := hcc37 1 _ rfl; have hx37_2 : w41.cell? ⟨go37, ((x5_1.length : Int) : Int).toNat * 5 + 2, none⟩ = some (.int .i64 ((rd_T74 y170 (x5_1.length : Int)).f2)) := hcc37 2 _ rfl; have hx37_3 : w41.cell? ⟨go37, ((x5_1.length : Int) : Int).toNat * 5 + 3, none⟩ = some (.string ((rd_T74 y170 (x5_1.length : Int)).f3)) := hcc37 3 _ rfl; have hx37_4 : w41.cell? ⟨go37, ((x5_1.length : Int) : Int).toNat * 5 + 4, none⟩ = some (.int .i64 ((rd_T74 y170 (x5_1.length : Int)).f4)) := hcc37 4 _ rfl; have hf37_0 : w41.frozen? ⟨go37, ((x5_1.length : Int) : Int).toNat * 5, none⟩ = false := hfr37 0; have hf37_1 : w41.frozen? ⟨go37, ((x5_1.length : Int) : Int).toNat * 5 + 1, none⟩ = false := hfr37 1; have hf37_2 : w41.frozen? ⟨go37, ((x5_1.length : Int) : Int).toNat * 5 + 2, none⟩ = false := hfr37 2; have hf37_3 : w41.frozen? ⟨go37, ((x5_1.length : Int) : Int).toNat * 5 + 3, none⟩ = false := hfr37 3; have hf37_4 : w41.frozen? ⟨go37, ((x5_1.length : Int) : Int).toNat * 5 + 4, none⟩ = false := hfr37 4; (try simp only [Int.toNat_natCast] at hx37_0 hf37_0 hx37_1 hf37_1 hx37_2 hf37_2 hx37_3 hf37_3 hx37_4 hf37_4); clear hcl37 hcc37 hfr37 hM37; replace p37 := eq_true p37; replace q37 := eq_true q37; have HX44 := Aside0.mk (show Kd.R k74 74 w41 w.heap.size (fun _ => True) (.slice (some ⟨go37, 0, none⟩) y170.length co43) y170 from (by (with_reducible repeat (first | apply Kd.R_alloc | apply Kd.R_drewN | apply Kd.R_drew)); exact HO172.out)); obtain ⟨ce44, hcl44, hM44, hcc44, hfr44⟩ := Kd.R_elem HX44.out z74 ((x5_1.length : Int) : Int) (of_decide_eq_true (by first | (with_reducible assumption) | assumption)) (by have h_ : ((x5_1.length : Int) : Int) < ((y170.length : Int) : Int) := of_decide_eq_true (by first | (with_reducible assumption) | assumption); first | exact h_ | (have e_ := (Kd.R_reads' HO172.out).1; omega) | simpa using h_); obtain rfl := k74_openM hM44; have HP44 := Kd.R_seg HX44.out ((x5_1.length : Int) : Int) (of_decide_eq_true (by first | (with_reducible assumption) | assumption)) (by have h_ : ((x5_1.length : Int) : Int) < ((y170.length : Int) : Int) := of_decide_eq_true (by first | (with_reducible assumption) | assumption); first | exact h_ | (have e_ := (Kd.R_reads' HO172.out).1; omega) | simpa using h_) (seg := [.int .i64 (wrap64 ((wrap64 ((y170.length : Int) - (x5_1.length : Int))) - 1))]) (j := 4) hcl44 hcc44 (show 5 ≤ 5 from by decide) (x' := (⟨(rd_T74 y170 (x5_1.length : Int)).f0, (rd_T74 y170 (x5_1.length : Int)).f1, (rd_T74 y170 (x5_1.length : Int)).f2, (rd_T74 y170 (x5_1.length : Int)).f3, wrap64 ((wrap64 ((y170.length : Int) - (x5_1.length : Int))) - 1)⟩ : S74)) (k74_mkM _ _ _ (⟨(rd_T74 y170 (x5_1.length : Int)).f0, (rd_T74 y170 (x5_1.length : Int)).f1, (rd_T74 y170 (x5_1.length : Int)).f2, (rd_T74 y170 (x5_1.length : Int)).f3, wrap64 ((wrap64 ((y170.length : Int) - (x5_1.length : Int))) - 1)⟩ : S74) ) (fun _ hk => hk); have hx44_4 := hcc44 4 _ rfl; (try simp only [show (k74).sz = 5 from rfl, Nat.mul_one, Nat.add_zero, Int.toNat_natCast] at hx44_4); have hf44_4 := hfr44 4; (try simp only [show (k74).sz = 5 from rfl, Nat.mul_one, Nat.add_zero, Int.toNat_natCast] at hf44_4); clear hcl44 hcc44 hfr44 hM44) | ((with_reducible refine gate_store (t := 3) (p := 70) rfl ?_); refine store_event (t := 3) (p := 70) (v := ?vo_w45) (w1 := (w41.setCell ⟨go37, ((x5_1.length : Int) : Int).toNat * 5 + 4, none⟩ (.int .i64 (wrap64 ((wrap64 ((y170.length : Int) - (x5_1.length : Int))) - 1))))) ?hg ?ho ?hn ?hr ?_; (case ho => rfl); (case hg => rfl); (case hn => rfl); (case hr => first | (go_simp; done) | (go_simp; rfl)); intro w45 hw; have hg : w41.grownBy w45 (some go37) := (by rw [hw]; exact HP44.2); have hp_ : Kd.R k74 74 w45 w.heap.size (fun _ => True) (.slice (some ⟨go37, 0, none⟩) y170.length co43) y177 := (by rw [hw, Ny177.out]; exact HP44.1); clear HP44; have n0_ := Aside0.mk (blk_grown (g := gb160) (o := .cells #[.string ((rd_T56 l0 x6_1).f0), .int .i64 ((rd_T56 l0 x6_1).f1), .int .i64 ((rd_T56 l0 x6_1).f2), .int .i64 ((rd_T56 l0 x6_1).f3)] 56 (0, 0)) (by (with_reducible repeat (first | refine blk_drewN ?_ _ | refine blk_drew ?_ | refine blk_alloc ?_ _)); exact BK160.out) hg (Kd.R_ne HO172.out BK160.out (by decide))); have n1_ := Aside0.mk (hp_); have n2_ := Aside0.mk ((by rw [hw]; exact below_set (HB.out) GB37.out : Below w.heap.size w w45)); clear BK160; clear HO172; clear HB; have BK160 := n0_; have HO172 := n1_; have HB := n2_; clear n0_ n1_ n2_; clear hg hw hp_))
              go_roundg kj7
              case measure => have := HK1.out; have := HJ7.out; omega
              case rel => exact ⟨(y177), (wrap64 (x6_1 + 1)), (by first | rfl | (simp; done) | (simp [*]; done)), H', ⟨by have := HK1.out; have := HJ7.out; omega⟩, ⟨by (with_reducible repeat (first | apply Kd.R_alloc | apply Kd.R_drewN | apply Kd.R_drew)); exact HO172.out⟩, ⟨by repeat (first | (with_reducible first | exact HB.out | apply below_alloc | apply pw_below_drewN | apply below_drew1 | refine below_set ?_ GE160.out) | exact HB.out)⟩⟩
             ·rw [if_neg c36] at H
              exact absurd H (by simp)
            ·rw [if_neg c35] at H
             exact absurd H (by simp)
          ·rw [if_neg c20] at H
           exact absurd H (by simp)
         ·rw [if_neg c19] at H
          exact absurd H (by simp)
        ·rw [if_neg c18] at H
         have c18b0 : decide (0 < x6_1) = false := decide_eq_false c18
         clear c18
         by_cases c46 : x5_7.length < 2932031007402
         ·rw [if_pos c46] at H
          have LMc46 := Aside0.mk c46
          clear c46
          obtain ⟨y178, hy178⟩ : ∃ y_ : List (S74), y_ = (x5_7 ++ [(⟨8, 4, 0, ((rd_T56 l0 x6_1).f0), 0⟩ : S74)]) := ⟨_, rfl⟩
          replace H : (if ((rd_T56 l0 x6_1).f1) = 7 then (if y178.length < 2932031007402 then ((some (y178 ++ [(⟨5, 5, ((rd_T56 l0 x6_1).f3), (⟨#[]⟩ : ByteArray), 0⟩ : S74)] : List (S74))).bind fun y181 => (if 0 ≤ (x5_1.length : Int) then (if (x5_1.length : Int) < (y181.length : Int) then (spec_l5Nodes.l0 kj7 l0 (y181.set ((x5_1.length : Int) : Int).toNat (⟨(rd_T74 y181 (x5_1.length : Int)).f0, (rd_T74 y181 (x5_1.length : Int)).f1, (rd_T74 y181 (x5_1.length : Int)).f2, (rd_T74 y181 (x5_1.length : Int)).f3, wrap64 ((wrap64 ((y181.length : Int) - (x5_1.length : Int))) - 1)⟩ : S74)) (wrap64 (x6_1 + 1))) else (none)) else (none))) else (none)) else (if 0 ≤ (x5_1.length : Int) then (if (x5_1.length : Int) < (y178.length : Int) then (spec_l5Nodes.l0 kj7 l0 (y178.set ((x5_1.length : Int) : Int).toNat (⟨(rd_T74 y178 (x5_1.length : Int)).f0, (rd_T74 y178 (x5_1.length : Int)).f1, (rd_T74 y178 (x5_1.length : Int)).f2, (rd_T74 y178 (x5_1.length : Int)).f3, wrap64 ((wrap64 ((y178.length : Int) - (x5_1.length : Int))) - 1)⟩ : S74)) (wrap64 (x6_1 + 1))) else (none)) else (none))) = some r := by first | (rw [hy178]; with_reducible exact H) | (have H2_ := (Option.bind_some _ _).symm.trans H; rw [hy178]; with_reducible exact H2_) | (have H2_ := (Option.bind_some _ _).symm.trans H; with_reducible exact H2_) | with_reducible exact H | (rw [hy178]; exact H) | exact H
          have Ny178 := Aside0.mk hy178
          clear hy178
          by_cases c47 : ((rd_T56 l0 x6_1).f1) = 7
          ·rw [if_pos c47] at H
           have c47b0 : (((rd_T56 l0 x6_1).f1) == 7) = true := beq_iff_eq.mpr c47
           have c47b1 : (((rd_T56 l0 x6_1).f1) != 7) = false := bne_eq_false_iff_eq.mpr c47
           clear c47
           by_cases c48 : y178.length < 2932031007402
           ·rw [if_pos c48] at H
            have LMc48 := Aside0.mk c48
            clear c48
            obtain ⟨y181, hy181⟩ : ∃ y_ : List (S74), y_ = (y178 ++ [(⟨5, 5, ((rd_T56 l0 x6_1).f3), (⟨#[]⟩ : ByteArray), 0⟩ : S74)]) := ⟨_, rfl⟩
            replace H : (if 0 ≤ (x5_1.length : Int) then (if (x5_1.length : Int) < (y181.length : Int) then (spec_l5Nodes.l0 kj7 l0 (y181.set ((x5_1.length : Int) : Int).toNat (⟨(rd_T74 y181 (x5_1.length : Int)).f0, (rd_T74 y181 (x5_1.length : Int)).f1, (rd_T74 y181 (x5_1.length : Int)).f2, (rd_T74 y181 (x5_1.length : Int)).f3, wrap64 ((wrap64 ((y181.length : Int) - (x5_1.length : Int))) - 1)⟩ : S74)) (wrap64 (x6_1 + 1))) else (none)) else (none)) = some r := by first | (rw [hy181]; with_reducible exact H) | (have H2_ := (Option.bind_some _ _).symm.trans H; rw [hy181]; with_reducible exact H2_) | (have H2_ := (Option.bind_some _ _).symm.trans H; with_reducible exact H2_) | with_reducible exact H | (rw [hy181]; exact H) | exact H
            have Ny181 := Aside0.mk hy181
            clear hy181
            by_cases c49 : 0 ≤ (x5_1.length : Int)
            ·rw [if_pos c49] at H
             have c49b0 : decide (0 ≤ (x5_1.length : Int)) = true := decide_eq_true c49
             have c49b1 : decide (0 ≤ x5_1.length) = true := decide_eq_true (by omega)
             clear c49
             by_cases c50 : (x5_1.length : Int) < (y181.length : Int)
             ·rw [if_pos c50] at H
              have c50b0 : decide ((x5_1.length : Int) < (y181.length : Int)) = true := decide_eq_true c50
              have c50b1 : decide (x5_1.length < y181.length) = true := decide_eq_true (Int.ofNat_lt.mp c50)
              clear c50
              obtain ⟨y184, hy184⟩ : ∃ y_ : List (S74), y_ = (y181.set ((x5_1.length : Int) : Int).toNat (⟨(rd_T74 y181 (x5_1.length : Int)).f0, (rd_T74 y181 (x5_1.length : Int)).f1, (rd_T74 y181 (x5_1.length : Int)).f2, (rd_T74 y181 (x5_1.length : Int)).f3, wrap64 ((wrap64 ((y181.length : Int) - (x5_1.length : Int))) - 1)⟩ : S74)) := ⟨_, rfl⟩
              replace H : (spec_l5Nodes.l0 kj7 l0 y184 (wrap64 (x6_1 + 1))) = some r := by first | (rw [hy184]; with_reducible exact H) | (have H2_ := (Option.bind_some _ _).symm.trans H; rw [hy184]; with_reducible exact H2_) | (have H2_ := (Option.bind_some _ _).symm.trans H; with_reducible exact H2_) | with_reducible exact H | (rw [hy184]; exact H) | exact H
              have Ny184 := Aside0.mk hy184
              clear hy184
              have H' := Aside0.mk H
              clear H
              have hcz52_0 : wc.cell? ⟨gb160, 0, none⟩ = some (.string ((rd_T56 l0 x6_1).f0)) := (blk_cell BK160.out 0).trans rfl
              have hcz52_1 : wc.cell? ⟨gb160, 1, none⟩ = some (.int .i64 ((rd_T56 l0 x6_1).f1)) := (blk_cell BK160.out 1).trans rfl
              have hcz52_2 : wc.cell? ⟨gb160, 2, none⟩ = some (.int .i64 ((rd_T56 l0 x6_1).f2)) := (blk_cell BK160.out 2).trans rfl
              have hcz52_3 : wc.cell? ⟨gb160, 3, none⟩ = some (.int .i64 ((rd_T56 l0 x6_1).f3)) := (blk_cell BK160.out 3).trans rfl
              have hfz52_0 := blk_frozen BK160.out 0
              have hfz52_1 := blk_frozen BK160.out 1
              have hfz52_2 := blk_frozen BK160.out 2
              have hfz52_3 := blk_frozen BK160.out 3
              go_wp2_with (first | ((with_reducible refine gate_builtin (b := .append) (xs := #[.tmp 47, .tmp 51]) rfl ?_); at_builtin; refine Kd.R_append k74 (w0 := w) w.heap.size rfl (.tmp 47) (.tmp 51) 34 74 (.agg #[(.int .i64 0), (.int .i64 0), (.int .i64 0), (.string ⟨#[]⟩), (.int .i64 0)]) 48 rfl Try.underlying34 info74 rfl (by decide) (by omega) u5 x5_7 (⟨8, 4, 0, ((rd_T56 l0 x6_1).f0), 0⟩ : S74) [.int .i64 8, .int .i64 4, .int .i64 0, .string ((rd_T56 l0 x6_1).f0), .int .i64 0] (fun _ => True) (fun _ => False) rfl rfl ?aP (fun _ hk => hk.elim) ?aF ?aO ?aB ?aS ?aL ?_; (case aP => exact k74_mkM _ _ _ (⟨8, 4, 0, ((rd_T56 l0 x6_1).f0), 0⟩ : S74)); (case aB => exact (by repeat (first | (with_reducible first | exact HB.out | apply below_alloc | apply pw_below_drewN | apply below_drew1 | refine below_set ?_ GE160.out) | exact HB.out))); (case aF => exact (fun _ _ => trivial)); (case aO => exact (by (with_reducible repeat (first | apply Kd.R_alloc | apply Kd.R_drewN | apply Kd.R_drew)); exact HO_5.out)); (case aS => exact (below_size (by repeat (first | (with_reducible first | exact HB.out | apply below_alloc | apply pw_below_drewN | apply below_drew1 | refine below_set ?_ GE160.out) | exact HB.out)))); (case aL => have := LMc46.out; omega); intro v179 w53 ho hb hg hat; rw [← Ny178.out] at ho; have n0_ := Aside0.mk (blk_grown (g := gb160) (o := .cells #[.string ((rd_T56 l0 x6_1).f0), .int .i64 ((rd_T56 l0 x6_1).f1), .int .i64 ((rd_T56 l0 x6_1).f2), .int .i64 ((rd_T56 l0 x6_1).f3)] 56 (0, 0)) (by (with_reducible repeat (first | refine blk_drewN ?_ _ | refine blk_drew ?_ | refine blk_alloc ?_ _)); exact BK160.out) hg (Kd.R_ne HO_5.out BK160.out (by decide))); have n1_ := Aside0.mk (hb); have n2_ := Aside0.mk (ho); clear BK160; clear HB; clear HO_5; have BK160 := n0_; have HB := n1_; have HO180 := n2_; clear n0_ n1_ n2_; clear ho hb hg hat; have hcz54_0 : w53.cell? ⟨gb160, 0, none⟩ = some (.string ((rd_T56 l0 x6_1).f0)) := (blk_cell BK160.out 0).trans rfl; have hcz54_1 : w53.cell? ⟨gb160, 1, none⟩ = some (.int .i64 ((rd_T56 l0 x6_1).f1)) := (blk_cell BK160.out 1).trans rfl; have hcz54_2 : w53.cell? ⟨gb160, 2, none⟩ = some (.int .i64 ((rd_T56 l0 x6_1).f2)) := (blk_cell BK160.out 2).trans rfl; have hcz54_3 : w53.cell? ⟨gb160, 3, none⟩ = some (.int .i64 ((rd_T56 l0 x6_1).f3)) := (blk_cell BK160.out 3).trans rfl; have hfz54_0 := blk_frozen BK160.out 0; have hfz54_1 := blk_frozen BK160.out 1; have hfz54_2 := blk_frozen BK160.out 2; have hfz54_3 := blk_frozen BK160.out 3) | ((with_reducible refine gate_builtin (b := .append) (xs := #[.tmp 56, .tmp 60]) rfl ?_); at_builtin; refine Kd.R_append k74 (w0 := w) w.heap.size rfl (.tmp 56) (.tmp 60) 34 74 (.agg #[(.int .i64 0), (.int .i64 0), (.int .i64 0), (.string ⟨#[]⟩), (.int .i64 0)]) 48 rfl Try.underlying34 info74 rfl (by decide) (by omega) v179 y178 (⟨5, 5, ((rd_T56 l0 x6_1).f3), (⟨#[]⟩ : ByteArray), 0⟩ : S74) [.int .i64 5, .int .i64 5, .int .i64 ((rd_T56 l0 x6_1).f3), .string (⟨#[]⟩ : ByteArray), .int .i64 0] (fun _ => True) (fun _ => False) rfl rfl ?aP (fun _ hk => hk.elim) ?aF ?aO ?aB ?aS ?aL ?_; (case aP => exact k74_mkM _ _ _ (⟨5, 5, ((rd_T56 l0 x6_1).f3), (⟨#[]⟩ : ByteArray), 0⟩ : S74)); (case aB => exact (by repeat (first | (with_reducible first | exact HB.out | apply below_alloc | apply pw_below_drewN | apply below_drew1 | refine below_set ?_ GE160.out) | exact HB.out))); (case aF => exact (fun _ _ => trivial)); (case aO => exact (by (with_reducible repeat (first | apply Kd.R_alloc | apply Kd.R_drewN | apply Kd.R_drew)); exact HO180.out)); (case aS => exact (below_size (by repeat (first | (with_reducible first | exact HB.out | apply below_alloc | apply pw_below_drewN | apply below_drew1 | refine below_set ?_ GE160.out) | exact HB.out)))); (case aL => have := LMc48.out; omega); intro v182 w55 ho hb hg hat; rw [← Ny181.out] at ho; have n0_ := Aside0.mk (blk_grown (g := gb160) (o := .cells #[.string ((rd_T56 l0 x6_1).f0), .int .i64 ((rd_T56 l0 x6_1).f1), .int .i64 ((rd_T56 l0 x6_1).f2), .int .i64 ((rd_T56 l0 x6_1).f3)] 56 (0, 0)) (by (with_reducible repeat (first | refine blk_drewN ?_ _ | refine blk_drew ?_ | refine blk_alloc ?_ _)); exact BK160.out) hg (Kd.R_ne HO180.out BK160.out (by decide))); have n1_ := Aside0.mk (hb); have n2_ := Aside0.mk (ho); clear BK160; clear HB; clear HO180; have BK160 := n0_; have HB := n1_; have HO183 := n2_; clear n0_ n1_ n2_; clear ho hb hg hat; obtain ⟨Ao56, co56, eo56⟩ := Kd.R_slice HO183.out; subst eo56; have p51 : 0 ≤ ((x5_1.length : Int) : Int) := of_decide_eq_true (by first | (with_reducible assumption) | assumption); have q51 : ((x5_1.length : Int) : Int) < ((y181.length : Int) : Int) := of_decide_eq_true (by first | (with_reducible assumption) | assumption); obtain ⟨go51, co51, eo51, gb51, gl51, cl51, HG51⟩ := Kd.R_form HO183.out (by omega); (first | cases eo51 | (injection eo51 with ea_ en_ ec_; (first | subst ea_ | (injection ea_ with ea_; subst ea_)); subst ec_; clear en_)); have GB51 := Aside0.mk gb51; have GG51 := Aside0.mk HG51; clear gb51 gl51 HG51; obtain ⟨ce51, hcl51, hM51, hcc51, hfr51⟩ := Kd.R_elem HO183.out z74 ((x5_1.length : Int) : Int) p51 q51; obtain rfl := k74_openM hM51; have hx51_0 : w55.cell? ⟨go51, ((x5_1.length : Int) : Int).toNat * 5, none⟩ = some (.int .i64 ((rd_T74 y181 (x5_1.length : Int)).f0)) := hcc51 0 _ rfl; have hx51_1 : w55.cell? ⟨go51, ((x5_1.length : Int) : Int).toNat * 5 + 1, none⟩ = some (.int .i64 ((rd_T74 y181 (x5_1.length : Int)).f1)) := hcc51 1 _ rfl; have hx51_2 : w55.cell? ⟨go51, ((x5_1.length : Int) : Int).toNat * 5 + 2, none⟩ = some (.int .i64 ((rd_T74 y181 (x5_1.length : Int)).f2)) := hcc51 2 _ rfl; have hx51_3 : w55.cell? ⟨go51, ((x5_1.length : Int) : Int).toNat * 5 + 3, none⟩ = some (.string ((rd_T74 y181 (x5_1.length : Int)).f3)) := hcc51 3 _ rfl; have hx51_4 : w55.cell? ⟨go51, ((x5_1.length : Int) : Int).toNat * 5 + 4, none⟩ = some (.int .i64 ((rd_T74 y181 (x5_1.length : Int)).f4)) := hcc51 4 _ rfl; have hf51_0 : w55.frozen? ⟨go51, ((x5_1.length : Int) : Int).toNat * 5, none⟩ = false := hfr51 0; have hf51_1 : w55.frozen? ⟨go51, ((x5_1.length : Int) : Int).toNat * 5 + 1, none⟩ = false := hfr51 1; have hf51_2 : w55.frozen? ⟨go51, ((x5_1.length : Int) : Int).toNat * 5 + 2, none⟩ = false := hfr51 2; have hf51_3 : w55.frozen? ⟨go51, ((x5_1.length : Int) : Int).toNat * 5 + 3, none⟩ = false := hfr51 3; have hf51_4 : w55.frozen? ⟨go51, ((x5_1.length : Int) : Int).toNat * 5 + 4, none⟩ = false := hfr51 4; (try simp only [Int.toNat_natCast] at hx51_0 hf51_0 hx51_1 hf51_1 hx51_2 hf51_2 hx51_3 hf51_3 hx51_4 hf51_4); clear hcl51 hcc51 hfr51 hM51; replace p51 := eq_true p51; replace q51 := eq_true q51; have HX57 := Aside0.mk (show Kd.R k74 74 w55 w.heap.size (fun _ => True) (.slice (some ⟨go51, 0, none⟩) y181.length co56) y181 from (by (with_reducible repeat (first | apply Kd.R_alloc | apply Kd.R_drewN | apply Kd.R_drew)); exact HO183.out)); obtain ⟨ce57, hcl57, hM57, hcc57, hfr57⟩ := Kd.R_elem HX57.out z74 ((x5_1.length : Int) : Int) (of_decide_eq_true (by first | (with_reducible assumption) | assumption)) (by have h_ : ((x5_1.length : Int) : Int) < ((y181.length : Int) : Int) := of_decide_eq_true (by first | (with_reducible assumption) | assumption); first | exact h_ | (have e_ := (Kd.R_reads' HO183.out).1; omega) | simpa using h_); obtain rfl := k74_openM hM57; have HP57 := Kd.R_seg HX57.out ((x5_1.length : Int) : Int) (of_decide_eq_true (by first | (with_reducible assumption) | assumption)) (by have h_ : ((x5_1.length : Int) : Int) < ((y181.length : Int) : Int) := of_decide_eq_true (by first | (with_reducible assumption) | assumption); first | exact h_ | (have e_ := (Kd.R_reads' HO183.out).1; omega) | simpa using h_) (seg := [.int .i64 (wrap64 ((wrap64 ((y181.length : Int) - (x5_1.length : Int))) - 1))]) (j := 4) hcl57 hcc57 (show 5 ≤ 5 from by decide) (x' := (⟨(rd_T74 y181 (x5_1.length : Int)).f0, (rd_T74 y181 (x5_1.length : Int)).f1, (rd_T74 y181 (x5_1.length : Int)).f2, (rd_T74 y181 (x5_1.length : Int)).f3, wrap64 ((wrap64 ((y181.length : Int) - (x5_1.length : Int))) - 1)⟩ : S74)) (k74_mkM _ _ _ (⟨(rd_T74 y181 (x5_1.length : Int)).f0, (rd_T74 y181 (x5_1.length : Int)).f1, (rd_T74 y181 (x5_1.length : Int)).f2, (rd_T74 y181 (x5_1.length : Int)).f3, wrap64 ((wrap64 ((y181.length : Int) - (x5_1.length : Int))) - 1)⟩ : S74) ) (fun _ hk => hk); have hx57_4 := hcc57 4 _ rfl; (try simp only [show (k74).sz = 5 from rfl, Nat.mul_one, Nat.add_zero, Int.toNat_natCast] at hx57_4); have hf57_4 := hfr57 4; (try simp only [show (k74).sz = 5 from rfl, Nat.mul_one, Nat.add_zero, Int.toNat_natCast] at hf57_4); clear hcl57 hcc57 hfr57 hM57) | ((with_reducible refine gate_store (t := 3) (p := 70) rfl ?_); refine store_event (t := 3) (p := 70) (v := ?vo_w58) (w1 := (w55.setCell ⟨go51, ((x5_1.length : Int) : Int).toNat * 5 + 4, none⟩ (.int .i64 (wrap64 ((wrap64 ((y181.length : Int) - (x5_1.length : Int))) - 1))))) ?hg ?ho ?hn ?hr ?_; (case ho => rfl); (case hg => rfl); (case hn => rfl); (case hr => first | (go_simp; done) | (go_simp; rfl)); intro w58 hw; have hg : w55.grownBy w58 (some go51) := (by rw [hw]; exact HP57.2); have hp_ : Kd.R k74 74 w58 w.heap.size (fun _ => True) (.slice (some ⟨go51, 0, none⟩) y181.length co56) y184 := (by rw [hw, Ny184.out]; exact HP57.1); clear HP57; have n0_ := Aside0.mk (blk_grown (g := gb160) (o := .cells #[.string ((rd_T56 l0 x6_1).f0), .int .i64 ((rd_T56 l0 x6_1).f1), .int .i64 ((rd_T56 l0 x6_1).f2), .int .i64 ((rd_T56 l0 x6_1).f3)] 56 (0, 0)) (by (with_reducible repeat (first | refine blk_drewN ?_ _ | refine blk_drew ?_ | refine blk_alloc ?_ _)); exact BK160.out) hg (Kd.R_ne HO183.out BK160.out (by decide))); have n1_ := Aside0.mk (hp_); have n2_ := Aside0.mk ((by rw [hw]; exact below_set (HB.out) GB51.out : Below w.heap.size w w58)); clear BK160; clear HO183; clear HB; have BK160 := n0_; have HO183 := n1_; have HB := n2_; clear n0_ n1_ n2_; clear hg hw hp_))
              go_roundg kj7
              case measure => have := HK1.out; have := HJ7.out; omega
              case rel => exact ⟨(y184), (wrap64 (x6_1 + 1)), (by first | rfl | (simp; done) | (simp [*]; done)), H', ⟨by have := HK1.out; have := HJ7.out; omega⟩, ⟨by (with_reducible repeat (first | apply Kd.R_alloc | apply Kd.R_drewN | apply Kd.R_drew)); exact HO183.out⟩, ⟨by repeat (first | (with_reducible first | exact HB.out | apply below_alloc | apply pw_below_drewN | apply below_drew1 | refine below_set ?_ GE160.out) | exact HB.out)⟩⟩
             ·rw [if_neg c50] at H
              exact absurd H (by simp)
            ·rw [if_neg c49] at H
             exact absurd H (by simp)
           ·rw [if_neg c48] at H
            exact absurd H (by simp)
          ·rw [if_neg c47] at H
           have c47b0 : (((rd_T56 l0 x6_1).f1) == 7) = false := beq_eq_false_iff_ne.mpr c47
           have c47b1 : (((rd_T56 l0 x6_1).f1) != 7) = true := bne_iff_ne.mpr c47
           by_cases c59 : 0 ≤ (x5_1.length : Int)
           ·rw [if_pos c59] at H
            have c59b0 : decide (0 ≤ (x5_1.length : Int)) = true := decide_eq_true c59
            have c59b1 : decide (0 ≤ x5_1.length) = true := decide_eq_true (by omega)
            clear c59
            by_cases c60 : (x5_1.length : Int) < (y178.length : Int)
            ·rw [if_pos c60] at H
             have c60b0 : decide ((x5_1.length : Int) < (y178.length : Int)) = true := decide_eq_true c60
             have c60b1 : decide (x5_1.length < y178.length) = true := decide_eq_true (Int.ofNat_lt.mp c60)
             clear c60
             obtain ⟨y185, hy185⟩ : ∃ y_ : List (S74), y_ = (y178.set ((x5_1.length : Int) : Int).toNat (⟨(rd_T74 y178 (x5_1.length : Int)).f0, (rd_T74 y178 (x5_1.length : Int)).f1, (rd_T74 y178 (x5_1.length : Int)).f2, (rd_T74 y178 (x5_1.length : Int)).f3, wrap64 ((wrap64 ((y178.length : Int) - (x5_1.length : Int))) - 1)⟩ : S74)) := ⟨_, rfl⟩
             replace H : (spec_l5Nodes.l0 kj7 l0 y185 (wrap64 (x6_1 + 1))) = some r := by first | (rw [hy185]; with_reducible exact H) | (have H2_ := (Option.bind_some _ _).symm.trans H; rw [hy185]; with_reducible exact H2_) | (have H2_ := (Option.bind_some _ _).symm.trans H; with_reducible exact H2_) | with_reducible exact H | (rw [hy185]; exact H) | exact H
             have Ny185 := Aside0.mk hy185
             clear hy185
             have H' := Aside0.mk H
             clear H
             have hcz62_0 : wc.cell? ⟨gb160, 0, none⟩ = some (.string ((rd_T56 l0 x6_1).f0)) := (blk_cell BK160.out 0).trans rfl
             have hcz62_1 : wc.cell? ⟨gb160, 1, none⟩ = some (.int .i64 ((rd_T56 l0 x6_1).f1)) := (blk_cell BK160.out 1).trans rfl
             have hcz62_2 : wc.cell? ⟨gb160, 2, none⟩ = some (.int .i64 ((rd_T56 l0 x6_1).f2)) := (blk_cell BK160.out 2).trans rfl
             have hcz62_3 : wc.cell? ⟨gb160, 3, none⟩ = some (.int .i64 ((rd_T56 l0 x6_1).f3)) := (blk_cell BK160.out 3).trans rfl
             have hfz62_0 := blk_frozen BK160.out 0
             have hfz62_1 := blk_frozen BK160.out 1
             have hfz62_2 := blk_frozen BK160.out 2
             have hfz62_3 := blk_frozen BK160.out 3
             go_wp2_with (first | ((with_reducible refine gate_builtin (b := .append) (xs := #[.tmp 47, .tmp 51]) rfl ?_); at_builtin; refine Kd.R_append k74 (w0 := w) w.heap.size rfl (.tmp 47) (.tmp 51) 34 74 (.agg #[(.int .i64 0), (.int .i64 0), (.int .i64 0), (.string ⟨#[]⟩), (.int .i64 0)]) 48 rfl Try.underlying34 info74 rfl (by decide) (by omega) u5 x5_7 (⟨8, 4, 0, ((rd_T56 l0 x6_1).f0), 0⟩ : S74) [.int .i64 8, .int .i64 4, .int .i64 0, .string ((rd_T56 l0 x6_1).f0), .int .i64 0] (fun _ => True) (fun _ => False) rfl rfl ?aP (fun _ hk => hk.elim) ?aF ?aO ?aB ?aS ?aL ?_; (case aP => exact k74_mkM _ _ _ (⟨8, 4, 0, ((rd_T56 l0 x6_1).f0), 0⟩ : S74)); (case aB => exact (by repeat (first | (with_reducible first | exact HB.out | apply below_alloc | apply pw_below_drewN | apply below_drew1 | refine below_set ?_ GE160.out) | exact HB.out))); (case aF => exact (fun _ _ => trivial)); (case aO => exact (by (with_reducible repeat (first | apply Kd.R_alloc | apply Kd.R_drewN | apply Kd.R_drew)); exact HO_5.out)); (case aS => exact (below_size (by repeat (first | (with_reducible first | exact HB.out | apply below_alloc | apply pw_below_drewN | apply below_drew1 | refine below_set ?_ GE160.out) | exact HB.out)))); (case aL => have := LMc46.out; omega); intro v179 w63 ho hb hg hat; rw [← Ny178.out] at ho; have n0_ := Aside0.mk (blk_grown (g := gb160) (o := .cells #[.string ((rd_T56 l0 x6_1).f0), .int .i64 ((rd_T56 l0 x6_1).f1), .int .i64 ((rd_T56 l0 x6_1).f2), .int .i64 ((rd_T56 l0 x6_1).f3)] 56 (0, 0)) (by (with_reducible repeat (first | refine blk_drewN ?_ _ | refine blk_drew ?_ | refine blk_alloc ?_ _)); exact BK160.out) hg (Kd.R_ne HO_5.out BK160.out (by decide))); have n1_ := Aside0.mk (hb); have n2_ := Aside0.mk (ho); clear BK160; clear HB; clear HO_5; have BK160 := n0_; have HB := n1_; have HO180 := n2_; clear n0_ n1_ n2_; clear ho hb hg hat; have hcz64_0 : w63.cell? ⟨gb160, 0, none⟩ = some (.string ((rd_T56 l0 x6_1).f0)) := (blk_cell BK160.out 0).trans rfl; have hcz64_1 : w63.cell? ⟨gb160, 1, none⟩ = some (.int .i64 ((rd_T56 l0 x6_1).f1)) := (blk_cell BK160.out 1).trans rfl; have hcz64_2 : w63.cell? ⟨gb160, 2, none⟩ = some (.int .i64 ((rd_T56 l0 x6_1).f2)) := (blk_cell BK160.out 2).trans rfl; have hcz64_3 : w63.cell? ⟨gb160, 3, none⟩ = some (.int .i64 ((rd_T56 l0 x6_1).f3)) := (blk_cell BK160.out 3).trans rfl; have hfz64_0 := blk_frozen BK160.out 0; have hfz64_1 := blk_frozen BK160.out 1; have hfz64_2 := blk_frozen BK160.out 2; have hfz64_3 := blk_frozen BK160.out 3; obtain ⟨Ao65, co65, eo65⟩ := Kd.R_slice HO180.out; subst eo65; have p61 : 0 ≤ ((x5_1.length : Int) : Int) := of_decide_eq_true (by first | (with_reducible assumption) | assumption); have q61 : ((x5_1.length : Int) : Int) < ((y178.length : Int) : Int) := of_decide_eq_true (by first | (with_reducible assumption) | assumption); obtain ⟨go61, co61, eo61, gb61, gl61, cl61, HG61⟩ := Kd.R_form HO180.out (by omega); (first | cases eo61 | (injection eo61 with ea_ en_ ec_; (first | subst ea_ | (injection ea_ with ea_; subst ea_)); subst ec_; clear en_)); have GB61 := Aside0.mk gb61; have GG61 := Aside0.mk HG61; clear gb61 gl61 HG61; obtain ⟨ce61, hcl61, hM61, hcc61, hfr61⟩ := Kd.R_elem HO180.out z74 ((x5_1.length : Int) : Int) p61 q61; obtain rfl := k74_openM hM61; have hx61_0 : w63.cell? ⟨go61, ((x5_1.length : Int) : Int).toNat * 5, none⟩ = some (.int .i64 ((rd_T74 y178 (x5_1.length : Int)).f0)) := hcc61 0 _ rfl; have hx61_1 : w63.cell? ⟨go61, ((x5_1.length : Int) : Int).toNat * 5 + 1, none⟩ = some (.int .i64 ((rd_T74 y178 (x5_1.length : Int)).f1)) := hcc61 1 _ rfl; have hx61_2 : w63.cell? ⟨go61, ((x5_1.length : Int) : Int).toNat * 5 + 2, none⟩ = some (.int .i64 ((rd_T74 y178 (x5_1.length : Int)).f2)) := hcc61 2 _ rfl; have hx61_3 : w63.cell? ⟨go61, ((x5_1.length : Int) : Int).toNat * 5 + 3, none⟩ = some (.string ((rd_T74 y178 (x5_1.length : Int)).f3)) := hcc61 3 _ rfl; have hx61_4 : w63.cell? ⟨go61, ((x5_1.length : Int) : Int).toNat * 5 + 4, none⟩ = some (.int .i64 ((rd_T74 y178 (x5_1.length : Int)).f4)) := hcc61 4 _ rfl; have hf61_0 : w63.frozen? ⟨go61, ((x5_1.length : Int) : Int).toNat * 5, none⟩ = false := hfr61 0; have hf61_1 : w63.frozen? ⟨go61, ((x5_1.length : Int) : Int).toNat * 5 + 1, none⟩ = false := hfr61 1; have hf61_2 : w63.frozen? ⟨go61, ((x5_1.length : Int) : Int).toNat * 5 + 2, none⟩ = false := hfr61 2; have hf61_3 : w63.frozen? ⟨go61, ((x5_1.length : Int) : Int).toNat * 5 + 3, none⟩ = false := hfr61 3; have hf61_4 : w63.frozen? ⟨go61, ((x5_1.length : Int) : Int).toNat * 5 + 4, none⟩ = false := hfr61 4; (try simp only [Int.toNat_natCast] at hx61_0 hf61_0 hx61_1 hf61_1 hx61_2 hf61_2 hx61_3 hf61_3 hx61_4 hf61_4); clear hcl61 hcc61 hfr61 hM61; replace p61 := eq_true p61; replace q61 := eq_true q61; have HX66 := Aside0.mk (show Kd.R k74 74 w63 w.heap.size (fun _ => True) (.slice (some ⟨go61, 0, none⟩) y178.length co65) y178 from (by (with_reducible repeat (first | apply Kd.R_alloc | apply Kd.R_drewN | apply Kd.R_drew)); exact HO180.out)); obtain ⟨ce66, hcl66, hM66, hcc66, hfr66⟩ := Kd.R_elem HX66.out z74 ((x5_1.length : Int) : Int) (of_decide_eq_true (by first | (with_reducible assumption) | assumption)) (by have h_ : ((x5_1.length : Int) : Int) < ((y178.length : Int) : Int) := of_decide_eq_true (by first | (with_reducible assumption) | assumption); first | exact h_ | (have e_ := (Kd.R_reads' HO180.out).1; omega) | simpa using h_); obtain rfl := k74_openM hM66; have HP66 := Kd.R_seg HX66.out ((x5_1.length : Int) : Int) (of_decide_eq_true (by first | (with_reducible assumption) | assumption)) (by have h_ : ((x5_1.length : Int) : Int) < ((y178.length : Int) : Int) := of_decide_eq_true (by first | (with_reducible assumption) | assumption); first | exact h_ | (have e_ := (Kd.R_reads' HO180.out).1; omega) | simpa using h_) (seg := [.int .i64 (wrap64 ((wrap64 ((y178.length : Int) - (x5_1.length : Int))) - 1))]) (j := 4) hcl66 hcc66 (show 5 ≤ 5 from by decide) (x' := (⟨(rd_T74 y178 (x5_1.length : Int)).f0, (rd_T74 y178 (x5_1.length : Int)).f1, (rd_T74 y178 (x5_1.length : Int)).f2, (rd_T74 y178 (x5_1.length : Int)).f3, wrap64 ((wrap64 ((y178.length : Int) - (x5_1.length : Int))) - 1)⟩ : S74)) (k74_mkM _ _ _ (⟨(rd_T74 y178 (x5_1.length : Int)).f0, (rd_T74 y178 (x5_1.length : Int)).f1, (rd_T74 y178 (x5_1.length : Int)).f2, (rd_T74 y178 (x5_1.length : Int)).f3, wrap64 ((wrap64 ((y178.length : Int) - (x5_1.length : Int))) - 1)⟩ : S74) ) (fun _ hk => hk); have hx66_4 := hcc66 4 _ rfl; (try simp only [show (k74).sz = 5 from rfl, Nat.mul_one, Nat.add_zero, Int.toNat_natCast] at hx66_4); have hf66_4 := hfr66 4; (try simp only [show (k74).sz = 5 from rfl, Nat.mul_one, Nat.add_zero, Int.toNat_natCast] at hf66_4); clear hcl66 hcc66 hfr66 hM66) | ((with_reducible refine gate_store (t := 3) (p := 70) rfl ?_); refine store_event (t := 3) (p := 70) (v := ?vo_w67) (w1 := (w63.setCell ⟨go61, ((x5_1.length : Int) : Int).toNat * 5 + 4, none⟩ (.int .i64 (wrap64 ((wrap64 ((y178.length : Int) - (x5_1.length : Int))) - 1))))) ?hg ?ho ?hn ?hr ?_; (case ho => rfl); (case hg => rfl); (case hn => rfl); (case hr => first | (go_simp; done) | (go_simp; rfl)); intro w67 hw; have hg : w63.grownBy w67 (some go61) := (by rw [hw]; exact HP66.2); have hp_ : Kd.R k74 74 w67 w.heap.size (fun _ => True) (.slice (some ⟨go61, 0, none⟩) y178.length co65) y185 := (by rw [hw, Ny185.out]; exact HP66.1); clear HP66; have n0_ := Aside0.mk (blk_grown (g := gb160) (o := .cells #[.string ((rd_T56 l0 x6_1).f0), .int .i64 ((rd_T56 l0 x6_1).f1), .int .i64 ((rd_T56 l0 x6_1).f2), .int .i64 ((rd_T56 l0 x6_1).f3)] 56 (0, 0)) (by (with_reducible repeat (first | refine blk_drewN ?_ _ | refine blk_drew ?_ | refine blk_alloc ?_ _)); exact BK160.out) hg (Kd.R_ne HO180.out BK160.out (by decide))); have n1_ := Aside0.mk (hp_); have n2_ := Aside0.mk ((by rw [hw]; exact below_set (HB.out) GB61.out : Below w.heap.size w w67)); clear BK160; clear HO180; clear HB; have BK160 := n0_; have HO180 := n1_; have HB := n2_; clear n0_ n1_ n2_; clear hg hw hp_))
             go_roundg kj7
             case measure => have := HK1.out; have := HJ7.out; omega
             case rel => exact ⟨(y185), (wrap64 (x6_1 + 1)), (by first | rfl | (simp; done) | (simp [*]; done)), H', ⟨by have := HK1.out; have := HJ7.out; omega⟩, ⟨by (with_reducible repeat (first | apply Kd.R_alloc | apply Kd.R_drewN | apply Kd.R_drew)); exact HO180.out⟩, ⟨by repeat (first | (with_reducible first | exact HB.out | apply below_alloc | apply pw_below_drewN | apply below_drew1 | refine below_set ?_ GE160.out) | exact HB.out)⟩⟩
            ·rw [if_neg c60] at H
             exact absurd H (by simp)
           ·rw [if_neg c59] at H
            exact absurd H (by simp)
         ·rw [if_neg c46] at H
          exact absurd H (by simp)
     ·rw [if_neg c7] at H
      exact absurd H (by simp)
    ·rw [if_neg c6] at H
     exact absurd H (by simp)
   ·rw [if_neg c5] at H
    have c5b0 : decide (x6_1 < (l0.length : Int)) = false := decide_eq_false c5
    clear c5
    obtain rfl := Option.some.inj H
    go_wp2
    go_ret
    exact ⟨_, by first | rfl | (simp [errW_none, errW_some] <;> rfl) | (simp [*, errW_none, errW_some] <;> rfl) | (exfalso; simp only [Bool.not_eq_true', Bool.not_eq_false', decide_eq_false_iff_not, decide_eq_true_eq, decide_eq_decide, Int.not_lt, Int.not_le] at *; omega), by (with_reducible repeat (first | apply Kd.R_alloc | apply Kd.R_drewN | apply Kd.R_drew)); exact HO_5.out, by repeat (first | (with_reducible first | exact HB.out | apply below_alloc | apply pw_below_drewN | apply below_drew1) | exact HB.out)⟩

def spec_SchemaTree.f (k : Nat) (l0 : List (S56)) : Option ((List (S74)) × Bool) := (spec_SchemaOk.f k l0).bind fun t186 => (if t186 = true then ((some (([(⟨12, 0, 0, (⟨#[]⟩ : ByteArray), 1⟩ : S74)] : List (S74)) : List (S74))).bind fun y187 => ((spec_l5Nodes.f k l0 2).bind fun t190 => (if y187.length + t190.length < 2932031007402 then (some ((y187 ++ t190), true)) else (none)))) else (some ((([] : List (S74))), false)))
theorem spec_SchemaTree.mono : ∀ a0 k, LeO (spec_SchemaTree.f k a0) (spec_SchemaTree.f (k + 1) a0) := by
 intro a0 k
 unfold spec_SchemaTree.f
 repeat' first
   | (with_reducible exact spec_SchemaOk.mono _ _)
   | (with_reducible exact spec_l5Nodes.mono _ _ _)
   | (with_reducible exact LeO.refl _)
   | (with_reducible exact LeO.none _)
   | (with_reducible refine LeO.ite ?_ ?_)
   | (with_reducible refine LeO.bind ?_ (fun _ => ?_))
   | exact spec_SchemaOk.mono _ _
   | exact spec_l5Nodes.mono _ _ _
   | exact LeO.none _
   | refine LeO.ite ?_ ?_
   | refine LeO.bind ?_ (fun _ => ?_)
set_option maxHeartbeats 8000000 in
set_option maxRecDepth 100000 in
theorem spec_SchemaTree.calls (k : Nat) (A0 : Option Addr) (c0 : Nat) (l0 : List (S56)) (r1 : List (S74)) (r2 : Bool) (w : World) (hr0 : Kd.C k56 w A0 l0.length l0) (hc0 : l0.length ≤ c0) (h : spec_SchemaTree.f k l0 = some (r1, r2)) :
  Calls Try.prog 49 #[.slice A0 l0.length c0] w fun e w' => ∃ v0_ : Value, e = .returned (.tuple #[v0_, .bool r2]) ∧ Kd.R k74 74 w' w.heap.size (fun _ => True) v0_ r1 ∧ Below w.heap.size w w' := by
 have hu74 := Try.underlying74
 have HR0 := Aside0.mk hr0
 have HC0 := Aside0.mk hc0
 clear hr0 hc0
 have HB := Aside0.mk (Below.refl w.heap.size w)
 have H : ((spec_SchemaOk.f k l0).bind fun t186 => (if t186 = true then ((some (([(⟨12, 0, 0, (⟨#[]⟩ : ByteArray), 1⟩ : S74)] : List (S74)) : List (S74))).bind fun y187 => ((spec_l5Nodes.f k l0 2).bind fun t190 => (if y187.length + t190.length < 2932031007402 then (some ((y187 ++ t190), true)) else (none)))) else (some ((([] : List (S74))), false)))) = some (r1, r2) := h
 clear h
 replace H := Option.bind_eq_some_iff.mp H
 obtain ⟨t186, A20, H⟩ := H
 replace H : (if t186 = true then ((some (([(⟨12, 0, 0, (⟨#[]⟩ : ByteArray), 1⟩ : S74)] : List (S74)) : List (S74))).bind fun y187 => ((spec_l5Nodes.f k l0 2).bind fun t190 => (if y187.length + t190.length < 2932031007402 then (some ((y187 ++ t190), true)) else (none)))) else (some ((([] : List (S74))), false))) = some (r1, r2) := H
 have A2 := Aside0.mk A20
 clear A20
 by_cases c3 : t186 = true
 ·subst c3
  have H1 : ((some (([(⟨12, 0, 0, (⟨#[]⟩ : ByteArray), 1⟩ : S74)] : List (S74)) : List (S74))).bind fun y187 => ((spec_l5Nodes.f k l0 2).bind fun t190 => (if y187.length + t190.length < 2932031007402 then (some ((y187 ++ t190), true)) else (none)))) = some (r1, r2) := by rw [if_pos rfl] at H; exact H
  clear H
  have H := H1
  clear H1
  obtain ⟨y187, hy187⟩ : ∃ y_ : List (S74), y_ = (([(⟨12, 0, 0, (⟨#[]⟩ : ByteArray), 1⟩ : S74)] : List (S74))) := ⟨_, rfl⟩
  replace H : ((spec_l5Nodes.f k l0 2).bind fun t190 => (if y187.length + t190.length < 2932031007402 then (some ((y187 ++ t190), true)) else (none))) = some (r1, r2) := by first | (rw [hy187]; with_reducible exact H) | (have H2_ := (Option.bind_some _ _).symm.trans H; rw [hy187]; with_reducible exact H2_) | (have H2_ := (Option.bind_some _ _).symm.trans H; with_reducible exact H2_) | with_reducible exact H | (rw [hy187]; exact H) | exact H
  have Ny187 := Aside0.mk hy187
  clear hy187
  replace H := Option.bind_eq_some_iff.mp H
  obtain ⟨t190, A40, H⟩ := H
  replace H : (if y187.length + t190.length < 2932031007402 then (some ((y187 ++ t190), true)) else (none)) = some (r1, r2) := H
  have A4 := Aside0.mk A40
  clear A40
  by_cases c5 : y187.length + t190.length < 2932031007402
  ·rw [if_pos c5] at H
   have LMc5 := Aside0.mk c5
   clear c5
   obtain ⟨y193, hy193⟩ : ∃ y_ : List (S74), y_ = (y187 ++ t190) := ⟨_, rfl⟩
   replace H : (some (y193, true)) = some (r1, r2) := by first | (rw [hy193]; with_reducible exact H) | (have H2_ := (Option.bind_some _ _).symm.trans H; rw [hy193]; with_reducible exact H2_) | (have H2_ := (Option.bind_some _ _).symm.trans H; with_reducible exact H2_) | with_reducible exact H | (rw [hy193]; exact H) | exact H
   have Ny193 := Aside0.mk hy193
   clear hy193
   simp only [Option.some.injEq, Prod.mk.injEq] at H
   obtain ⟨rfl, rfl⟩ := H
   go_enter Try.func49, Try.ntmps49
   go_wp2_with (first | ((with_reducible refine gate_callee (f := 16) rfl ?_); refine goesL_ (some 5) rfl rfl Try.func16 (by kernel_rfl) rfl #[.slice A0 l0.length c0] rfl (by (try simp only [List.map_toArray, List.map_cons, List.map_nil]); first | done | rfl | (simp only [List.length_drop, List.length_take]; rfl)) ?_; (with_reducible refine (spec_SchemaOk.calls k _ _ l0 true _ ?side1 ?side2 A2.out).mono ?_); (case side1 => repeat (first | exact HR0.out | (with_reducible refine Kd.C_alloc ?_ _) | (with_reducible refine Kd.C_drewN ?_ _) | (with_reducible refine Kd.C_drew ?_))); (case side2 => exact HC0.out); rintro e w6 ⟨rfl, hb⟩; refine ⟨_, rfl, ?_⟩; have n0_ := Aside0.mk (below_step (by repeat (first | (with_reducible first | exact HB.out | apply below_alloc | apply pw_below_drewN | apply below_drew1) | exact HB.out)) hb); clear HB; have HB := n0_; clear n0_; (try clear hb); (try clear hb2); (try clear hk); (try clear hi)) | ((with_reducible refine gate_dst (N := 9) rfl ?_); refine Kd.R_lit k74 _ 74 ?hg (N := 9) ?hd (xs := ([(⟨12, 0, 0, (⟨#[]⟩ : ByteArray), 1⟩ : S74)] : List (S74))) (inner := [.int .i64 12, .int .i64 0, .int .i64 0, .string (⟨#[]⟩ : ByteArray), .int .i64 1]) (ok := fun _ => True) (okp := fun _ => True) ?hr ?hp (fun _ hk => hk) trivial (Below.refl _ _) (Nat.le_refl _) (by simp) ?_; (case hd => rfl); (case hg => rfl); (case hr => first | (go_simp; done) | (go_simp; rfl)); (case hp => exact (Reps.c5 (show Kd.M k74 _ _ _ (⟨12, 0, 0, (⟨#[]⟩ : ByteArray), 1⟩ : S74) [.int .i64 12, .int .i64 0, .int .i64 0, .string (⟨#[]⟩ : ByteArray), .int .i64 1] from (k74_mkM _ _ _ (⟨12, 0, 0, (⟨#[]⟩ : ByteArray), 1⟩ : S74) )) (Reps.none _ _))); intro v188 w7 ho8 hb hg_ hnew_; clear hg_ hnew_; (first | rw [← Ny187.out] at ho8 | (simp only [Int.reduceToNat] at ho8; rw [← Ny187.out] at ho8)); have n0_ := Aside0.mk (Kd.R_lower ho8 (below_size (by repeat (first | (with_reducible first | exact HB.out | apply below_alloc | apply pw_below_drewN | apply below_drew1) | exact HB.out)))); have n1_ := Aside0.mk (below_step (by repeat (first | (with_reducible first | exact HB.out | apply below_alloc | apply pw_below_drewN | apply below_drew1) | exact HB.out)) hb); clear HB; have HO189 := n0_; have HB := n1_; clear n0_ n1_; clear hb ho8) | ((with_reducible refine gate_callee (f := 84) rfl ?_); refine goesL_ (some 11) rfl rfl Try.func84 (by kernel_rfl) rfl #[.slice A0 l0.length c0, .int .i64 2] rfl (by (try simp only [List.map_toArray, List.map_cons, List.map_nil]); first | done | rfl | (simp only [List.length_drop, List.length_take]; rfl)) ?_; (with_reducible refine (spec_l5Nodes.calls k _ _ l0 2 t190 _ ?side1 ?side2 A4.out).mono ?_); (case side1 => repeat (first | exact (Kd.C_below HR0.out HB.out) | (with_reducible refine Kd.C_alloc ?_ _) | (with_reducible refine Kd.C_drewN ?_ _) | (with_reducible refine Kd.C_drew ?_))); (case side2 => exact HC0.out); rintro e w9 ⟨v191, rfl, ho0, hb⟩; refine ⟨_, rfl, ?_⟩; have n0_ := Aside0.mk (Kd.R_elder' (by (with_reducible repeat (first | apply Kd.R_alloc | apply Kd.R_drewN | apply Kd.R_drew)); exact HO189.out) (Kd.R_base ho0) hb); have n1_ := Aside0.mk (Kd.R_lower (Kd.R_new' ho0 (Kd.R_lt (by (with_reducible repeat (first | apply Kd.R_alloc | apply Kd.R_drewN | apply Kd.R_drew)); exact HO189.out))) (below_size (by repeat (first | (with_reducible first | exact HB.out | apply below_alloc | apply pw_below_drewN | apply below_drew1) | exact HB.out)))); have n2_ := Aside0.mk (below_step (by repeat (first | (with_reducible first | exact HB.out | apply below_alloc | apply pw_below_drewN | apply below_drew1) | exact HB.out)) hb); clear HO189; clear HB; have HO189 := n0_; have HO192 := n1_; have HB := n2_; clear n0_ n1_ n2_; (try clear hb); (try clear hb2); (try clear hk); (try clear hi); (try clear ho0); obtain ⟨Ao11, co11, eo11⟩ := Kd.R_slice HO192.out; subst eo11) | ((with_reducible refine gate_builtin (b := .append) (xs := #[.tmp 9, .tmp 11]) rfl ?_); at_builtin; refine Kd.R_append_rows k74 (w0 := w) w.heap.size rfl (.tmp 9) (.tmp 11) 34 74 (.agg #[(.int .i64 0), (.int .i64 0), (.int .i64 0), (.string ⟨#[]⟩), (.int .i64 0)]) 48 rfl Try.underlying34 info74 rfl (by decide) (by omega) v188 y187 t190 _ _ _ (fun k_ => some k_ ≠ (.slice Ao11 t190.length co11 : Value).ownBlock) (fun _ => False) rfl rfl ?aO ?aR (fun _ _ h => h) (fun _ h => h.elim) ?aF ?aB ?aS ?aL ?_; (case aR => repeat (first | exact (Kd.R_reads' HO192.out).2.2 | (with_reducible refine Kd.C_alloc ?_ _) | (with_reducible refine Kd.C_drewN ?_ _) | (with_reducible refine Kd.C_drew ?_))); (case aB => exact (by repeat (first | (with_reducible first | exact HB.out | apply below_alloc | apply pw_below_drewN | apply below_drew1) | exact HB.out))); (case aF => exact (fun k_ hk => Kd.fresh' (Kd.R_lt (by (with_reducible repeat (first | apply Kd.R_alloc | apply Kd.R_drewN | apply Kd.R_drew)); exact HO192.out)) k_ hk)); (case aO => exact (by (with_reducible repeat (first | apply Kd.R_alloc | apply Kd.R_drewN | apply Kd.R_drew)); exact Kd.R_mono HO189.out (fun _ hk => hk.2))); (case aS => exact (below_size (by repeat (first | (with_reducible first | exact HB.out | apply below_alloc | apply pw_below_drewN | apply below_drew1) | exact HB.out)))); (case aL => have := LMc5.out; omega); intro v194 w10 ho hb hg hat; rw [← Ny193.out] at ho; have n0_ := Aside0.mk (Kd.R_after (ok := (fun _ => True)) (by (with_reducible repeat (first | apply Kd.R_alloc | apply Kd.R_drewN | apply Kd.R_drew)); exact HO192.out) hg hat); have n1_ := Aside0.mk (hb); have n2_ := Aside0.mk (ho); clear HO192; clear HB; clear HO189; have HO192 := n0_; have HB := n1_; have HO195 := n2_; clear n0_ n1_ n2_; clear ho hb hg hat))
   go_ret2
   exact ⟨_, by first | rfl | (simp [errW_none, errW_some] <;> rfl) | (simp [*, errW_none, errW_some] <;> rfl) | (exfalso; simp only [Bool.not_eq_true', Bool.not_eq_false', decide_eq_false_iff_not, decide_eq_true_eq, decide_eq_decide, Int.not_lt, Int.not_le] at *; omega), by (with_reducible repeat (first | apply Kd.R_alloc | apply Kd.R_drewN | apply Kd.R_drew)); exact Kd.R_mono HO195.out (fun _ hk => trivial), by repeat (first | (with_reducible first | exact HB.out | apply below_alloc | apply pw_below_drewN | apply below_drew1) | exact HB.out)⟩
  ·rw [if_neg c5] at H
   exact absurd H (by simp)
 ·replace c3 := Bool.eq_false_iff.mpr c3
  subst c3
  have H1 : (some ((([] : List (S74))), false)) = some (r1, r2) := by rw [if_neg (show ¬ (false = true) by decide)] at H; exact H
  clear H
  have H := H1
  clear H1
  obtain ⟨y196, hy196⟩ : ∃ y_ : List (S74), y_ = (([] : List (S74))) := ⟨_, rfl⟩
  replace H : (some (y196, false)) = some (r1, r2) := by first | (rw [hy196]; with_reducible exact H) | (have H2_ := (Option.bind_some _ _).symm.trans H; rw [hy196]; with_reducible exact H2_) | (have H2_ := (Option.bind_some _ _).symm.trans H; with_reducible exact H2_) | with_reducible exact H | (rw [hy196]; exact H) | exact H
  have Ny196 := Aside0.mk hy196
  clear hy196
  simp only [Option.some.injEq, Prod.mk.injEq] at H
  obtain ⟨rfl, rfl⟩ := H
  go_enter Try.func49, Try.ntmps49
  go_wp2_with (first | ((with_reducible refine gate_callee (f := 16) rfl ?_); refine goesL_ (some 5) rfl rfl Try.func16 (by kernel_rfl) rfl #[.slice A0 l0.length c0] rfl (by (try simp only [List.map_toArray, List.map_cons, List.map_nil]); first | done | rfl | (simp only [List.length_drop, List.length_take]; rfl)) ?_; (with_reducible refine (spec_SchemaOk.calls k _ _ l0 false _ ?side1 ?side2 A2.out).mono ?_); (case side1 => repeat (first | exact HR0.out | (with_reducible refine Kd.C_alloc ?_ _) | (with_reducible refine Kd.C_drewN ?_ _) | (with_reducible refine Kd.C_drew ?_))); (case side2 => exact HC0.out); rintro e w12 ⟨rfl, hb⟩; refine ⟨_, rfl, ?_⟩; have n0_ := Aside0.mk (below_step (by repeat (first | (with_reducible first | exact HB.out | apply below_alloc | apply pw_below_drewN | apply below_drew1) | exact HB.out)) hb); clear HB; have HB := n0_; clear n0_; (try clear hb); (try clear hb2); (try clear hk); (try clear hi)) | ((with_reducible refine gate_dst (N := 7) rfl ?_); refine Kd.R_lit k74 _ 74 ?hg (N := 7) ?hd (xs := ([] : List (S74))) (inner := []) (ok := fun _ => True) (okp := fun _ => True) ?hr ?hp (fun _ hk => hk) trivial (Below.refl _ _) (Nat.le_refl _) (by simp) ?_; (case hd => rfl); (case hg => rfl); (case hr => first | (go_simp; done) | (go_simp; rfl)); (case hp => exact (Reps.none _ _)); intro v197 w13 ho14 hb hg_ hnew_; clear hg_ hnew_; (first | rw [← Ny196.out] at ho14 | (simp only [Int.reduceToNat] at ho14; rw [← Ny196.out] at ho14)); have n0_ := Aside0.mk (Kd.R_lower ho14 (below_size (by repeat (first | (with_reducible first | exact HB.out | apply below_alloc | apply pw_below_drewN | apply below_drew1) | exact HB.out)))); have n1_ := Aside0.mk (below_step (by repeat (first | (with_reducible first | exact HB.out | apply below_alloc | apply pw_below_drewN | apply below_drew1) | exact HB.out)) hb); clear HB; have HO198 := n0_; have HB := n1_; clear n0_ n1_; clear hb ho14))
  go_ret2
  exact ⟨_, by first | rfl | (simp [errW_none, errW_some] <;> rfl) | (simp [*, errW_none, errW_some] <;> rfl) | (exfalso; simp only [Bool.not_eq_true', Bool.not_eq_false', decide_eq_false_iff_not, decide_eq_true_eq, decide_eq_decide, Int.not_lt, Int.not_le] at *; omega), by (with_reducible repeat (first | apply Kd.R_alloc | apply Kd.R_drewN | apply Kd.R_drew)); exact HO198.out, by repeat (first | (with_reducible first | exact HB.out | apply below_alloc | apply pw_below_drewN | apply below_drew1) | exact HB.out)⟩

def impl_within.f (a0 : Int) (a1 : Int) (a2 : Int) : Option (Bool) := if a0 ≥ a1 then (some (decide (a0 ≤ a2))) else (some false)
set_option maxHeartbeats 8000000 in
set_option maxRecDepth 100000 in
theorem impl_within.calls (a0 : Int) (a1 : Int) (a2 : Int) (r : Bool) (w : World) (h : impl_within.f a0 a1 a2 = some r) :
  Calls Try.prog 62 #[.int .i64 a0, .int .i64 a1, .int .i64 a2] w fun e w' => e = .returned (.bool r) ∧ Drawn0 w w' := by
 have H : (if a0 ≥ a1 then (some (decide (a0 ≤ a2))) else (some false)) = some r := h
 clear h
 by_cases c4 : a0 ≥ a1
 ·rw [if_pos c4] at H
  have c4b0 : decide (a1 ≤ a0) = true := decide_eq_true c4
  clear c4
  obtain rfl := Option.some.inj H
  go_enter Try.func62, Try.ntmps62
  go_wp2
  go_ret
  exact ⟨by first | rfl | (simp; done) | (simp [*]; done), by repeat (first | exact Drawn0.refl _ | apply Drawn0.step)⟩
 ·rw [if_neg c4] at H
  have c4b0 : decide (a1 ≤ a0) = false := decide_eq_false c4
  clear c4
  obtain rfl := Option.some.inj H
  go_enter Try.func62, Try.ntmps62
  go_wp2
  go_ret
  exact ⟨by first | rfl | (simp; done) | (simp [*]; done), by repeat (first | exact Drawn0.refl _ | apply Drawn0.step)⟩

def impl_TypeOk.f (a0 : Int) : Option (Bool) := (impl_within.f a0 0 2).bind fun t199 => (if t199 = true then (some true) else (if a0 = 5 then (some true) else (some (a0 == 6))))
set_option maxHeartbeats 8000000 in
set_option maxRecDepth 100000 in
theorem impl_TypeOk.calls (a0 : Int) (r : Bool) (w : World) (h : impl_TypeOk.f a0 = some r) :
  Calls Try.prog 106 #[.int .i64 a0] w fun e w' => e = .returned (.bool r) ∧ Drawn0 w w' := by
 have H : ((impl_within.f a0 0 2).bind fun t199 => (if t199 = true then (some true) else (if a0 = 5 then (some true) else (some (a0 == 6))))) = some r := h
 clear h
 replace H := Option.bind_eq_some_iff.mp H
 obtain ⟨t199, A20, H⟩ := H
 replace H : (if t199 = true then (some true) else (if a0 = 5 then (some true) else (some (a0 == 6)))) = some r := H
 have A2 := Aside0.mk A20
 clear A20
 by_cases c3 : t199 = true
 ·subst c3
  have H1 : (some true) = some r := by rw [if_pos rfl] at H; exact H
  clear H
  have H := H1
  clear H1
  obtain rfl := Option.some.inj H
  go_enter Try.func106, Try.ntmps106
  go_wp2_with (first | ((with_reducible refine gate_callee (f := 62) rfl ?_); refine goesL_ (some 4) rfl rfl Try.func62 (by kernel_rfl) rfl #[.int .i64 a0, .int .i64 0, .int .i64 2] rfl (by (try simp only [List.map_toArray, List.map_cons, List.map_nil]); first | done | rfl | (simp only [List.length_drop, List.length_take]; rfl)) ?_; (with_reducible refine (impl_within.calls a0 0 2 true _ A2.out).mono ?_); rintro e w' ⟨rfl, ⟨nd, rfl⟩⟩; refine ⟨_, rfl, ?_⟩))
  go_ret
  exact ⟨by first | rfl | (simp; done) | (simp [*]; done), by repeat (first | exact Drawn0.refl _ | apply Drawn0.step)⟩
 ·replace c3 := Bool.eq_false_iff.mpr c3
  subst c3
  have H1 : (if a0 = 5 then (some true) else (some (a0 == 6))) = some r := by rw [if_neg (show ¬ (false = true) by decide)] at H; exact H
  clear H
  have H := H1
  clear H1
  by_cases c4 : a0 = 5
  ·rw [if_pos c4] at H
   have c4b0 : (a0 == 5) = true := beq_iff_eq.mpr c4
   have c4b1 : (a0 != 5) = false := bne_eq_false_iff_eq.mpr c4
   clear c4
   obtain rfl := Option.some.inj H
   go_enter Try.func106, Try.ntmps106
   go_wp2_with (first | ((with_reducible refine gate_callee (f := 62) rfl ?_); refine goesL_ (some 4) rfl rfl Try.func62 (by kernel_rfl) rfl #[.int .i64 a0, .int .i64 0, .int .i64 2] rfl (by (try simp only [List.map_toArray, List.map_cons, List.map_nil]); first | done | rfl | (simp only [List.length_drop, List.length_take]; rfl)) ?_; (with_reducible refine (impl_within.calls a0 0 2 false _ A2.out).mono ?_); rintro e w' ⟨rfl, ⟨nd, rfl⟩⟩; refine ⟨_, rfl, ?_⟩))
   go_ret
   exact ⟨by first | rfl | (simp; done) | (simp [*]; done), by repeat (first | exact Drawn0.refl _ | apply Drawn0.step)⟩
  ·rw [if_neg c4] at H
   have c4b0 : (a0 == 5) = false := beq_eq_false_iff_ne.mpr c4
   have c4b1 : (a0 != 5) = true := bne_iff_ne.mpr c4
   obtain rfl := Option.some.inj H
   go_enter Try.func106, Try.ntmps106
   go_wp2_with (first | ((with_reducible refine gate_callee (f := 62) rfl ?_); refine goesL_ (some 4) rfl rfl Try.func62 (by kernel_rfl) rfl #[.int .i64 a0, .int .i64 0, .int .i64 2] rfl (by (try simp only [List.map_toArray, List.map_cons, List.map_nil]); first | done | rfl | (simp only [List.length_drop, List.length_take]; rfl)) ?_; (with_reducible refine (impl_within.calls a0 0 2 false _ A2.out).mono ?_); rintro e w' ⟨rfl, ⟨nd, rfl⟩⟩; refine ⟨_, rfl, ?_⟩))
   go_ret
   exact ⟨by first | rfl | (simp; done) | (simp [*]; done), by repeat (first | exact Drawn0.refl _ | apply Drawn0.step)⟩

def impl_colOk.f (a0_0 : ByteArray) (a0_1 : Int) (a0_2 : Int) (a0_3 : Int) : Option (Bool) := if a0_1 = 7 then ((impl_TypeOk.f a0_1).bind fun t201 => (if t201 = true then (if a0_3 > 0 then ((impl_within.f a0_2 0 2).bind fun t202 => (some t202)) else (if a0_3 = 0 then ((impl_within.f a0_2 0 2).bind fun t203 => (some t203)) else (some false))) else (if a0_3 > 0 then ((impl_within.f a0_2 0 2).bind fun t204 => (some t204)) else (some false)))) else ((impl_TypeOk.f a0_1).bind fun t205 => (if t205 = true then (if a0_3 = 0 then ((impl_within.f a0_2 0 2).bind fun t206 => (some t206)) else (some false)) else (some false)))
set_option maxHeartbeats 8000000 in
set_option maxRecDepth 100000 in
theorem impl_colOk.calls (a0_0 : ByteArray) (a0_1 : Int) (a0_2 : Int) (a0_3 : Int) (r : Bool) (w : World) (h : impl_colOk.f a0_0 a0_1 a0_2 a0_3 = some r) :
  Calls Try.prog 91 #[.agg #[.string a0_0, .int .i64 a0_1, .int .i64 a0_2, .int .i64 a0_3]] w fun e w' => e = .returned (.bool r) ∧ Below w.heap.size w w' := by
 have hu56 := Try.underlying56
 have HB := Aside0.mk (Below.refl w.heap.size w)
 have H : (if a0_1 = 7 then ((impl_TypeOk.f a0_1).bind fun t201 => (if t201 = true then (if a0_3 > 0 then ((impl_within.f a0_2 0 2).bind fun t202 => (some t202)) else (if a0_3 = 0 then ((impl_within.f a0_2 0 2).bind fun t203 => (some t203)) else (some false))) else (if a0_3 > 0 then ((impl_within.f a0_2 0 2).bind fun t204 => (some t204)) else (some false)))) else ((impl_TypeOk.f a0_1).bind fun t205 => (if t205 = true then (if a0_3 = 0 then ((impl_within.f a0_2 0 2).bind fun t206 => (some t206)) else (some false)) else (some false)))) = some r := h
 clear h
 by_cases c2 : a0_1 = 7
 ·rw [if_pos c2] at H
  have c2b0 : (a0_1 == 7) = true := beq_iff_eq.mpr c2
  have c2b1 : (a0_1 != 7) = false := bne_eq_false_iff_eq.mpr c2
  clear c2
  replace H := Option.bind_eq_some_iff.mp H
  obtain ⟨t201, A30, H⟩ := H
  replace H : (if t201 = true then (if a0_3 > 0 then ((impl_within.f a0_2 0 2).bind fun t202 => (some t202)) else (if a0_3 = 0 then ((impl_within.f a0_2 0 2).bind fun t203 => (some t203)) else (some false))) else (if a0_3 > 0 then ((impl_within.f a0_2 0 2).bind fun t204 => (some t204)) else (some false))) = some r := H
  have A3 := Aside0.mk A30
  clear A30
  by_cases c4 : t201 = true
  ·subst c4
   have H1 : (if a0_3 > 0 then ((impl_within.f a0_2 0 2).bind fun t202 => (some t202)) else (if a0_3 = 0 then ((impl_within.f a0_2 0 2).bind fun t203 => (some t203)) else (some false))) = some r := by rw [if_pos rfl] at H; exact H
   clear H
   have H := H1
   clear H1
   by_cases c5 : a0_3 > 0
   ·rw [if_pos c5] at H
    have c5b0 : decide (0 < a0_3) = true := decide_eq_true c5
    clear c5
    replace H := Option.bind_eq_some_iff.mp H
    obtain ⟨t202, A60, H⟩ := H
    replace H : (some t202) = some r := H
    have A6 := Aside0.mk A60
    clear A60
    obtain rfl := Option.some.inj H
    go_enter Try.func91, Try.ntmps91
    go_wp2_with (first | ((with_reducible refine gate_dst (N := 1) rfl ?_); refine box_event ?hg (N := 1) ?hd (cs := #[.string a0_0, .int .i64 a0_1, .int .i64 a0_2, .int .i64 a0_3]) (t := 56) ?hr ?_; (case hd => rfl); (case hg => rfl); (case hr => first | (go_simp; done) | (go_simp; rfl)); intro gb200 hg w7 hbox hb; have n0_ := Aside0.mk (below_step (by repeat (first | (with_reducible first | exact HB.out | apply below_alloc | apply pw_below_drewN | apply below_drew1) | exact HB.out)) hb); have n1_ := Aside0.mk (hbox); have n2_ := Aside0.mk ((by rw [hg]; exact (below_size (by repeat (first | (with_reducible first | exact HB.out | apply below_alloc | apply pw_below_drewN | apply below_drew1) | exact HB.out))) : w.heap.size ≤ gb200)); have n3_ := Aside0.mk ((by rw [hg]; exact (below_size (by repeat (first | (with_reducible first | exact HB.out | apply below_alloc | apply pw_below_drewN | apply below_drew1) | exact HB.out))) : w.heap.size ≤ gb200)); clear HB; have HB := n0_; have BK200 := n1_; have GW200 := n2_; have GE200 := n3_; clear n0_ n1_ n2_ n3_; clear hb hbox hg; have hcz8_0 : w7.cell? ⟨gb200, 0, none⟩ = some (.string a0_0) := (blk_cell BK200.out 0).trans rfl; have hcz8_1 : w7.cell? ⟨gb200, 1, none⟩ = some (.int .i64 a0_1) := (blk_cell BK200.out 1).trans rfl; have hcz8_2 : w7.cell? ⟨gb200, 2, none⟩ = some (.int .i64 a0_2) := (blk_cell BK200.out 2).trans rfl; have hcz8_3 : w7.cell? ⟨gb200, 3, none⟩ = some (.int .i64 a0_3) := (blk_cell BK200.out 3).trans rfl; have hfz8_0 := blk_frozen BK200.out 0; have hfz8_1 := blk_frozen BK200.out 1; have hfz8_2 := blk_frozen BK200.out 2; have hfz8_3 := blk_frozen BK200.out 3) | ((with_reducible refine gate_callee (f := 106) rfl ?_); refine goesL_ (some 15) rfl rfl Try.func106 (by kernel_rfl) rfl #[.int .i64 a0_1] rfl (by (try simp only [List.map_toArray, List.map_cons, List.map_nil]); first | done | rfl | (simp only [List.length_drop, List.length_take]; rfl)) ?_; (with_reducible refine (impl_TypeOk.calls a0_1 true _ A3.out).mono ?_); rintro e w' ⟨rfl, ⟨nd, rfl⟩⟩; refine ⟨_, rfl, ?_⟩) | (go_at_call 62; (with_reducible refine (impl_within.calls a0_2 0 2 t202 _ A6.out).mono ?_); rintro e w' ⟨rfl, ⟨nd, rfl⟩⟩))
    go_ret
    exact ⟨by first | rfl | (simp [errW_none, errW_some] <;> rfl) | (simp [*, errW_none, errW_some] <;> rfl) | (exfalso; simp only [Bool.not_eq_true', Bool.not_eq_false', decide_eq_false_iff_not, decide_eq_true_eq, decide_eq_decide, Int.not_lt, Int.not_le] at *; omega), by repeat (first | (with_reducible first | exact HB.out | apply below_alloc | apply pw_below_drewN | apply below_drew1 | refine below_set ?_ GE200.out) | exact HB.out)⟩
   ·rw [if_neg c5] at H
    have c5b0 : decide (0 < a0_3) = false := decide_eq_false c5
    clear c5
    by_cases c9 : a0_3 = 0
    ·rw [if_pos c9] at H
     have c9b0 : (a0_3 == 0) = true := beq_iff_eq.mpr c9
     have c9b1 : (a0_3 != 0) = false := bne_eq_false_iff_eq.mpr c9
     clear c9
     replace H := Option.bind_eq_some_iff.mp H
     obtain ⟨t203, A100, H⟩ := H
     replace H : (some t203) = some r := H
     have A10 := Aside0.mk A100
     clear A100
     obtain rfl := Option.some.inj H
     go_enter Try.func91, Try.ntmps91
     go_wp2_with (first | ((with_reducible refine gate_dst (N := 1) rfl ?_); refine box_event ?hg (N := 1) ?hd (cs := #[.string a0_0, .int .i64 a0_1, .int .i64 a0_2, .int .i64 a0_3]) (t := 56) ?hr ?_; (case hd => rfl); (case hg => rfl); (case hr => first | (go_simp; done) | (go_simp; rfl)); intro gb200 hg w11 hbox hb; have n0_ := Aside0.mk (below_step (by repeat (first | (with_reducible first | exact HB.out | apply below_alloc | apply pw_below_drewN | apply below_drew1) | exact HB.out)) hb); have n1_ := Aside0.mk (hbox); have n2_ := Aside0.mk ((by rw [hg]; exact (below_size (by repeat (first | (with_reducible first | exact HB.out | apply below_alloc | apply pw_below_drewN | apply below_drew1) | exact HB.out))) : w.heap.size ≤ gb200)); have n3_ := Aside0.mk ((by rw [hg]; exact (below_size (by repeat (first | (with_reducible first | exact HB.out | apply below_alloc | apply pw_below_drewN | apply below_drew1) | exact HB.out))) : w.heap.size ≤ gb200)); clear HB; have HB := n0_; have BK200 := n1_; have GW200 := n2_; have GE200 := n3_; clear n0_ n1_ n2_ n3_; clear hb hbox hg; have hcz12_0 : w11.cell? ⟨gb200, 0, none⟩ = some (.string a0_0) := (blk_cell BK200.out 0).trans rfl; have hcz12_1 : w11.cell? ⟨gb200, 1, none⟩ = some (.int .i64 a0_1) := (blk_cell BK200.out 1).trans rfl; have hcz12_2 : w11.cell? ⟨gb200, 2, none⟩ = some (.int .i64 a0_2) := (blk_cell BK200.out 2).trans rfl; have hcz12_3 : w11.cell? ⟨gb200, 3, none⟩ = some (.int .i64 a0_3) := (blk_cell BK200.out 3).trans rfl; have hfz12_0 := blk_frozen BK200.out 0; have hfz12_1 := blk_frozen BK200.out 1; have hfz12_2 := blk_frozen BK200.out 2; have hfz12_3 := blk_frozen BK200.out 3) | ((with_reducible refine gate_callee (f := 106) rfl ?_); refine goesL_ (some 15) rfl rfl Try.func106 (by kernel_rfl) rfl #[.int .i64 a0_1] rfl (by (try simp only [List.map_toArray, List.map_cons, List.map_nil]); first | done | rfl | (simp only [List.length_drop, List.length_take]; rfl)) ?_; (with_reducible refine (impl_TypeOk.calls a0_1 true _ A3.out).mono ?_); rintro e w' ⟨rfl, ⟨nd, rfl⟩⟩; refine ⟨_, rfl, ?_⟩) | (go_at_call 62; (with_reducible refine (impl_within.calls a0_2 0 2 t203 _ A10.out).mono ?_); rintro e w' ⟨rfl, ⟨nd, rfl⟩⟩))
     go_ret
     exact ⟨by first | rfl | (simp [errW_none, errW_some] <;> rfl) | (simp [*, errW_none, errW_some] <;> rfl) | (exfalso; simp only [Bool.not_eq_true', Bool.not_eq_false', decide_eq_false_iff_not, decide_eq_true_eq, decide_eq_decide, Int.not_lt, Int.not_le] at *; omega), by repeat (first | (with_reducible first | exact HB.out | apply below_alloc | apply pw_below_drewN | apply below_drew1 | refine below_set ?_ GE200.out) | exact HB.out)⟩
    ·rw [if_neg c9] at H
     have c9b0 : (a0_3 == 0) = false := beq_eq_false_iff_ne.mpr c9
     have c9b1 : (a0_3 != 0) = true := bne_iff_ne.mpr c9
     obtain rfl := Option.some.inj H
     go_enter Try.func91, Try.ntmps91
     go_wp2_with (first | ((with_reducible refine gate_dst (N := 1) rfl ?_); refine box_event ?hg (N := 1) ?hd (cs := #[.string a0_0, .int .i64 a0_1, .int .i64 a0_2, .int .i64 a0_3]) (t := 56) ?hr ?_; (case hd => rfl); (case hg => rfl); (case hr => first | (go_simp; done) | (go_simp; rfl)); intro gb200 hg w13 hbox hb; have n0_ := Aside0.mk (below_step (by repeat (first | (with_reducible first | exact HB.out | apply below_alloc | apply pw_below_drewN | apply below_drew1) | exact HB.out)) hb); have n1_ := Aside0.mk (hbox); have n2_ := Aside0.mk ((by rw [hg]; exact (below_size (by repeat (first | (with_reducible first | exact HB.out | apply below_alloc | apply pw_below_drewN | apply below_drew1) | exact HB.out))) : w.heap.size ≤ gb200)); have n3_ := Aside0.mk ((by rw [hg]; exact (below_size (by repeat (first | (with_reducible first | exact HB.out | apply below_alloc | apply pw_below_drewN | apply below_drew1) | exact HB.out))) : w.heap.size ≤ gb200)); clear HB; have HB := n0_; have BK200 := n1_; have GW200 := n2_; have GE200 := n3_; clear n0_ n1_ n2_ n3_; clear hb hbox hg; have hcz14_0 : w13.cell? ⟨gb200, 0, none⟩ = some (.string a0_0) := (blk_cell BK200.out 0).trans rfl; have hcz14_1 : w13.cell? ⟨gb200, 1, none⟩ = some (.int .i64 a0_1) := (blk_cell BK200.out 1).trans rfl; have hcz14_2 : w13.cell? ⟨gb200, 2, none⟩ = some (.int .i64 a0_2) := (blk_cell BK200.out 2).trans rfl; have hcz14_3 : w13.cell? ⟨gb200, 3, none⟩ = some (.int .i64 a0_3) := (blk_cell BK200.out 3).trans rfl; have hfz14_0 := blk_frozen BK200.out 0; have hfz14_1 := blk_frozen BK200.out 1; have hfz14_2 := blk_frozen BK200.out 2; have hfz14_3 := blk_frozen BK200.out 3) | ((with_reducible refine gate_callee (f := 106) rfl ?_); refine goesL_ (some 15) rfl rfl Try.func106 (by kernel_rfl) rfl #[.int .i64 a0_1] rfl (by (try simp only [List.map_toArray, List.map_cons, List.map_nil]); first | done | rfl | (simp only [List.length_drop, List.length_take]; rfl)) ?_; (with_reducible refine (impl_TypeOk.calls a0_1 true _ A3.out).mono ?_); rintro e w' ⟨rfl, ⟨nd, rfl⟩⟩; refine ⟨_, rfl, ?_⟩))
     go_ret
     exact ⟨by first | rfl | (simp [errW_none, errW_some] <;> rfl) | (simp [*, errW_none, errW_some] <;> rfl) | (exfalso; simp only [Bool.not_eq_true', Bool.not_eq_false', decide_eq_false_iff_not, decide_eq_true_eq, decide_eq_decide, Int.not_lt, Int.not_le] at *; omega), by repeat (first | (with_reducible first | exact HB.out | apply below_alloc | apply pw_below_drewN | apply below_drew1 | refine below_set ?_ GE200.out) | exact HB.out)⟩
  ·replace c4 := Bool.eq_false_iff.mpr c4
   subst c4
   have H1 : (if a0_3 > 0 then ((impl_within.f a0_2 0 2).bind fun t204 => (some t204)) else (some false)) = some r := by rw [if_neg (show ¬ (false = true) by decide)] at H; exact H
   clear H
   have H := H1
   clear H1
   by_cases c15 : a0_3 > 0
   ·rw [if_pos c15] at H
    have c15b0 : decide (0 < a0_3) = true := decide_eq_true c15
    clear c15
    replace H := Option.bind_eq_some_iff.mp H
    obtain ⟨t204, A160, H⟩ := H
    replace H : (some t204) = some r := H
    have A16 := Aside0.mk A160
    clear A160
    obtain rfl := Option.some.inj H
    go_enter Try.func91, Try.ntmps91
    go_wp2_with (first | ((with_reducible refine gate_dst (N := 1) rfl ?_); refine box_event ?hg (N := 1) ?hd (cs := #[.string a0_0, .int .i64 a0_1, .int .i64 a0_2, .int .i64 a0_3]) (t := 56) ?hr ?_; (case hd => rfl); (case hg => rfl); (case hr => first | (go_simp; done) | (go_simp; rfl)); intro gb200 hg w17 hbox hb; have n0_ := Aside0.mk (below_step (by repeat (first | (with_reducible first | exact HB.out | apply below_alloc | apply pw_below_drewN | apply below_drew1) | exact HB.out)) hb); have n1_ := Aside0.mk (hbox); have n2_ := Aside0.mk ((by rw [hg]; exact (below_size (by repeat (first | (with_reducible first | exact HB.out | apply below_alloc | apply pw_below_drewN | apply below_drew1) | exact HB.out))) : w.heap.size ≤ gb200)); have n3_ := Aside0.mk ((by rw [hg]; exact (below_size (by repeat (first | (with_reducible first | exact HB.out | apply below_alloc | apply pw_below_drewN | apply below_drew1) | exact HB.out))) : w.heap.size ≤ gb200)); clear HB; have HB := n0_; have BK200 := n1_; have GW200 := n2_; have GE200 := n3_; clear n0_ n1_ n2_ n3_; clear hb hbox hg; have hcz18_0 : w17.cell? ⟨gb200, 0, none⟩ = some (.string a0_0) := (blk_cell BK200.out 0).trans rfl; have hcz18_1 : w17.cell? ⟨gb200, 1, none⟩ = some (.int .i64 a0_1) := (blk_cell BK200.out 1).trans rfl; have hcz18_2 : w17.cell? ⟨gb200, 2, none⟩ = some (.int .i64 a0_2) := (blk_cell BK200.out 2).trans rfl; have hcz18_3 : w17.cell? ⟨gb200, 3, none⟩ = some (.int .i64 a0_3) := (blk_cell BK200.out 3).trans rfl; have hfz18_0 := blk_frozen BK200.out 0; have hfz18_1 := blk_frozen BK200.out 1; have hfz18_2 := blk_frozen BK200.out 2; have hfz18_3 := blk_frozen BK200.out 3) | ((with_reducible refine gate_callee (f := 106) rfl ?_); refine goesL_ (some 15) rfl rfl Try.func106 (by kernel_rfl) rfl #[.int .i64 a0_1] rfl (by (try simp only [List.map_toArray, List.map_cons, List.map_nil]); first | done | rfl | (simp only [List.length_drop, List.length_take]; rfl)) ?_; (with_reducible refine (impl_TypeOk.calls a0_1 false _ A3.out).mono ?_); rintro e w' ⟨rfl, ⟨nd, rfl⟩⟩; refine ⟨_, rfl, ?_⟩) | (go_at_call 62; (with_reducible refine (impl_within.calls a0_2 0 2 t204 _ A16.out).mono ?_); rintro e w' ⟨rfl, ⟨nd, rfl⟩⟩))
    go_ret
    exact ⟨by first | rfl | (simp [errW_none, errW_some] <;> rfl) | (simp [*, errW_none, errW_some] <;> rfl) | (exfalso; simp only [Bool.not_eq_true', Bool.not_eq_false', decide_eq_false_iff_not, decide_eq_true_eq, decide_eq_decide, Int.not_lt, Int.not_le] at *; omega), by repeat (first | (with_reducible first | exact HB.out | apply below_alloc | apply pw_below_drewN | apply below_drew1 | refine below_set ?_ GE200.out) | exact HB.out)⟩
   ·rw [if_neg c15] at H
    have c15b0 : decide (0 < a0_3) = false := decide_eq_false c15
    clear c15
    obtain rfl := Option.some.inj H
    go_enter Try.func91, Try.ntmps91
    go_wp2_with (first | ((with_reducible refine gate_dst (N := 1) rfl ?_); refine box_event ?hg (N := 1) ?hd (cs := #[.string a0_0, .int .i64 a0_1, .int .i64 a0_2, .int .i64 a0_3]) (t := 56) ?hr ?_; (case hd => rfl); (case hg => rfl); (case hr => first | (go_simp; done) | (go_simp; rfl)); intro gb200 hg w19 hbox hb; have n0_ := Aside0.mk (below_step (by repeat (first | (with_reducible first | exact HB.out | apply below_alloc | apply pw_below_drewN | apply below_drew1) | exact HB.out)) hb); have n1_ := Aside0.mk (hbox); have n2_ := Aside0.mk ((by rw [hg]; exact (below_size (by repeat (first | (with_reducible first | exact HB.out | apply below_alloc | apply pw_below_drewN | apply below_drew1) | exact HB.out))) : w.heap.size ≤ gb200)); have n3_ := Aside0.mk ((by rw [hg]; exact (below_size (by repeat (first | (with_reducible first | exact HB.out | apply below_alloc | apply pw_below_drewN | apply below_drew1) | exact HB.out))) : w.heap.size ≤ gb200)); clear HB; have HB := n0_; have BK200 := n1_; have GW200 := n2_; have GE200 := n3_; clear n0_ n1_ n2_ n3_; clear hb hbox hg; have hcz20_0 : w19.cell? ⟨gb200, 0, none⟩ = some (.string a0_0) := (blk_cell BK200.out 0).trans rfl; have hcz20_1 : w19.cell? ⟨gb200, 1, none⟩ = some (.int .i64 a0_1) := (blk_cell BK200.out 1).trans rfl; have hcz20_2 : w19.cell? ⟨gb200, 2, none⟩ = some (.int .i64 a0_2) := (blk_cell BK200.out 2).trans rfl; have hcz20_3 : w19.cell? ⟨gb200, 3, none⟩ = some (.int .i64 a0_3) := (blk_cell BK200.out 3).trans rfl; have hfz20_0 := blk_frozen BK200.out 0; have hfz20_1 := blk_frozen BK200.out 1; have hfz20_2 := blk_frozen BK200.out 2; have hfz20_3 := blk_frozen BK200.out 3) | ((with_reducible refine gate_callee (f := 106) rfl ?_); refine goesL_ (some 15) rfl rfl Try.func106 (by kernel_rfl) rfl #[.int .i64 a0_1] rfl (by (try simp only [List.map_toArray, List.map_cons, List.map_nil]); first | done | rfl | (simp only [List.length_drop, List.length_take]; rfl)) ?_; (with_reducible refine (impl_TypeOk.calls a0_1 false _ A3.out).mono ?_); rintro e w' ⟨rfl, ⟨nd, rfl⟩⟩; refine ⟨_, rfl, ?_⟩))
    go_ret
    exact ⟨by first | rfl | (simp [errW_none, errW_some] <;> rfl) | (simp [*, errW_none, errW_some] <;> rfl) | (exfalso; simp only [Bool.not_eq_true', Bool.not_eq_false', decide_eq_false_iff_not, decide_eq_true_eq, decide_eq_decide, Int.not_lt, Int.not_le] at *; omega), by repeat (first | (with_reducible first | exact HB.out | apply below_alloc | apply pw_below_drewN | apply below_drew1 | refine below_set ?_ GE200.out) | exact HB.out)⟩
 ·rw [if_neg c2] at H
  have c2b0 : (a0_1 == 7) = false := beq_eq_false_iff_ne.mpr c2
  have c2b1 : (a0_1 != 7) = true := bne_iff_ne.mpr c2
  replace H := Option.bind_eq_some_iff.mp H
  obtain ⟨t205, A210, H⟩ := H
  replace H : (if t205 = true then (if a0_3 = 0 then ((impl_within.f a0_2 0 2).bind fun t206 => (some t206)) else (some false)) else (some false)) = some r := H
  have A21 := Aside0.mk A210
  clear A210
  by_cases c22 : t205 = true
  ·subst c22
   have H1 : (if a0_3 = 0 then ((impl_within.f a0_2 0 2).bind fun t206 => (some t206)) else (some false)) = some r := by rw [if_pos rfl] at H; exact H
   clear H
   have H := H1
   clear H1
   by_cases c23 : a0_3 = 0
   ·rw [if_pos c23] at H
    have c23b0 : (a0_3 == 0) = true := beq_iff_eq.mpr c23
    have c23b1 : (a0_3 != 0) = false := bne_eq_false_iff_eq.mpr c23
    clear c23
    replace H := Option.bind_eq_some_iff.mp H
    obtain ⟨t206, A240, H⟩ := H
    replace H : (some t206) = some r := H
    have A24 := Aside0.mk A240
    clear A240
    obtain rfl := Option.some.inj H
    go_enter Try.func91, Try.ntmps91
    go_wp2_with (first | ((with_reducible refine gate_dst (N := 1) rfl ?_); refine box_event ?hg (N := 1) ?hd (cs := #[.string a0_0, .int .i64 a0_1, .int .i64 a0_2, .int .i64 a0_3]) (t := 56) ?hr ?_; (case hd => rfl); (case hg => rfl); (case hr => first | (go_simp; done) | (go_simp; rfl)); intro gb200 hg w25 hbox hb; have n0_ := Aside0.mk (below_step (by repeat (first | (with_reducible first | exact HB.out | apply below_alloc | apply pw_below_drewN | apply below_drew1) | exact HB.out)) hb); have n1_ := Aside0.mk (hbox); have n2_ := Aside0.mk ((by rw [hg]; exact (below_size (by repeat (first | (with_reducible first | exact HB.out | apply below_alloc | apply pw_below_drewN | apply below_drew1) | exact HB.out))) : w.heap.size ≤ gb200)); have n3_ := Aside0.mk ((by rw [hg]; exact (below_size (by repeat (first | (with_reducible first | exact HB.out | apply below_alloc | apply pw_below_drewN | apply below_drew1) | exact HB.out))) : w.heap.size ≤ gb200)); clear HB; have HB := n0_; have BK200 := n1_; have GW200 := n2_; have GE200 := n3_; clear n0_ n1_ n2_ n3_; clear hb hbox hg; have hcz26_0 : w25.cell? ⟨gb200, 0, none⟩ = some (.string a0_0) := (blk_cell BK200.out 0).trans rfl; have hcz26_1 : w25.cell? ⟨gb200, 1, none⟩ = some (.int .i64 a0_1) := (blk_cell BK200.out 1).trans rfl; have hcz26_2 : w25.cell? ⟨gb200, 2, none⟩ = some (.int .i64 a0_2) := (blk_cell BK200.out 2).trans rfl; have hcz26_3 : w25.cell? ⟨gb200, 3, none⟩ = some (.int .i64 a0_3) := (blk_cell BK200.out 3).trans rfl; have hfz26_0 := blk_frozen BK200.out 0; have hfz26_1 := blk_frozen BK200.out 1; have hfz26_2 := blk_frozen BK200.out 2; have hfz26_3 := blk_frozen BK200.out 3) | ((with_reducible refine gate_callee (f := 106) rfl ?_); refine goesL_ (some 15) rfl rfl Try.func106 (by kernel_rfl) rfl #[.int .i64 a0_1] rfl (by (try simp only [List.map_toArray, List.map_cons, List.map_nil]); first | done | rfl | (simp only [List.length_drop, List.length_take]; rfl)) ?_; (with_reducible refine (impl_TypeOk.calls a0_1 true _ A21.out).mono ?_); rintro e w' ⟨rfl, ⟨nd, rfl⟩⟩; refine ⟨_, rfl, ?_⟩) | (go_at_call 62; (with_reducible refine (impl_within.calls a0_2 0 2 t206 _ A24.out).mono ?_); rintro e w' ⟨rfl, ⟨nd, rfl⟩⟩))
    go_ret
    exact ⟨by first | rfl | (simp [errW_none, errW_some] <;> rfl) | (simp [*, errW_none, errW_some] <;> rfl) | (exfalso; simp only [Bool.not_eq_true', Bool.not_eq_false', decide_eq_false_iff_not, decide_eq_true_eq, decide_eq_decide, Int.not_lt, Int.not_le] at *; omega), by repeat (first | (with_reducible first | exact HB.out | apply below_alloc | apply pw_below_drewN | apply below_drew1 | refine below_set ?_ GE200.out) | exact HB.out)⟩
   ·rw [if_neg c23] at H
    have c23b0 : (a0_3 == 0) = false := beq_eq_false_iff_ne.mpr c23
    have c23b1 : (a0_3 != 0) = true := bne_iff_ne.mpr c23
    obtain rfl := Option.some.inj H
    go_enter Try.func91, Try.ntmps91
    go_wp2_with (first | ((with_reducible refine gate_dst (N := 1) rfl ?_); refine box_event ?hg (N := 1) ?hd (cs := #[.string a0_0, .int .i64 a0_1, .int .i64 a0_2, .int .i64 a0_3]) (t := 56) ?hr ?_; (case hd => rfl); (case hg => rfl); (case hr => first | (go_simp; done) | (go_simp; rfl)); intro gb200 hg w27 hbox hb; have n0_ := Aside0.mk (below_step (by repeat (first | (with_reducible first | exact HB.out | apply below_alloc | apply pw_below_drewN | apply below_drew1) | exact HB.out)) hb); have n1_ := Aside0.mk (hbox); have n2_ := Aside0.mk ((by rw [hg]; exact (below_size (by repeat (first | (with_reducible first | exact HB.out | apply below_alloc | apply pw_below_drewN | apply below_drew1) | exact HB.out))) : w.heap.size ≤ gb200)); have n3_ := Aside0.mk ((by rw [hg]; exact (below_size (by repeat (first | (with_reducible first | exact HB.out | apply below_alloc | apply pw_below_drewN | apply below_drew1) | exact HB.out))) : w.heap.size ≤ gb200)); clear HB; have HB := n0_; have BK200 := n1_; have GW200 := n2_; have GE200 := n3_; clear n0_ n1_ n2_ n3_; clear hb hbox hg; have hcz28_0 : w27.cell? ⟨gb200, 0, none⟩ = some (.string a0_0) := (blk_cell BK200.out 0).trans rfl; have hcz28_1 : w27.cell? ⟨gb200, 1, none⟩ = some (.int .i64 a0_1) := (blk_cell BK200.out 1).trans rfl; have hcz28_2 : w27.cell? ⟨gb200, 2, none⟩ = some (.int .i64 a0_2) := (blk_cell BK200.out 2).trans rfl; have hcz28_3 : w27.cell? ⟨gb200, 3, none⟩ = some (.int .i64 a0_3) := (blk_cell BK200.out 3).trans rfl; have hfz28_0 := blk_frozen BK200.out 0; have hfz28_1 := blk_frozen BK200.out 1; have hfz28_2 := blk_frozen BK200.out 2; have hfz28_3 := blk_frozen BK200.out 3) | ((with_reducible refine gate_callee (f := 106) rfl ?_); refine goesL_ (some 15) rfl rfl Try.func106 (by kernel_rfl) rfl #[.int .i64 a0_1] rfl (by (try simp only [List.map_toArray, List.map_cons, List.map_nil]); first | done | rfl | (simp only [List.length_drop, List.length_take]; rfl)) ?_; (with_reducible refine (impl_TypeOk.calls a0_1 true _ A21.out).mono ?_); rintro e w' ⟨rfl, ⟨nd, rfl⟩⟩; refine ⟨_, rfl, ?_⟩))
    go_ret
    exact ⟨by first | rfl | (simp [errW_none, errW_some] <;> rfl) | (simp [*, errW_none, errW_some] <;> rfl) | (exfalso; simp only [Bool.not_eq_true', Bool.not_eq_false', decide_eq_false_iff_not, decide_eq_true_eq, decide_eq_decide, Int.not_lt, Int.not_le] at *; omega), by repeat (first | (with_reducible first | exact HB.out | apply below_alloc | apply pw_below_drewN | apply below_drew1 | refine below_set ?_ GE200.out) | exact HB.out)⟩
  ·replace c22 := Bool.eq_false_iff.mpr c22
   subst c22
   have H1 : (some false) = some r := by rw [if_neg (show ¬ (false = true) by decide)] at H; exact H
   clear H
   have H := H1
   clear H1
   obtain rfl := Option.some.inj H
   go_enter Try.func91, Try.ntmps91
   go_wp2_with (first | ((with_reducible refine gate_dst (N := 1) rfl ?_); refine box_event ?hg (N := 1) ?hd (cs := #[.string a0_0, .int .i64 a0_1, .int .i64 a0_2, .int .i64 a0_3]) (t := 56) ?hr ?_; (case hd => rfl); (case hg => rfl); (case hr => first | (go_simp; done) | (go_simp; rfl)); intro gb200 hg w29 hbox hb; have n0_ := Aside0.mk (below_step (by repeat (first | (with_reducible first | exact HB.out | apply below_alloc | apply pw_below_drewN | apply below_drew1) | exact HB.out)) hb); have n1_ := Aside0.mk (hbox); have n2_ := Aside0.mk ((by rw [hg]; exact (below_size (by repeat (first | (with_reducible first | exact HB.out | apply below_alloc | apply pw_below_drewN | apply below_drew1) | exact HB.out))) : w.heap.size ≤ gb200)); have n3_ := Aside0.mk ((by rw [hg]; exact (below_size (by repeat (first | (with_reducible first | exact HB.out | apply below_alloc | apply pw_below_drewN | apply below_drew1) | exact HB.out))) : w.heap.size ≤ gb200)); clear HB; have HB := n0_; have BK200 := n1_; have GW200 := n2_; have GE200 := n3_; clear n0_ n1_ n2_ n3_; clear hb hbox hg; have hcz30_0 : w29.cell? ⟨gb200, 0, none⟩ = some (.string a0_0) := (blk_cell BK200.out 0).trans rfl; have hcz30_1 : w29.cell? ⟨gb200, 1, none⟩ = some (.int .i64 a0_1) := (blk_cell BK200.out 1).trans rfl; have hcz30_2 : w29.cell? ⟨gb200, 2, none⟩ = some (.int .i64 a0_2) := (blk_cell BK200.out 2).trans rfl; have hcz30_3 : w29.cell? ⟨gb200, 3, none⟩ = some (.int .i64 a0_3) := (blk_cell BK200.out 3).trans rfl; have hfz30_0 := blk_frozen BK200.out 0; have hfz30_1 := blk_frozen BK200.out 1; have hfz30_2 := blk_frozen BK200.out 2; have hfz30_3 := blk_frozen BK200.out 3) | ((with_reducible refine gate_callee (f := 106) rfl ?_); refine goesL_ (some 15) rfl rfl Try.func106 (by kernel_rfl) rfl #[.int .i64 a0_1] rfl (by (try simp only [List.map_toArray, List.map_cons, List.map_nil]); first | done | rfl | (simp only [List.length_drop, List.length_take]; rfl)) ?_; (with_reducible refine (impl_TypeOk.calls a0_1 false _ A21.out).mono ?_); rintro e w' ⟨rfl, ⟨nd, rfl⟩⟩; refine ⟨_, rfl, ?_⟩))
   go_ret
   exact ⟨by first | rfl | (simp [errW_none, errW_some] <;> rfl) | (simp [*, errW_none, errW_some] <;> rfl) | (exfalso; simp only [Bool.not_eq_true', Bool.not_eq_false', decide_eq_false_iff_not, decide_eq_true_eq, decide_eq_decide, Int.not_lt, Int.not_le] at *; omega), by repeat (first | (with_reducible first | exact HB.out | apply below_alloc | apply pw_below_drewN | apply below_drew1 | refine below_set ?_ GE200.out) | exact HB.out)⟩

end Go.Proofs.Ytjbghmdbceekiaa.PFnExactSchemaTree
