-- Written by a program of this seat's prover (wip/myprint.sh) over the loaded functions.
import Derived.Test.YtjbghmdbceekiaaPFnExactTreePackx0
import Derived.Test.YtjbghmdbceekiaaPFnExactTreePackx8
import Derived.Test.YtjbghmdbceekiaaPFnExactTreePackx9
namespace Go.Proofs.Ytjbghmdbceekiaa.PFnExactTreePack
open Go.RowKit Go.Proofs.YtjbghmdbceekiaaW.PrintWords Go.Proofs.YtjbghmdbceekiaaW.PrintLast Go.Proofs.YtjbghmdbceekiaaW.PrintMore
attribute [local go_sem] max2_int min2_int max_two min_two max_three min_three max_four min_four   -- for this text's walks alone
set_option linter.unusedVariables false
set_option linter.unusedSimpArgs false

def IsS81 (w0 W : World) (g : Nat) (f0 : List (S74)) (f1 : List Int) : Prop := ∃ A0 c0, ∃ A1 c1, W.heap[g]? = some (.cells #[.slice A0 f0.length c0, .slice A1 f1.length c1] 81 (0, 0)) ∧ w0.heap.size ≤ g ∧ Kd.C k74 w0 A0 f0.length f0 ∧ Kd.C (Kd.int .i64) w0 A1 f1.length f1
theorem IsS81.grown {w0 W : World} {g : Nat} {f0 : List (S74)} {f1 : List Int} {W1 : World} {row : Option Nat} (h : IsS81 w0 W g f0 f1) (hw : W.grownBy W1 row) (hne : some g ≠ row) : IsS81 w0 W1 g f0 f1 := by
 obtain ⟨A0, c0, A1, c1, hb, hg, hr0, hr1⟩ := h
 exact ⟨A0, c0, A1, c1, blk_grown hb hw hne, hg, hr0, hr1⟩
theorem IsS81.below {w0 W : World} {g : Nat} {f0 : List (S74)} {f1 : List Int} {W1 : World} (h : IsS81 w0 W g f0 f1) (hw : Below W.heap.size W W1) : IsS81 w0 W1 g f0 f1 := h.grown (grown_of_below hw none) (by simp)
theorem IsS81.alloc {w0 W : World} {g : Nat} {f0 : List (S74)} {f1 : List Int} (h : IsS81 w0 W g f0 f1) (o : Obj) : IsS81 w0 (W.alloc o) g f0 f1 := h.below (below_alloc (Below.refl _ _) o)
theorem IsS81.drewN {w0 W : World} {g : Nat} {f0 : List (S74)} {f1 : List Int} (h : IsS81 w0 W g f0 f1) (m : Nat) : IsS81 w0 (W.drewN m) g f0 f1 := h
theorem IsS81.drew {w0 W : World} {g : Nat} {f0 : List (S74)} {f1 : List Int} (h : IsS81 w0 W g f0 f1) : IsS81 w0 W.drew g f0 f1 := h
theorem IsS81.apart {w0 W : World} {g : Nat} {f0 : List (S74)} {f1 : List Int} {α : Type} {d : Kd α} {e : Nat} {base : Nat} {ok : Nat → Prop} {v : Value} {xs : List α} (h : IsS81 w0 W g f0 f1) (ho : d.R e W base ok v xs) (ht : ∀ q, q ∈ e :: d.E → q ≠ 81) : d.R e W base (fun k => ok k ∧ k ≠ g) v xs := by
 obtain ⟨A0, c0, A1, c1, hb, hg, hr0, hr1⟩ := h
 exact Kd.R_types ho hb ht
theorem IsS81.own_ne {w0 W : World} {g : Nat} {f0 : List (S74)} {f1 : List Int} {α : Type} {d : Kd α} {e : Nat} {base : Nat} {ok : Nat → Prop} {v : Value} {xs : List α} (h : IsS81 w0 W g f0 f1) (ho : d.R e W base ok v xs) (ht : e ≠ 81) : some g ≠ v.ownBlock := by
 obtain ⟨A0, c0, A1, c1, hb, hg, hr0, hr1⟩ := h
 exact Kd.R_ne ho hb ht
theorem IsS81.lt {w0 W : World} {g : Nat} {f0 : List (S74)} {f1 : List Int} (h : IsS81 w0 W g f0 f1) : g < W.heap.size := by
 obtain ⟨A0, c0, A1, c1, hb, hg, hr0, hr1⟩ := h
 exact blk_lt hb
theorem IsS81.ge {w0 W : World} {g : Nat} {f0 : List (S74)} {f1 : List Int} (h : IsS81 w0 W g f0 f1) : w0.heap.size ≤ g := by
 obtain ⟨A0, c0, A1, c1, hb, hg, hr0, hr1⟩ := h
 exact hg
theorem IsS81.far {w0 W : World} {g : Nat} {f0 : List (S74)} {f1 : List Int} {p : Addr} (h : IsS81 w0 W g f0 f1) (hne : g ≠ p.block) (u : Value) : IsS81 w0 (W.setCell p u) g f0 f1 := by
 obtain ⟨A0, c0, A1, c1, hb, hg, hr0, hr1⟩ := h
 exact ⟨A0, c0, A1, c1, blk_far hb hne u, hg, hr0, hr1⟩
theorem cellS81_0 {W : World} {g : Nat} {A0 : Option Addr} {c0 : Nat} {A1 : Option Addr} {c1 : Nat} {f0 : List (S74)} {f1 : List Int} (h : W.heap[g]? = some (.cells #[.slice A0 f0.length c0, .slice A1 f1.length c1] 81 (0, 0))) : W.cell? ⟨g, 0, none⟩ = some (.slice A0 f0.length c0) := (blk_cell h 0).trans rfl
theorem cellS81_1 {W : World} {g : Nat} {A0 : Option Addr} {c0 : Nat} {A1 : Option Addr} {c1 : Nat} {f0 : List (S74)} {f1 : List Int} (h : W.heap[g]? = some (.cells #[.slice A0 f0.length c0, .slice A1 f1.length c1] 81 (0, 0))) : W.cell? ⟨g, 1, none⟩ = some (.slice A1 f1.length c1) := (blk_cell h 1).trans rfl
mutual
def impl_tree_bytesOf.j1 : Nat → Int → List Int → List (S74) → List Int → Int → Int → Int → ByteArray → Int → Option (List Int)
 | 0, _, _, _, _, _, _, _, _, _ => none
 | k + 1, x1, x6, x1000, x1001, x272000, x272001, x272002, x272003, x272004 => impl_tree_bytesOf.l0 k x6 (wrap64 (x1 + 1)) 0 x272004 0 x1000 x1001 x272000 x272001 x272002 x272003 x272004
def impl_tree_bytesOf.l0 : Nat → List Int → Int → Int → Int → Int → List (S74) → List Int → Int → Int → Int → ByteArray → Int → Option (List Int)
 | 0, _, _, _, _, _, _, _, _, _, _, _, _ => none
 | k + 1, x6, x7, x8, x62, x63, x1000, x1001, x272000, x272001, x272002, x272003, x272004 => if x63 < x62 then (if 0 ≤ x7 then (if x7 < (x1000.length : Int) then (if x272000 = 12 then ((impl_headOf.f k ((rd_T74 x1000 x7).f0) ((rd_T74 x1000 x7).f1) ((rd_T74 x1000 x7).f2) ((rd_T74 x1000 x7).f3) ((rd_T74 x1000 x7).f4) x8).bind fun t301 => (if x6.length + t301.length < 140737488355328 then ((some (x6 ++ t301 : List Int)).bind fun y304 => ((impl_tree_bytesOf.f k x1000 x1001 x7).bind fun t307 => (if y304.length + t307.length < 140737488355328 then (if x7 < (x1001.length : Int) then (impl_tree_bytesOf.l0 k (y304 ++ t307) (rd x1001 x7) ((rd_T74 x1000 x7).f1) x62 (wrap64 (x63 + 1)) x1000 x1001 x272000 x272001 x272002 x272003 x272004) else (none)) else (none)))) else (none))) else ((impl_tree_bytesOf.f k x1000 x1001 x7).bind fun t314 => (if x6.length + t314.length < 140737488355328 then (if x7 < (x1001.length : Int) then (impl_tree_bytesOf.l0 k (x6 ++ t314) (rd x1001 x7) ((rd_T74 x1000 x7).f1) x62 (wrap64 (x63 + 1)) x1000 x1001 x272000 x272001 x272002 x272003 x272004) else (none)) else (none)))) else (none)) else (none)) else (if x272000 = 12 then (if x6.length < 140737488355328 then (some (x6 ++ [0])) else (none)) else (some x6))
def impl_tree_bytesOf.j0 : Nat → Int → List Int → Int → Bool → List (S74) → List Int → Int → Int → Int → ByteArray → Int → Option (List Int)
 | 0, _, _, _, _, _, _, _, _, _, _, _ => none
 | k + 1, x1, x6, x19, x20, x1000, x1001, x272000, x272001, x272002, x272003, x272004 => if x20 = true then ((impl_ZigPut.f k x272002).bind fun t275 => (some t275)) else (if x19 = 8 then ((impl_UvarPut.f k (x272003.size : Int)).bind fun t278 => (if t278.length + x272003.size < 140737488355328 then (some (t278 ++ bytesOf x272003)) else (none))) else (if x19 = 9 then (if x272004 ≤ 14 then (if x6.length < 140737488355328 then (impl_tree_bytesOf.j1 k x1 (x6 ++ [(wrap64 ((wrap64 (16 * x272004)) + x272002)) % 256]) x1000 x1001 x272000 x272001 x272002 x272003 x272004) else (none)) else ((some (([(wrap64 (240 + x272002)) % 256] : List Int) : List Int)).bind fun y287 => ((impl_UvarPut.f k x272004).bind fun t290 => (if y287.length + t290.length < 140737488355328 then (impl_tree_bytesOf.j1 k x1 (y287 ++ t290) x1000 x1001 x272000 x272001 x272002 x272003 x272004) else (none))))) else (impl_tree_bytesOf.j1 k x1 x6 x1000 x1001 x272000 x272001 x272002 x272003 x272004)))
def impl_tree_bytesOf.f : Nat → List (S74) → List Int → Int → Option (List Int)
 | 0, _, _, _ => none
 | k + 1, s0_0, s0_1, a1 => if 0 ≤ a1 then (if a1 < (s0_0.length : Int) then ((some (([] : List Int) : List Int)).bind fun y272 => (if ((rd_T74 s0_0 a1).f0) = 5 then (impl_tree_bytesOf.j0 k a1 y272 ((rd_T74 s0_0 a1).f0) (((rd_T74 s0_0 a1).f0) == 5) s0_0 s0_1 ((rd_T74 s0_0 a1).f0) ((rd_T74 s0_0 a1).f1) ((rd_T74 s0_0 a1).f2) ((rd_T74 s0_0 a1).f3) ((rd_T74 s0_0 a1).f4)) else (impl_tree_bytesOf.j0 k a1 y272 ((rd_T74 s0_0 a1).f0) (((rd_T74 s0_0 a1).f0) == 6) s0_0 s0_1 ((rd_T74 s0_0 a1).f0) ((rd_T74 s0_0 a1).f1) ((rd_T74 s0_0 a1).f2) ((rd_T74 s0_0 a1).f3) ((rd_T74 s0_0 a1).f4)))) else (none)) else (none)
end
theorem impl_tree_bytesOf.mono_l : ∀ k, (∀ y0 y1 y2, LeO (impl_tree_bytesOf.f k y0 y1 y2) (impl_tree_bytesOf.f (k + 1) y0 y1 y2)) ∧ (∀ y0 y1 y2 y3 y4 y5 y6 y7 y8, LeO (impl_tree_bytesOf.j1 k y0 y1 y2 y3 y4 y5 y6 y7 y8) (impl_tree_bytesOf.j1 (k + 1) y0 y1 y2 y3 y4 y5 y6 y7 y8)) ∧ (∀ y0 y1 y2 y3 y4 y5 y6 y7 y8 y9 y10 y11, LeO (impl_tree_bytesOf.l0 k y0 y1 y2 y3 y4 y5 y6 y7 y8 y9 y10 y11) (impl_tree_bytesOf.l0 (k + 1) y0 y1 y2 y3 y4 y5 y6 y7 y8 y9 y10 y11)) ∧ (∀ y0 y1 y2 y3 y4 y5 y6 y7 y8 y9 y10, LeO (impl_tree_bytesOf.j0 k y0 y1 y2 y3 y4 y5 y6 y7 y8 y9 y10) (impl_tree_bytesOf.j0 (k + 1) y0 y1 y2 y3 y4 y5 y6 y7 y8 y9 y10))
 | 0 => ⟨fun _ _ _ r h => by simp [impl_tree_bytesOf.f] at h, fun _ _ _ _ _ _ _ _ _ r h => by simp [impl_tree_bytesOf.j1] at h, fun _ _ _ _ _ _ _ _ _ _ _ _ r h => by simp [impl_tree_bytesOf.l0] at h, fun _ _ _ _ _ _ _ _ _ _ _ r h => by simp [impl_tree_bytesOf.j0] at h⟩
 | k + 1 => by
  obtain ⟨ih0, ih1, ih2, ih3⟩ := impl_tree_bytesOf.mono_l k
  refine ⟨?_, ?_, ?_, ?_⟩
  ·intro y0 y1 y2
   unfold impl_tree_bytesOf.f
   repeat' first
   |(with_reducible exact ih0 _ _ _)
   |(with_reducible exact ih1 _ _ _ _ _ _ _ _ _)
   |(with_reducible exact ih2 _ _ _ _ _ _ _ _ _ _ _ _)
   |(with_reducible exact ih3 _ _ _ _ _ _ _ _ _ _ _)
   |(with_reducible exact impl_UvarPut.mono _ _)
   |(with_reducible exact impl_ZigPut.mono _ _)
   |(with_reducible exact impl_headOf.mono _ _ _ _ _ _ _)
   |(with_reducible exact LeO.refl _)
   |(with_reducible exact LeO.none _)
   |(with_reducible refine LeO.ite ?_ ?_)
   |(with_reducible refine LeO.bind ?_ (fun _ => ?_))
   | exact ih0 _ _ _
   | exact ih1 _ _ _ _ _ _ _ _ _
   | exact ih2 _ _ _ _ _ _ _ _ _ _ _ _
   | exact ih3 _ _ _ _ _ _ _ _ _ _ _
   | exact impl_UvarPut.mono _ _
   | exact impl_ZigPut.mono _ _
   | exact impl_headOf.mono _ _ _ _ _ _ _
   | exact LeO.none _
   | refine LeO.ite ?_ ?_
   | refine LeO.bind ?_ (fun _ => ?_)
  ·intro y0 y1 y2 y3 y4 y5 y6 y7 y8
   unfold impl_tree_bytesOf.j1
   repeat' first
   |(with_reducible exact ih0 _ _ _)
   |(with_reducible exact ih1 _ _ _ _ _ _ _ _ _)
   |(with_reducible exact ih2 _ _ _ _ _ _ _ _ _ _ _ _)
   |(with_reducible exact ih3 _ _ _ _ _ _ _ _ _ _ _)
   |(with_reducible exact impl_UvarPut.mono _ _)
   |(with_reducible exact impl_ZigPut.mono _ _)
   |(with_reducible exact impl_headOf.mono _ _ _ _ _ _ _)
   |(with_reducible exact LeO.refl _)
   |(with_reducible exact LeO.none _)
   |(with_reducible refine LeO.ite ?_ ?_)
   |(with_reducible refine LeO.bind ?_ (fun _ => ?_))
   | exact ih0 _ _ _
   | exact ih1 _ _ _ _ _ _ _ _ _
   | exact ih2 _ _ _ _ _ _ _ _ _ _ _ _
   | exact ih3 _ _ _ _ _ _ _ _ _ _ _
   | exact impl_UvarPut.mono _ _
   | exact impl_ZigPut.mono _ _
   | exact impl_headOf.mono _ _ _ _ _ _ _
   | exact LeO.none _
   | refine LeO.ite ?_ ?_
   | refine LeO.bind ?_ (fun _ => ?_)
  ·intro y0 y1 y2 y3 y4 y5 y6 y7 y8 y9 y10 y11
   unfold impl_tree_bytesOf.l0
   repeat' first
   |(with_reducible exact ih0 _ _ _)
   |(with_reducible exact ih1 _ _ _ _ _ _ _ _ _)
   |(with_reducible exact ih2 _ _ _ _ _ _ _ _ _ _ _ _)
   |(with_reducible exact ih3 _ _ _ _ _ _ _ _ _ _ _)
   |(with_reducible exact impl_UvarPut.mono _ _)
   |(with_reducible exact impl_ZigPut.mono _ _)
   |(with_reducible exact impl_headOf.mono _ _ _ _ _ _ _)
   |(with_reducible exact LeO.refl _)
   |(with_reducible exact LeO.none _)
   |(with_reducible refine LeO.ite ?_ ?_)
   |(with_reducible refine LeO.bind ?_ (fun _ => ?_))
   | exact ih0 _ _ _
   | exact ih1 _ _ _ _ _ _ _ _ _
   | exact ih2 _ _ _ _ _ _ _ _ _ _ _ _
   | exact ih3 _ _ _ _ _ _ _ _ _ _ _
   | exact impl_UvarPut.mono _ _
   | exact impl_ZigPut.mono _ _
   | exact impl_headOf.mono _ _ _ _ _ _ _
   | exact LeO.none _
   | refine LeO.ite ?_ ?_
   | refine LeO.bind ?_ (fun _ => ?_)
  ·intro y0 y1 y2 y3 y4 y5 y6 y7 y8 y9 y10
   unfold impl_tree_bytesOf.j0
   repeat' first
   |(with_reducible exact ih0 _ _ _)
   |(with_reducible exact ih1 _ _ _ _ _ _ _ _ _)
   |(with_reducible exact ih2 _ _ _ _ _ _ _ _ _ _ _ _)
   |(with_reducible exact ih3 _ _ _ _ _ _ _ _ _ _ _)
   |(with_reducible exact impl_UvarPut.mono _ _)
   |(with_reducible exact impl_ZigPut.mono _ _)
   |(with_reducible exact impl_headOf.mono _ _ _ _ _ _ _)
   |(with_reducible exact LeO.refl _)
   |(with_reducible exact LeO.none _)
   |(with_reducible refine LeO.ite ?_ ?_)
   |(with_reducible refine LeO.bind ?_ (fun _ => ?_))
   | exact ih0 _ _ _
   | exact ih1 _ _ _ _ _ _ _ _ _
   | exact ih2 _ _ _ _ _ _ _ _ _ _ _ _
   | exact ih3 _ _ _ _ _ _ _ _ _ _ _
   | exact impl_UvarPut.mono _ _
   | exact impl_ZigPut.mono _ _
   | exact impl_headOf.mono _ _ _ _ _ _ _
   | exact LeO.none _
   | refine LeO.ite ?_ ?_
   | refine LeO.bind ?_ (fun _ => ?_)
theorem impl_tree_bytesOf.mono : ∀ a0 a1 a2 k, LeO (impl_tree_bytesOf.f k a0 a1 a2) (impl_tree_bytesOf.f (k + 1) a0 a1 a2) := by
 intro a0 a1 a2 k
 obtain ⟨ih0, ih1, ih2, ih3⟩ := impl_tree_bytesOf.mono_l k
 exact ih0 a0 a1 a2
def impl_tree_bytesOf.T8 : Bool × List (List Nat × List Nat) := (true, [([], []), ([0], [0]), ([1], [1]), ([2], [2]), ([], []), ([4], [4]), ([3, 5, 3], [3, 5]), ([6, 6, 0, 1, 2, 3, 4, 5, 6], [6])])
def impl_tree_bytesOf.B8 : List Nat := [0, 1, 3, 7, 0, 16, 63, 127]
theorem impl_tree_bytesOf.tab8 : rtab .any (opsOf Try.f88 8) = impl_tree_bytesOf.T8 := by kernel_rfl
theorem impl_tree_bytesOf.bits8 : waitsOk impl_tree_bytesOf.T8.2 impl_tree_bytesOf.B8 = true := by kernel_rfl
def impl_tree_bytesOf.T12 : Bool × List (List Nat × List Nat) := (true, [([], []), ([0], [0]), ([1], [1]), ([2], [2]), ([3], [3]), ([], []), ([5], [5]), ([6], [6]), ([4, 7, 7], [4, 7]), ([8, 8, 0, 1, 2, 3, 4, 5, 6, 7, 8], [8])])
def impl_tree_bytesOf.B12 : List Nat := [0, 1, 3, 7, 15, 0, 32, 96, 255, 511]
theorem impl_tree_bytesOf.tab12 : rtab .any (opsOf Try.f88 12) = impl_tree_bytesOf.T12 := by kernel_rfl
theorem impl_tree_bytesOf.bits12 : waitsOk impl_tree_bytesOf.T12.2 impl_tree_bytesOf.B12 = true := by kernel_rfl
set_option maxHeartbeats 8000000 in
set_option maxRecDepth 100000 in
theorem impl_tree_bytesOf.calls (k : Nat) : ∀ (g : Nat) (s0_0 : List (S74)) (s0_1 : List Int) (a1 : Int) (r : List Int) (w0 w : World) (hI : IsS81 w0 w g s0_0 s0_1) (hB : Below w0.heap.size w0 w) (h : impl_tree_bytesOf.f k s0_0 s0_1 a1 = some r),
  Calls Try.prog 88 #[.pointer (some ⟨g, 0, none⟩), .int .i64 a1] w fun e w' => ∃ v0_ : Value, e = .returned (v0_) ∧ Kd.R (Kd.int .u8) 5 w' w.heap.size (fun _ => True) v0_ r ∧ IsS81 w0 w' g s0_0 s0_1 ∧ Below w0.heap.size w0 w' ∧ KeepBut w w' g none := by
 induction k using Nat.strongRecOn with
 | _ k ih =>
 intro g s0_0 s0_1 a1 r w0 w hI hB h
 cases k with
 | zero => exact absurd h (by simp [impl_tree_bytesOf.f])
 | succ k =>
 simp only [impl_tree_bytesOf.f] at h
 have hu74 := Try.underlying74
 have HI0 := Aside0.mk hI
 have HK := Aside0.mk (KeepBut.refl w g none)
 have HL := Aside0.mk hB.size
 clear hI
 have HW0 := Aside0.mk hB.size
 have HB := Aside0.mk hB
 clear hB
 have H : (if 0 ≤ a1 then (if a1 < (s0_0.length : Int) then ((some (([] : List Int) : List Int)).bind fun y272 => (if ((rd_T74 s0_0 a1).f0) = 5 then (impl_tree_bytesOf.j0 k a1 y272 ((rd_T74 s0_0 a1).f0) (((rd_T74 s0_0 a1).f0) == 5) s0_0 s0_1 ((rd_T74 s0_0 a1).f0) ((rd_T74 s0_0 a1).f1) ((rd_T74 s0_0 a1).f2) ((rd_T74 s0_0 a1).f3) ((rd_T74 s0_0 a1).f4)) else (impl_tree_bytesOf.j0 k a1 y272 ((rd_T74 s0_0 a1).f0) (((rd_T74 s0_0 a1).f0) == 6) s0_0 s0_1 ((rd_T74 s0_0 a1).f0) ((rd_T74 s0_0 a1).f1) ((rd_T74 s0_0 a1).f2) ((rd_T74 s0_0 a1).f3) ((rd_T74 s0_0 a1).f4)))) else (none)) else (none)) = some r := h
 clear h
 by_cases c3 : 0 ≤ a1
 ·rw [if_pos c3] at H
  have c3b0 : decide (0 ≤ a1) = true := decide_eq_true c3
  clear c3
  by_cases c4 : a1 < (s0_0.length : Int)
  ·rw [if_pos c4] at H
   have c4b0 : decide (a1 < (s0_0.length : Int)) = true := decide_eq_true c4
   clear c4
   obtain ⟨y272, hy272⟩ : ∃ y_ : List Int, y_ = (([] : List Int)) := ⟨_, rfl⟩
   replace H : (if ((rd_T74 s0_0 a1).f0) = 5 then (impl_tree_bytesOf.j0 k a1 y272 ((rd_T74 s0_0 a1).f0) (((rd_T74 s0_0 a1).f0) == 5) s0_0 s0_1 ((rd_T74 s0_0 a1).f0) ((rd_T74 s0_0 a1).f1) ((rd_T74 s0_0 a1).f2) ((rd_T74 s0_0 a1).f3) ((rd_T74 s0_0 a1).f4)) else (impl_tree_bytesOf.j0 k a1 y272 ((rd_T74 s0_0 a1).f0) (((rd_T74 s0_0 a1).f0) == 6) s0_0 s0_1 ((rd_T74 s0_0 a1).f0) ((rd_T74 s0_0 a1).f1) ((rd_T74 s0_0 a1).f2) ((rd_T74 s0_0 a1).f3) ((rd_T74 s0_0 a1).f4))) = some r := by first|(rw [hy272];with_reducible exact H)|(have H2_ := (Option.bind_some _ _).symm.trans H;rw [hy272];with_reducible exact H2_)|(have H2_ := (Option.bind_some _ _).symm.trans H;with_reducible exact H2_)|with_reducible exact H|(rw [hy272];exact H)|exact H
   have Ny272 := Aside0.mk hy272
   clear hy272
   have HC5 := Aside0.mk H
   clear H
   obtain ⟨ASz6_0, cSz6_0, ASz6_1, cSz6_1, HGz6, hgz6, HSz6_0, HSz6_1⟩ := HI0.out
   have hcz6_0 := cellS81_0 HGz6
   have hcz6_1 := cellS81_1 HGz6
   clear HGz6 hgz6
   have p270 : 0 ≤ (a1 : Int) := of_decide_eq_true (by first|(with_reducible assumption)|assumption)
   have q270 : a1 < (s0_0.length : Int) := of_decide_eq_true (by first|(with_reducible assumption)|assumption)
   obtain ⟨ad270, e270, hx270_0, hx270_1, hx270_2, hx270_3, hx270_4⟩ := at_T74 HSz6_0 a1 p270 q270
   cases e270
   replace hx270_0 := pw_cell_below HB.out hx270_0
   replace hx270_1 := pw_cell_below HB.out hx270_1
   replace hx270_2 := pw_cell_below HB.out hx270_2
   replace hx270_3 := pw_cell_below HB.out hx270_3
   replace hx270_4 := pw_cell_below HB.out hx270_4
   replace p270 := eq_true p270
   replace q270 := eq_true q270
   go_enter Try.func88, Try.ntmps88
   go_upto_block 0 with (first|((with_reducible refine gate_dst (N := 5) rfl ?_);refine box_event ?hg (N := 5) ?hd (cs := #[.int .i64 0, .int .i64 0, .int .i64 0, .string (⟨#[]⟩ : ByteArray), .int .i64 0]) (t := 74) ?hr ?_;(case hd => rfl);(case hg => rfl);(case hr => first|(go_simp;done)|(go_simp;rfl));intro gb271 hg w7 hbox hb;have n0_ := Aside0.mk (IsS81.below (by repeat (first|(with_reducible first|exact HI0.out|apply IsS81.alloc|apply IsS81.drewN|apply IsS81.drew)|exact HI0.out)) hb);have n1_ := Aside0.mk (KeepBut.trans (by repeat (first|(with_reducible first|exact HK.out|apply KeepBut.set_|apply keep_drewN|apply keep_drew|apply keep_alloc)|exact HK.out)) (KeepBut.of_below hb g none) (.inl rfl));have n2_ := Aside0.mk (below_step (by repeat (first|(with_reducible first|exact HB.out|apply below_alloc|apply pw_below_drewN|apply below_drew1|refine below_set ?_ (IsS81.ge HI0.out))|exact HB.out)) hb);have n3_ := Aside0.mk (hbox);have n4_ := Aside0.mk ((by rw [hg];exact (keep_size (w := w) (g := g) (row := none) (by repeat (first|(with_reducible first|exact HK.out|apply KeepBut.set_|apply keep_drewN|apply keep_drew|apply keep_alloc)|exact HK.out))) : w.heap.size ≤ gb271));have n5_ := Aside0.mk ((Nat.le_trans HW0.out (by rw [hg];exact (keep_size (w := w) (g := g) (row := none) (by repeat (first|(with_reducible first|exact HK.out|apply KeepBut.set_|apply keep_drewN|apply keep_drew|apply keep_alloc)|exact HK.out))) : w.heap.size ≤ gb271) : w0.heap.size ≤ gb271));have n6_ := Aside0.mk ((by rw [hg];exact Nat.ne_of_lt (IsS81.lt (show IsS81 w0 _ g s0_0 s0_1 from by repeat (first|(with_reducible first|exact HI0.out|apply IsS81.alloc|apply IsS81.drewN|apply IsS81.drew)|exact HI0.out))) : g ≠ gb271));have n7_ := Aside0.mk ((by rw [hg];exact Nat.ne_of_gt (IsS81.lt (show IsS81 w0 _ g s0_0 s0_1 from by repeat (first|(with_reducible first|exact HI0.out|apply IsS81.alloc|apply IsS81.drewN|apply IsS81.drew)|exact HI0.out))) : gb271 ≠ g));clear HI0;clear HK;clear HB;have HI0 := n0_;have HK := n1_;have HB := n2_;have BK271 := n3_;have GW271 := n4_;have GE271 := n5_;have NB0_271 := n6_;have NB271_0 := n7_;clear n0_ n1_ n2_ n3_ n4_ n5_ n6_ n7_;clear hb hbox hg;have hnb8 := NB271_0.out;have hnc8 := NB0_271.out;obtain ⟨hcz9_0, hcz9_1, hcz9_2, hcz9_3, hcz9_4, hfz9_0, hfz9_1, hfz9_2, hfz9_3, hfz9_4⟩ := blk5_ BK271.out)|((with_reducible refine gate_dst (N := 17) rfl ?_);refine Kd.R_lit (Kd.int .u8) _ 5 ?hg (N := 17) ?hd (xs := ([] : List Int)) (inner := []) (ok := fun _ => True) (okp := fun _ => True) ?hr ?hp (fun _ hk => hk) trivial (Below.refl _ _) (Nat.le_refl _) (by simp) ?_;(case hd => rfl);(case hg => rfl);(case hr => first|(go_simp;done)|(go_simp;rfl));(case hp => exact (Reps.none _ _));intro v273 w10 ho11 hb hg_ hnew_;clear hg_ hnew_;(first|rw [← Ny272.out] at ho11|(simp only [Int.reduceToNat] at ho11;rw [← Ny272.out] at ho11));have n0_ := Aside0.mk (Kd.R_lower ho11 (keep_size (w := w) (g := g) (row := none) (by repeat (first|(with_reducible first|exact HK.out|apply KeepBut.set_|apply keep_drewN|apply keep_drew|apply keep_alloc|refine keep_far ?_ GW271.out _)|exact HK.out))));have n1_ := Aside0.mk (IsS81.below (show IsS81 w0 (((((w7.setCell ⟨gb271, 0, none⟩ (.int .i64 ((rd_T74 s0_0 a1).f0))).setCell ⟨gb271, 1, none⟩ (.int .i64 ((rd_T74 s0_0 a1).f1))).setCell ⟨gb271, 2, none⟩ (.int .i64 ((rd_T74 s0_0 a1).f2))).setCell ⟨gb271, 3, none⟩ (.string ((rd_T74 s0_0 a1).f3))).setCell ⟨gb271, 4, none⟩ (.int .i64 ((rd_T74 s0_0 a1).f4))) g s0_0 s0_1 from by repeat (first|(with_reducible first|exact HI0.out|apply IsS81.alloc|apply IsS81.drewN|apply IsS81.drew|refine IsS81.far ?_ NB0_271.out _)|exact HI0.out)) hb);have n2_ := Aside0.mk (blk_below (g := gb271) (o := .cells #[.int .i64 ((rd_T74 s0_0 a1).f0), .int .i64 ((rd_T74 s0_0 a1).f1), .int .i64 ((rd_T74 s0_0 a1).f2), .string ((rd_T74 s0_0 a1).f3), .int .i64 ((rd_T74 s0_0 a1).f4)] 74 (0, 0)) (by (with_reducible repeat (first|refine blk_drewN ?_ _|refine blk_drew ?_|refine blk_alloc ?_ _));refine blk_put (cs := #[.int .i64 ((rd_T74 s0_0 a1).f0), .int .i64 ((rd_T74 s0_0 a1).f1), .int .i64 ((rd_T74 s0_0 a1).f2), .string ((rd_T74 s0_0 a1).f3), .int .i64 0]) ?_ 4 _ rfl;(with_reducible repeat (first|refine blk_drewN ?_ _|refine blk_drew ?_|refine blk_alloc ?_ _));refine blk_put (cs := #[.int .i64 ((rd_T74 s0_0 a1).f0), .int .i64 ((rd_T74 s0_0 a1).f1), .int .i64 ((rd_T74 s0_0 a1).f2), .string (⟨#[]⟩ : ByteArray), .int .i64 0]) ?_ 3 _ rfl;(with_reducible repeat (first|refine blk_drewN ?_ _|refine blk_drew ?_|refine blk_alloc ?_ _));refine blk_put (cs := #[.int .i64 ((rd_T74 s0_0 a1).f0), .int .i64 ((rd_T74 s0_0 a1).f1), .int .i64 0, .string (⟨#[]⟩ : ByteArray), .int .i64 0]) ?_ 2 _ rfl;(with_reducible repeat (first|refine blk_drewN ?_ _|refine blk_drew ?_|refine blk_alloc ?_ _));refine blk_put (cs := #[.int .i64 ((rd_T74 s0_0 a1).f0), .int .i64 0, .int .i64 0, .string (⟨#[]⟩ : ByteArray), .int .i64 0]) ?_ 1 _ rfl;(with_reducible repeat (first|refine blk_drewN ?_ _|refine blk_drew ?_|refine blk_alloc ?_ _));refine blk_put (cs := #[.int .i64 0, .int .i64 0, .int .i64 0, .string (⟨#[]⟩ : ByteArray), .int .i64 0]) ?_ 0 _ rfl;(with_reducible repeat (first|refine blk_drewN ?_ _|refine blk_drew ?_|refine blk_alloc ?_ _));exact BK271.out) hb);have n3_ := Aside0.mk (KeepBut.trans (by repeat (first|(with_reducible first|exact HK.out|apply KeepBut.set_|apply keep_drewN|apply keep_drew|apply keep_alloc|refine keep_far ?_ GW271.out _)|exact HK.out)) (KeepBut.of_below hb g none) (.inl rfl));have n4_ := Aside0.mk (below_step (by repeat (first|(with_reducible first|exact HB.out|apply below_alloc|apply pw_below_drewN|apply below_drew1|refine below_set ?_ (IsS81.ge HI0.out)|refine below_set ?_ GE271.out)|exact HB.out)) hb);clear HI0;clear BK271;clear HK;clear HB;have HO274 := n0_;have HI0 := n1_;have BK271 := n2_;have HK := n3_;have HB := n4_;clear n0_ n1_ n2_ n3_ n4_;clear hb ho11;obtain ⟨hcz12_0, hcz12_1, hcz12_2, hcz12_3, hcz12_4, hfz12_0, hfz12_1, hfz12_2, hfz12_3, hfz12_4⟩ := blk5_ BK271.out))
   (try simp only [Act.put, List.setIfInBounds_toArray, List.set_cons_zero, List.set_cons_succ])
   go_cut [6] (fun v6 wc => ∃ (kq : Nat) (x6_4 : List Int), Aside0 (impl_tree_bytesOf.j1 kq a1 x6_4 s0_0 s0_1 ((rd_T74 s0_0 a1).f0) ((rd_T74 s0_0 a1).f1) ((rd_T74 s0_0 a1).f2) ((rd_T74 s0_0 a1).f3) ((rd_T74 s0_0 a1).f4) = some r) ∧ Aside0 (kq ≤ k) ∧ Aside0 (Kd.R (Kd.int .u8) 5 wc w.heap.size (fun _ => True) v6 x6_4) ∧ Aside0 (wc.heap[gb271]? = some (.cells #[.int .i64 ((rd_T74 s0_0 a1).f0), .int .i64 ((rd_T74 s0_0 a1).f1), .int .i64 ((rd_T74 s0_0 a1).f2), .string ((rd_T74 s0_0 a1).f3), .int .i64 ((rd_T74 s0_0 a1).f4)] 74 (0, 0))) ∧ Aside0 (IsS81 w0 wc g s0_0 s0_1) ∧ Aside0 (KeepBut w wc g none) ∧ Aside0 (Below w0.heap.size w0 wc))
   case first =>
    have H := HC5.out
    clear HC5
    have HC13 := Aside0.mk H
    clear H
    go_upto_if 20 with (fail)
    go_cut [20] (fun v20 wc => ∃ (kq : Nat) (x20_12 : Bool), v20 = .bool x20_12 ∧ Aside0 (impl_tree_bytesOf.j0 kq a1 y272 ((rd_T74 s0_0 a1).f0) x20_12 s0_0 s0_1 ((rd_T74 s0_0 a1).f0) ((rd_T74 s0_0 a1).f1) ((rd_T74 s0_0 a1).f2) ((rd_T74 s0_0 a1).f3) ((rd_T74 s0_0 a1).f4) = some r) ∧ Aside0 (kq ≤ k) ∧ Aside0 (Kd.R (Kd.int .u8) 5 wc w.heap.size (fun _ => True) v273 y272) ∧ Aside0 (wc.heap[gb271]? = some (.cells #[.int .i64 ((rd_T74 s0_0 a1).f0), .int .i64 ((rd_T74 s0_0 a1).f1), .int .i64 ((rd_T74 s0_0 a1).f2), .string ((rd_T74 s0_0 a1).f3), .int .i64 ((rd_T74 s0_0 a1).f4)] 74 (0, 0))) ∧ Aside0 (IsS81 w0 wc g s0_0 s0_1) ∧ Aside0 (KeepBut w wc g none) ∧ Aside0 (Below w0.heap.size w0 wc))
    case first =>
     have H := HC13.out
     clear HC13
     by_cases c14 : ((rd_T74 s0_0 a1).f0) = 5
     ·rw [if_pos c14] at H
      have c14b0 : (((rd_T74 s0_0 a1).f0) == 5) = true := beq_iff_eq.mpr c14
      have c14b1 : (((rd_T74 s0_0 a1).f0) != 5) = false := bne_eq_false_iff_eq.mpr c14
      clear c14
      (first|rw [c14b0]|(simp only [i64_w, i32_w];rw [c14b0])|rw [c14b2]|skip)
      have H' := Aside0.mk H
      clear H
      go_wp2
      go_meet
      case rel => exact ⟨_, ((((rd_T74 s0_0 a1).f0) == 5)), (by first|rfl|(simp;done)|(simp [*];done)), H', ⟨by first|omega|exact Nat.le_refl _⟩, ⟨by (with_reducible repeat (first|apply Kd.R_alloc|apply Kd.R_drewN|apply Kd.R_drew));exact HO274.out⟩, ⟨by (with_reducible repeat (first|refine blk_drewN ?_ _|refine blk_drew ?_|refine blk_alloc ?_ _));exact BK271.out⟩, ⟨by repeat (first|(with_reducible first|exact HI0.out|apply IsS81.alloc|apply IsS81.drewN|apply IsS81.drew|refine IsS81.far ?_ NB0_271.out _)|exact HI0.out)⟩, ⟨by repeat (first|(with_reducible first|exact HK.out|apply KeepBut.set_|apply keep_drewN|apply keep_drew|apply keep_alloc|refine keep_far ?_ GW271.out _)|exact HK.out)⟩, ⟨by repeat (first|(with_reducible first|exact HB.out|apply below_alloc|apply pw_below_drewN|apply below_drew1|refine below_set ?_ (IsS81.ge HI0.out)|refine below_set ?_ GE271.out)|exact HB.out)⟩⟩
     ·rw [if_neg c14] at H
      have c14b0 : (((rd_T74 s0_0 a1).f0) == 5) = false := beq_eq_false_iff_ne.mpr c14
      have c14b1 : (((rd_T74 s0_0 a1).f0) != 5) = true := bne_iff_ne.mpr c14
      (first|rw [c14b0]|(simp only [i64_w, i32_w];rw [c14b0])|rw [c14b2]|skip)
      have H' := Aside0.mk H
      clear H
      go_wp2
      go_meet
      case rel => exact ⟨_, ((((rd_T74 s0_0 a1).f0) == 6)), (by first|rfl|(simp;done)|(simp [*];done)), H', ⟨by first|omega|exact Nat.le_refl _⟩, ⟨by (with_reducible repeat (first|apply Kd.R_alloc|apply Kd.R_drewN|apply Kd.R_drew));exact HO274.out⟩, ⟨by (with_reducible repeat (first|refine blk_drewN ?_ _|refine blk_drew ?_|refine blk_alloc ?_ _));exact BK271.out⟩, ⟨by repeat (first|(with_reducible first|exact HI0.out|apply IsS81.alloc|apply IsS81.drewN|apply IsS81.drew|refine IsS81.far ?_ NB0_271.out _)|exact HI0.out)⟩, ⟨by repeat (first|(with_reducible first|exact HK.out|apply KeepBut.set_|apply keep_drewN|apply keep_drew|apply keep_alloc|refine keep_far ?_ GW271.out _)|exact HK.out)⟩, ⟨by repeat (first|(with_reducible first|exact HB.out|apply below_alloc|apply pw_below_drewN|apply below_drew1|refine below_set ?_ (IsS81.ge HI0.out)|refine below_set ?_ GE271.out)|exact HB.out)⟩⟩
    case rest =>
     clear HC13
     try clear c1
     try clear p2
     try clear q2
     try clear hx2
     try clear c3
     try clear c3b0
     try clear c4
     try clear c4b0
     try clear c8
     try clear c14
     try clear c14b0
     try clear c14b1
     try clear c14b2
     try clear hcz12_0
     try clear hcz12_1
     try clear hcz12_2
     try clear hcz12_3
     try clear hcz12_4
     try clear hcz6_0
     try clear hcz6_1
     try clear hcz9_0
     try clear hcz9_1
     try clear hcz9_2
     try clear hcz9_3
     try clear hcz9_4
     try clear hfz12_0
     try clear hfz12_1
     try clear hfz12_2
     try clear hfz12_3
     try clear hfz12_4
     try clear hfz9_0
     try clear hfz9_1
     try clear hfz9_2
     try clear hfz9_3
     try clear hfz9_4
     try clear hx270_0
     try clear hx270_1
     try clear hx270_2
     try clear hx270_3
     try clear hx270_4
     try clear p270
     try clear q270
     obtain ⟨kq, x20_12, rfl, HA, HJ12, HO_6, BK271, HI0, HK, HB⟩ := hcut
     cases kq with
     | zero => exact absurd HA.out (by simp [impl_tree_bytesOf.j0])
     | succ kj12 =>
      have H := HA.out
      clear HA
      simp only [impl_tree_bytesOf.j0] at H
      by_cases c15 : x20_12 = true
      ·subst c15
       have H1 : ((impl_ZigPut.f kj12 ((rd_T74 s0_0 a1).f2)).bind fun t275 => (some t275)) = some r := by rw [if_pos rfl] at H;exact H
       clear H
       have H := H1
       clear H1
       replace H := Option.bind_eq_some_iff.mp H
       obtain ⟨t275, A160, H⟩ := H
       replace H : (some t275) = some r := H
       have A16 := Aside0.mk A160
       clear A160
       obtain rfl := Option.some.inj H
       have hnb17 := NB271_0.out
       have hnc17 := NB0_271.out
       obtain ⟨hcz18_0, hcz18_1, hcz18_2, hcz18_3, hcz18_4, hfz18_0, hfz18_1, hfz18_2, hfz18_3, hfz18_4⟩ := blk5_ BK271.out
       go_wp2_with (first|((with_reducible refine gate_callee (f := 103) rfl ?_);refine goesL_ (some 25) rfl rfl Try.func103 (by kernel_rfl) rfl #[.int .i64 ((rd_T74 s0_0 a1).f2)] rfl (by (try simp only [List.map_toArray, List.map_cons, List.map_nil]);first|done|rfl|(simp only [List.length_drop, List.length_take];rfl)) ?_;(with_reducible refine (impl_ZigPut.calls kj12 ((rd_T74 s0_0 a1).f2) t275 _ A16.out).mono ?_);rintro e w19 ⟨v276, rfl, ho0, hb⟩;refine ⟨_, rfl, ?_⟩;have n0_ := Aside0.mk (Kd.R_elder' (by (with_reducible repeat (first|apply Kd.R_alloc|apply Kd.R_drewN|apply Kd.R_drew));exact HO_6.out) (Kd.R_base ho0) hb);have n1_ := Aside0.mk (Kd.R_lower (Kd.R_new' ho0 (Kd.R_lt (by (with_reducible repeat (first|apply Kd.R_alloc|apply Kd.R_drewN|apply Kd.R_drew));exact HO_6.out))) (keep_size (w := w) (g := g) (row := none) (by repeat (first|(with_reducible first|exact HK.out|apply KeepBut.set_|apply keep_drewN|apply keep_drew|apply keep_alloc|refine keep_far ?_ GW271.out _)|exact HK.out))));have n2_ := Aside0.mk (blk_below (g := gb271) (o := .cells #[.int .i64 ((rd_T74 s0_0 a1).f0), .int .i64 ((rd_T74 s0_0 a1).f1), .int .i64 ((rd_T74 s0_0 a1).f2), .string ((rd_T74 s0_0 a1).f3), .int .i64 ((rd_T74 s0_0 a1).f4)] 74 (0, 0)) (by (with_reducible repeat (first|refine blk_drewN ?_ _|refine blk_drew ?_|refine blk_alloc ?_ _));exact BK271.out) hb);have n3_ := Aside0.mk (IsS81.below (by repeat (first|(with_reducible first|exact HI0.out|apply IsS81.alloc|apply IsS81.drewN|apply IsS81.drew|refine IsS81.far ?_ NB0_271.out _)|exact HI0.out)) hb);have n4_ := Aside0.mk (KeepBut.trans (by repeat (first|(with_reducible first|exact HK.out|apply KeepBut.set_|apply keep_drewN|apply keep_drew|apply keep_alloc|refine keep_far ?_ GW271.out _)|exact HK.out)) (KeepBut.of_below hb g none) (.inl rfl));have n5_ := Aside0.mk (below_step (by repeat (first|(with_reducible first|exact HB.out|apply below_alloc|apply pw_below_drewN|apply below_drew1|refine below_set ?_ (IsS81.ge HI0.out)|refine below_set ?_ GE271.out)|exact HB.out)) hb);clear HO_6;clear BK271;clear HI0;clear HK;clear HB;have HO_6 := n0_;have HO277 := n1_;have BK271 := n2_;have HI0 := n3_;have HK := n4_;have HB := n5_;clear n0_ n1_ n2_ n3_ n4_ n5_;(try clear hb);(try clear hb2);(try clear hk);(try clear hi);(try clear ho0)))
       go_ret
       exact ⟨_, by first|rfl|(simp [errW_none, errW_some] <;> rfl)|(simp [*, errW_none, errW_some] <;> rfl)|(exfalso;simp only [Bool.not_eq_true', Bool.not_eq_false', decide_eq_false_iff_not, decide_eq_true_eq, decide_eq_decide, Int.not_lt, Int.not_le] at *;omega), by (with_reducible repeat (first|apply Kd.R_alloc|apply Kd.R_drewN|apply Kd.R_drew));exact Kd.R_mono HO277.out (fun _ hk => trivial), by repeat (first|(with_reducible first|exact HI0.out|apply IsS81.alloc|apply IsS81.drewN|apply IsS81.drew|refine IsS81.far ?_ NB0_271.out _)|exact HI0.out), by repeat (first|(with_reducible first|exact HB.out|apply below_alloc|apply pw_below_drewN|apply below_drew1|refine below_set ?_ (IsS81.ge HI0.out)|refine below_set ?_ GE271.out)|exact HB.out), by repeat (first|(with_reducible first|exact HK.out|apply KeepBut.set_|apply keep_drewN|apply keep_drew|apply keep_alloc|refine keep_far ?_ GW271.out _)|exact HK.out)⟩
      ·replace c15 := Bool.eq_false_iff.mpr c15
       subst c15
       have H1 : (if ((rd_T74 s0_0 a1).f0) = 8 then ((impl_UvarPut.f kj12 (((rd_T74 s0_0 a1).f3).size : Int)).bind fun t278 => (if t278.length + ((rd_T74 s0_0 a1).f3).size < 140737488355328 then (some (t278 ++ bytesOf ((rd_T74 s0_0 a1).f3))) else (none))) else (if ((rd_T74 s0_0 a1).f0) = 9 then (if ((rd_T74 s0_0 a1).f4) ≤ 14 then (if y272.length < 140737488355328 then (impl_tree_bytesOf.j1 kj12 a1 (y272 ++ [(wrap64 ((wrap64 (16 * ((rd_T74 s0_0 a1).f4))) + ((rd_T74 s0_0 a1).f2))) % 256]) s0_0 s0_1 ((rd_T74 s0_0 a1).f0) ((rd_T74 s0_0 a1).f1) ((rd_T74 s0_0 a1).f2) ((rd_T74 s0_0 a1).f3) ((rd_T74 s0_0 a1).f4)) else (none)) else ((some (([(wrap64 (240 + ((rd_T74 s0_0 a1).f2))) % 256] : List Int) : List Int)).bind fun y287 => ((impl_UvarPut.f kj12 ((rd_T74 s0_0 a1).f4)).bind fun t290 => (if y287.length + t290.length < 140737488355328 then (impl_tree_bytesOf.j1 kj12 a1 (y287 ++ t290) s0_0 s0_1 ((rd_T74 s0_0 a1).f0) ((rd_T74 s0_0 a1).f1) ((rd_T74 s0_0 a1).f2) ((rd_T74 s0_0 a1).f3) ((rd_T74 s0_0 a1).f4)) else (none))))) else (impl_tree_bytesOf.j1 kj12 a1 y272 s0_0 s0_1 ((rd_T74 s0_0 a1).f0) ((rd_T74 s0_0 a1).f1) ((rd_T74 s0_0 a1).f2) ((rd_T74 s0_0 a1).f3) ((rd_T74 s0_0 a1).f4)))) = some r := by rw [if_neg (show ¬ (false = true) by decide)] at H;exact H
       clear H
       have H := H1
       clear H1
       by_cases c20 : ((rd_T74 s0_0 a1).f0) = 8
       ·rw [if_pos c20] at H
        have c20b0 : (((rd_T74 s0_0 a1).f0) == 8) = true := beq_iff_eq.mpr c20
        have c20b1 : (((rd_T74 s0_0 a1).f0) != 8) = false := bne_eq_false_iff_eq.mpr c20
        clear c20
        replace H := Option.bind_eq_some_iff.mp H
        obtain ⟨t278, A210, H⟩ := H
        replace H : (if t278.length + ((rd_T74 s0_0 a1).f3).size < 140737488355328 then (some (t278 ++ bytesOf ((rd_T74 s0_0 a1).f3))) else (none)) = some r := H
        have A21 := Aside0.mk A210
        clear A210
        by_cases c22 : t278.length + ((rd_T74 s0_0 a1).f3).size < 140737488355328
        ·rw [if_pos c22] at H
         have LMc22 := Aside0.mk c22
         clear c22
         obtain ⟨y281, hy281⟩ : ∃ y_ : List Int, y_ = (t278 ++ bytesOf ((rd_T74 s0_0 a1).f3)) := ⟨_, rfl⟩
         replace H : (some y281) = some r := by first|(rw [hy281];with_reducible exact H)|(have H2_ := (Option.bind_some _ _).symm.trans H;rw [hy281];with_reducible exact H2_)|(have H2_ := (Option.bind_some _ _).symm.trans H;with_reducible exact H2_)|with_reducible exact H|(rw [hy281];exact H)|exact H
         have Ny281 := Aside0.mk hy281
         clear hy281
         obtain rfl := Option.some.inj H
         try go_wp2
         (try (rw [drewN_self wc];generalize hq_ : World.drewN wc _ = wc;have n0_ : Aside0 (Kd.R (Kd.int .u8) 5 wc w.heap.size (fun _ => True) v273 y272) := ⟨by rw [← hq_];exact (by (with_reducible repeat (first|apply Kd.R_alloc|apply Kd.R_drewN|apply Kd.R_drew));exact HO_6.out)⟩;have n1_ : Aside0 (wc.heap[gb271]? = some (.cells #[.int .i64 ((rd_T74 s0_0 a1).f0), .int .i64 ((rd_T74 s0_0 a1).f1), .int .i64 ((rd_T74 s0_0 a1).f2), .string ((rd_T74 s0_0 a1).f3), .int .i64 ((rd_T74 s0_0 a1).f4)] 74 (0, 0))) := ⟨by rw [← hq_];exact (by (with_reducible repeat (first|refine blk_drewN ?_ _|refine blk_drew ?_|refine blk_alloc ?_ _));exact BK271.out)⟩;have n2_ : Aside0 (IsS81 w0 wc g s0_0 s0_1) := ⟨by rw [← hq_];exact (by repeat (first|(with_reducible first|exact HI0.out|apply IsS81.alloc|apply IsS81.drewN|apply IsS81.drew|refine IsS81.far ?_ NB0_271.out _)|exact HI0.out))⟩;have n3_ : Aside0 (KeepBut w wc g none) := ⟨by rw [← hq_];exact (by repeat (first|(with_reducible first|exact HK.out|apply KeepBut.set_|apply keep_drewN|apply keep_drew|apply keep_alloc|refine keep_far ?_ GW271.out _)|exact HK.out))⟩;have n4_ : Aside0 (Below w0.heap.size w0 wc) := ⟨by rw [← hq_];exact (by repeat (first|(with_reducible first|exact HB.out|apply below_alloc|apply pw_below_drewN|apply below_drew1|refine below_set ?_ (IsS81.ge HI0.out)|refine below_set ?_ GE271.out)|exact HB.out))⟩;clear HO_6 BK271 HI0 HK HB hq_;have HO_6 := n0_;have BK271 := n1_;have HI0 := n2_;have HK := n3_;have HB := n4_;clear n0_ n1_ n2_ n3_ n4_))
         have n0_ := Aside0.mk (Kd.R_drew HO_6.out)
         have n1_ := Aside0.mk (blk_drew BK271.out)
         have n2_ := Aside0.mk (IsS81.drew HI0.out)
         have n3_ := Aside0.mk (keep_drew HK.out)
         have n4_ := Aside0.mk (below_drew1 HB.out)
         clear HO_6
         clear BK271
         clear HI0
         clear HK
         clear HB
         have HO_6 := n0_
         have BK271 := n1_
         have HI0 := n2_
         have HK := n3_
         have HB := n4_
         clear n0_ n1_ n2_ n3_ n4_
         refine start_ (n := 8) (S := fun w' => w'.cell? ⟨gb271, 0, none⟩ = some (.int .i64 ((rd_T74 s0_0 a1).f0)) ∧ w'.cell? ⟨gb271, 1, none⟩ = some (.int .i64 ((rd_T74 s0_0 a1).f1)) ∧ w'.cell? ⟨gb271, 2, none⟩ = some (.int .i64 ((rd_T74 s0_0 a1).f2)) ∧ w'.cell? ⟨gb271, 3, none⟩ = some (.string ((rd_T74 s0_0 a1).f3)) ∧ w'.cell? ⟨gb271, 4, none⟩ = some (.int .i64 ((rd_T74 s0_0 a1).f4))) (ds := []) #[false, false, false, false, false, false, false, false] (by kernel_rfl) rfl rfl ⟨(blk_cell BK271.out 0).trans rfl, (blk_cell BK271.out 1).trans rfl, (blk_cell BK271.out 2).trans rfl, (blk_cell BK271.out 3).trans rfl, (blk_cell BK271.out 4).trans rfl⟩ (fun hHeld => ?_);refine with_tabW impl_tree_bytesOf.tab8 impl_tree_bytesOf.bits8 (fun HT_ HW_ => ?_)
         generalize wc.drew = w23 at HO_6 BK271 HI0 HK HB hHeld ⊢
         refine pure_ (i := 0) (N := some 28) (v := ?_) (a' := ?_) #[true, false, false, false, false, false, false, false] rfl rfl (any_of HT_.out (by kernel_rfl)) (fun _ _ _ h => h) (Or.inl ⟨by rfl, ?_⟩) ?_ ?_
         rotate_left
         ·intro w'
          go_simp
          with_reducible rfl
         rotate_left
         ·simp only [Act.put, List.setIfInBounds_toArray, List.set_cons_zero, List.set_cons_succ, i64_w, i32_w]
          rfl
         refine pure_ (i := 4) (N := some 32) (v := ?_) (a' := ?_) #[true, false, false, false, true, false, false, false] rfl rfl (any_of HT_.out (by kernel_rfl)) (fun _ _ _ h => h) (Or.inl ⟨by rfl, ?_⟩) ?_ ?_
         rotate_left
         ·intro w'
          go_simp
          with_reducible rfl
         rotate_left
         ·simp only [Act.put, List.setIfInBounds_toArray, List.set_cons_zero, List.set_cons_succ, i64_w, i32_w]
          rfl
         refine take_ (i := 1) (N := some 29) (v := ?_) (a' := ?_) #[true, true, false, false, true, false, false, false] rfl rfl (take_ofW HT_.out HW_.out (by kernel_rfl)) (fun _ _ _ h => h) (Or.inl ⟨by rfl, ?_⟩) hHeld ?_ ?_
         rotate_left
         ·rintro w' ⟨s0, s1, s2, s3, s4⟩
          go_simp
          with_reducible rfl
         rotate_left
         ·simp only [Act.put, List.setIfInBounds_toArray, List.set_cons_zero, List.set_cons_succ, i64_w, i32_w]
          rfl
         refine pure_ (i := 2) (N := some 30) (v := ?_) (a' := ?_) #[true, true, true, false, true, false, false, false] rfl rfl (any_of HT_.out (by kernel_rfl)) (fun _ _ _ h => h) (Or.inl ⟨by rfl, ?_⟩) ?_ ?_
         rotate_left
         ·intro w'
          go_simp
          with_reducible rfl
         rotate_left
         ·simp only [Act.put, List.setIfInBounds_toArray, List.set_cons_zero, List.set_cons_succ, i64_w, i32_w]
          rfl
         refine take_ (i := 5) (N := some 33) (v := ?_) (a' := ?_) #[true, true, true, false, true, true, false, false] rfl rfl (take_ofW HT_.out HW_.out (by kernel_rfl)) (fun _ _ _ h => h) (Or.inl ⟨by rfl, ?_⟩) hHeld ?_ ?_
         rotate_left
         ·rintro w' ⟨s0, s1, s2, s3, s4⟩
          go_simp
          with_reducible rfl
         rotate_left
         ·simp only [Act.put, List.setIfInBounds_toArray, List.set_cons_zero, List.set_cons_succ, i64_w, i32_w]
          rfl
         refine one_ (i := 3) (N := some 31) #[true, true, true, true, true, true, false, false] rfl rfl (one_of HT_.out (by kernel_rfl)) (by decide) (fun K hK => ?_)
         refine goes_ Try.func104 (by kernel_rfl) rfl #[.int .i64 (((rd_T74 s0_0 a1).f3).size : Int)] (by rfl) rfl rfl (by (try simp only [List.map_toArray, List.map_cons, List.map_nil]);first|done|rfl|(simp only [List.length_drop, List.length_take];rfl)) ?_
         with_reducible refine (impl_UvarPut.calls kj12 (((rd_T74 s0_0 a1).f3).size : Int) t278 _ A21.out).mono ?_
         rintro e w24 ⟨v279, rfl, ho0, hb⟩
         refine ⟨_, rfl, ?_⟩
         have n0_ := Aside0.mk (Kd.R_elder' (by (with_reducible repeat (first|apply Kd.R_alloc|apply Kd.R_drewN|apply Kd.R_drew));exact HO_6.out) (Kd.R_base ho0) hb)
         have n1_ := Aside0.mk (Kd.R_lower (Kd.R_new' ho0 (Kd.R_lt (by (with_reducible repeat (first|apply Kd.R_alloc|apply Kd.R_drewN|apply Kd.R_drew));exact HO_6.out))) (keep_size (w := w) (g := g) (row := none) (by repeat (first|(with_reducible first|exact HK.out|apply KeepBut.set_|apply keep_drewN|apply keep_drew|apply keep_alloc|refine keep_far ?_ GW271.out _)|exact HK.out))))
         have n2_ := Aside0.mk (blk_below (g := gb271) (o := .cells #[.int .i64 ((rd_T74 s0_0 a1).f0), .int .i64 ((rd_T74 s0_0 a1).f1), .int .i64 ((rd_T74 s0_0 a1).f2), .string ((rd_T74 s0_0 a1).f3), .int .i64 ((rd_T74 s0_0 a1).f4)] 74 (0, 0)) (by (with_reducible repeat (first|refine blk_drewN ?_ _|refine blk_drew ?_|refine blk_alloc ?_ _));exact BK271.out) hb)
         have n3_ := Aside0.mk (IsS81.below (by repeat (first|(with_reducible first|exact HI0.out|apply IsS81.alloc|apply IsS81.drewN|apply IsS81.drew|refine IsS81.far ?_ NB0_271.out _)|exact HI0.out)) hb)
         have n4_ := Aside0.mk (KeepBut.trans (by repeat (first|(with_reducible first|exact HK.out|apply KeepBut.set_|apply keep_drewN|apply keep_drew|apply keep_alloc|refine keep_far ?_ GW271.out _)|exact HK.out)) (KeepBut.of_below hb g none) (.inl rfl))
         have n5_ := Aside0.mk (below_step (by repeat (first|(with_reducible first|exact HB.out|apply below_alloc|apply pw_below_drewN|apply below_drew1|refine below_set ?_ (IsS81.ge HI0.out)|refine below_set ?_ GE271.out)|exact HB.out)) hb)
         clear HO_6
         clear BK271
         clear HI0
         clear HK
         clear HB
         have HO_6 := n0_
         have HO280 := n1_
         have BK271 := n2_
         have HI0 := n3_
         have HK := n4_
         have HB := n5_
         clear n0_ n1_ n2_ n3_ n4_ n5_
         (try clear hb)
         (try clear hb2)
         (try clear hk)
         (try clear hi)
         (try clear ho0)
         refine hK.out _ _ ⟨(blk_cell BK271.out 0).trans rfl, (blk_cell BK271.out 1).trans rfl, (blk_cell BK271.out 2).trans rfl, (blk_cell BK271.out 3).trans rfl, (blk_cell BK271.out 4).trans rfl⟩ (fun hHeld => ?_)
         clear hK K
         refine norm_ (a' := ?_) ?_ ?_
         rotate_left
         ·show Act.put _ (some 31) _ = _
          simp only [Act.put, List.setIfInBounds_toArray, List.set_cons_zero, List.set_cons_succ, i64_w, i32_w]
          rfl
         refine one_ (i := 6) (N := some 34) #[true, true, true, true, true, true, true, false] rfl rfl (one_of HT_.out (by kernel_rfl)) (by decide) (fun K hK => ?_)
         refine append_str_step_ w.heap.size (by rfl) (.tmp 31) _ 50 9 5 rfl Try.underlying50 Try.underlying9 info5 v279 t278 ((rd_T74 s0_0 a1).f3) rfl rfl ?aO (Below.refl _ _) ?aS ?aL ?_
         (case aO => exact (Kd.own_of_R (by (with_reducible repeat (first|apply Kd.R_alloc|apply Kd.R_drewN|apply Kd.R_drew));exact Kd.R_mono HO280.out (fun _ hk => trivial))))
         (case aS => exact (keep_size (w := w) (g := g) (row := none) (by repeat (first|(with_reducible first|exact HK.out|apply KeepBut.set_|apply keep_drewN|apply keep_drew|apply keep_alloc|refine keep_far ?_ GW271.out _)|exact HK.out))))
         (case aL => have := LMc22.out;omega)
         intro v282 w25 ho0 hb hg
         have ho := Kd.R_of_own (h1 := fun _ => rfl) (ok := fun _ => True) ho0 (fun _ _ => trivial)
         clear ho0
         have hat := True.intro
         rw [← Ny281.out] at ho
         change Kd.R (Kd.int .u8) 5 w25 w.heap.size (fun _ => True) v282 y281 at ho
         have n0_ := Aside0.mk (blk_grown (g := gb271) (o := .cells #[.int .i64 ((rd_T74 s0_0 a1).f0), .int .i64 ((rd_T74 s0_0 a1).f1), .int .i64 ((rd_T74 s0_0 a1).f2), .string ((rd_T74 s0_0 a1).f3), .int .i64 ((rd_T74 s0_0 a1).f4)] 74 (0, 0)) (by (with_reducible repeat (first|refine blk_drewN ?_ _|refine blk_drew ?_|refine blk_alloc ?_ _));exact BK271.out) hg (Kd.R_ne HO280.out BK271.out (by decide)))
         have n1_ := Aside0.mk (IsS81.grown (by repeat (first|(with_reducible first|exact HI0.out|apply IsS81.alloc|apply IsS81.drewN|apply IsS81.drew|refine IsS81.far ?_ NB0_271.out _)|exact HI0.out)) hg (IsS81.own_ne HI0.out HO280.out (by decide)))
         have n2_ := Aside0.mk (below_weaken (by repeat (first|(with_reducible first|exact HB.out|apply below_alloc|apply pw_below_drewN|apply below_drew1|refine below_set ?_ (IsS81.ge HI0.out)|refine below_set ?_ GE271.out)|exact HB.out)) HL.out hb)
         have n3_ := Aside0.mk (KeepBut.trans (by repeat (first|(with_reducible first|exact HK.out|apply KeepBut.set_|apply keep_drewN|apply keep_drew|apply keep_alloc|refine keep_far ?_ GW271.out _)|exact HK.out)) (KeepBut.of_grown hg g) (Kd.R_base2 HO280.out))
         have n4_ := Aside0.mk (ho)
         clear BK271
         clear HI0
         clear HB
         clear HK
         clear HO280
         have BK271 := n0_
         have HI0 := n1_
         have HB := n2_
         have HK := n3_
         have HO283 := n4_
         clear n0_ n1_ n2_ n3_ n4_
         clear ho hb hg hat
         refine hK.out _ _ ⟨(blk_cell BK271.out 0).trans rfl, (blk_cell BK271.out 1).trans rfl, (blk_cell BK271.out 2).trans rfl, (blk_cell BK271.out 3).trans rfl, (blk_cell BK271.out 4).trans rfl⟩ (fun hHeld => ?_)
         clear hK K
         refine norm_ (a' := ?_) ?_ ?_
         rotate_left
         ·show Act.put _ (some 34) _ = _
          simp only [Act.put, List.setIfInBounds_toArray, List.set_cons_zero, List.set_cons_succ, i64_w, i32_w]
          rfl
         refine pure_ (i := 7) (N := some 4) (v := ?_) (a' := ?_) #[true, true, true, true, true, true, true, true] rfl rfl (any_of HT_.out (by kernel_rfl)) (fun _ _ _ h => h) (Or.inl ⟨by rfl, ?_⟩) ?_ ?_
         rotate_left
         ·intro w'
          go_simp
          with_reducible rfl
         rotate_left
         ·simp only [Act.put, List.setIfInBounds_toArray, List.set_cons_zero, List.set_cons_succ, i64_w, i32_w]
          rfl
         refine done_ (done_of HT_.out (by kernel_rfl)) ?_
         (try simp only [setCell_drewN_])
         try go_wp2
         go_ret
         exact ⟨_, by first|rfl|(simp [errW_none, errW_some] <;> rfl)|(simp [*, errW_none, errW_some] <;> rfl)|(exfalso;simp only [Bool.not_eq_true', Bool.not_eq_false', decide_eq_false_iff_not, decide_eq_true_eq, decide_eq_decide, Int.not_lt, Int.not_le] at *;omega), by (with_reducible repeat (first|apply Kd.R_alloc|apply Kd.R_drewN|apply Kd.R_drew));exact HO283.out, by repeat (first|(with_reducible first|exact HI0.out|apply IsS81.alloc|apply IsS81.drewN|apply IsS81.drew|refine IsS81.far ?_ NB0_271.out _)|exact HI0.out), by repeat (first|(with_reducible first|exact HB.out|apply below_alloc|apply pw_below_drewN|apply below_drew1|refine below_set ?_ (IsS81.ge HI0.out)|refine below_set ?_ GE271.out)|exact HB.out), by repeat (first|(with_reducible first|exact HK.out|apply KeepBut.set_|apply keep_drewN|apply keep_drew|apply keep_alloc|refine keep_far ?_ GW271.out _)|exact HK.out)⟩
        ·rw [if_neg c22] at H
         exact absurd H (by simp)
       ·rw [if_neg c20] at H
        have c20b0 : (((rd_T74 s0_0 a1).f0) == 8) = false := beq_eq_false_iff_ne.mpr c20
        have c20b1 : (((rd_T74 s0_0 a1).f0) != 8) = true := bne_iff_ne.mpr c20
        by_cases c26 : ((rd_T74 s0_0 a1).f0) = 9
        ·rw [if_pos c26] at H
         have c26b0 : (((rd_T74 s0_0 a1).f0) == 9) = true := beq_iff_eq.mpr c26
         have c26b1 : (((rd_T74 s0_0 a1).f0) != 9) = false := bne_eq_false_iff_eq.mpr c26
         clear c26
         by_cases c27 : ((rd_T74 s0_0 a1).f4) ≤ 14
         ·rw [if_pos c27] at H
          have c27b0 : decide (((rd_T74 s0_0 a1).f4) ≤ 14) = true := decide_eq_true c27
          clear c27
          by_cases c28 : y272.length < 140737488355328
          ·rw [if_pos c28] at H
           have LMc28 := Aside0.mk c28
           clear c28
           obtain ⟨y284, hy284⟩ : ∃ y_ : List Int, y_ = (y272 ++ [(wrap64 ((wrap64 (16 * ((rd_T74 s0_0 a1).f4))) + ((rd_T74 s0_0 a1).f2))) % 256]) := ⟨_, rfl⟩
           replace H : (impl_tree_bytesOf.j1 kj12 a1 y284 s0_0 s0_1 ((rd_T74 s0_0 a1).f0) ((rd_T74 s0_0 a1).f1) ((rd_T74 s0_0 a1).f2) ((rd_T74 s0_0 a1).f3) ((rd_T74 s0_0 a1).f4)) = some r := by first|(rw [hy284];with_reducible exact H)|(have H2_ := (Option.bind_some _ _).symm.trans H;rw [hy284];with_reducible exact H2_)|(have H2_ := (Option.bind_some _ _).symm.trans H;with_reducible exact H2_)|with_reducible exact H|(rw [hy284];exact H)|exact H
           have Ny284 := Aside0.mk hy284
           clear hy284
           have H' := Aside0.mk H
           clear H
           have hnb29 := NB271_0.out
           have hnc29 := NB0_271.out
           obtain ⟨hcz30_0, hcz30_1, hcz30_2, hcz30_3, hcz30_4, hfz30_0, hfz30_1, hfz30_2, hfz30_3, hfz30_4⟩ := blk5_ BK271.out
           go_wp2_with (first|((with_reducible refine gate_builtin (b := .append) (xs := #[.tmp 40, .tmp 48]) rfl ?_);at_builtin;refine Kd.R_append (Kd.int .u8) w.heap.size rfl (.tmp 40) (.tmp 48) 50 5 (.int .u8 0) 1 rfl Try.underlying50 info5 rfl (by decide) (by omega) v273 y272 ((wrap64 ((wrap64 (16 * ((rd_T74 s0_0 a1).f4))) + ((rd_T74 s0_0 a1).f2))) % 256) [.int .u8 ((wrap64 ((wrap64 (16 * ((rd_T74 s0_0 a1).f4))) + ((rd_T74 s0_0 a1).f2))) % 256)] (fun _ => True) (fun _ => False) rfl rfl ?aP (fun _ hk => hk.elim) ?aF ?aO (Below.refl _ _) ?aS ?aL ?_;(case aP => exact rfl);(case aF => exact (fun _ _ => trivial));(case aO => exact (by (with_reducible repeat (first|apply Kd.R_alloc|apply Kd.R_drewN|apply Kd.R_drew));exact HO_6.out));(case aS => exact (keep_size (w := w) (g := g) (row := none) (by repeat (first|(with_reducible first|exact HK.out|apply KeepBut.set_|apply keep_drewN|apply keep_drew|apply keep_alloc|refine keep_far ?_ GW271.out _)|exact HK.out))));(case aL => have := LMc28.out;omega);intro v285 w31 ho hb hg hat;rw [← Ny284.out] at ho;have n0_ := Aside0.mk (blk_grown (g := gb271) (o := .cells #[.int .i64 ((rd_T74 s0_0 a1).f0), .int .i64 ((rd_T74 s0_0 a1).f1), .int .i64 ((rd_T74 s0_0 a1).f2), .string ((rd_T74 s0_0 a1).f3), .int .i64 ((rd_T74 s0_0 a1).f4)] 74 (0, 0)) (by (with_reducible repeat (first|refine blk_drewN ?_ _|refine blk_drew ?_|refine blk_alloc ?_ _));exact BK271.out) hg (Kd.R_ne HO_6.out BK271.out (by decide)));have n1_ := Aside0.mk (IsS81.grown (by repeat (first|(with_reducible first|exact HI0.out|apply IsS81.alloc|apply IsS81.drewN|apply IsS81.drew|refine IsS81.far ?_ NB0_271.out _)|exact HI0.out)) hg (IsS81.own_ne HI0.out HO_6.out (by decide)));have n2_ := Aside0.mk (below_weaken (by repeat (first|(with_reducible first|exact HB.out|apply below_alloc|apply pw_below_drewN|apply below_drew1|refine below_set ?_ (IsS81.ge HI0.out)|refine below_set ?_ GE271.out)|exact HB.out)) HL.out hb);have n3_ := Aside0.mk (KeepBut.trans (by repeat (first|(with_reducible first|exact HK.out|apply KeepBut.set_|apply keep_drewN|apply keep_drew|apply keep_alloc|refine keep_far ?_ GW271.out _)|exact HK.out)) (KeepBut.of_grown hg g) (Kd.R_base2 HO_6.out));have n4_ := Aside0.mk (ho);clear BK271;clear HI0;clear HB;clear HK;clear HO_6;have BK271 := n0_;have HI0 := n1_;have HB := n2_;have HK := n3_;have HO286 := n4_;clear n0_ n1_ n2_ n3_ n4_;clear ho hb hg hat))
           go_meet
           case rel => exact ⟨_, (y284), H', ⟨by have := HJ12.out;first|omega|exact Nat.le_refl _⟩, ⟨by (with_reducible repeat (first|apply Kd.R_alloc|apply Kd.R_drewN|apply Kd.R_drew));exact HO286.out⟩, ⟨by (with_reducible repeat (first|refine blk_drewN ?_ _|refine blk_drew ?_|refine blk_alloc ?_ _));exact BK271.out⟩, ⟨by repeat (first|(with_reducible first|exact HI0.out|apply IsS81.alloc|apply IsS81.drewN|apply IsS81.drew|refine IsS81.far ?_ NB0_271.out _)|exact HI0.out)⟩, ⟨by repeat (first|(with_reducible first|exact HK.out|apply KeepBut.set_|apply keep_drewN|apply keep_drew|apply keep_alloc|refine keep_far ?_ GW271.out _)|exact HK.out)⟩, ⟨by repeat (first|(with_reducible first|exact HB.out|apply below_alloc|apply pw_below_drewN|apply below_drew1|refine below_set ?_ (IsS81.ge HI0.out)|refine below_set ?_ GE271.out)|exact HB.out)⟩⟩
          ·rw [if_neg c28] at H
           exact absurd H (by simp)
         ·rw [if_neg c27] at H
          have c27b0 : decide (((rd_T74 s0_0 a1).f4) ≤ 14) = false := decide_eq_false c27
          clear c27
          obtain ⟨y287, hy287⟩ : ∃ y_ : List Int, y_ = (([(wrap64 (240 + ((rd_T74 s0_0 a1).f2))) % 256] : List Int)) := ⟨_, rfl⟩
          replace H : ((impl_UvarPut.f kj12 ((rd_T74 s0_0 a1).f4)).bind fun t290 => (if y287.length + t290.length < 140737488355328 then (impl_tree_bytesOf.j1 kj12 a1 (y287 ++ t290) s0_0 s0_1 ((rd_T74 s0_0 a1).f0) ((rd_T74 s0_0 a1).f1) ((rd_T74 s0_0 a1).f2) ((rd_T74 s0_0 a1).f3) ((rd_T74 s0_0 a1).f4)) else (none))) = some r := by first|(rw [hy287];with_reducible exact H)|(have H2_ := (Option.bind_some _ _).symm.trans H;rw [hy287];with_reducible exact H2_)|(have H2_ := (Option.bind_some _ _).symm.trans H;with_reducible exact H2_)|with_reducible exact H|(rw [hy287];exact H)|exact H
          have Ny287 := Aside0.mk hy287
          clear hy287
          replace H := Option.bind_eq_some_iff.mp H
          obtain ⟨t290, A320, H⟩ := H
          replace H : (if y287.length + t290.length < 140737488355328 then (impl_tree_bytesOf.j1 kj12 a1 (y287 ++ t290) s0_0 s0_1 ((rd_T74 s0_0 a1).f0) ((rd_T74 s0_0 a1).f1) ((rd_T74 s0_0 a1).f2) ((rd_T74 s0_0 a1).f3) ((rd_T74 s0_0 a1).f4)) else (none)) = some r := H
          have A32 := Aside0.mk A320
          clear A320
          by_cases c33 : y287.length + t290.length < 140737488355328
          ·rw [if_pos c33] at H
           have LMc33 := Aside0.mk c33
           clear c33
           obtain ⟨y293, hy293⟩ : ∃ y_ : List Int, y_ = (y287 ++ t290) := ⟨_, rfl⟩
           replace H : (impl_tree_bytesOf.j1 kj12 a1 y293 s0_0 s0_1 ((rd_T74 s0_0 a1).f0) ((rd_T74 s0_0 a1).f1) ((rd_T74 s0_0 a1).f2) ((rd_T74 s0_0 a1).f3) ((rd_T74 s0_0 a1).f4)) = some r := by first|(rw [hy293];with_reducible exact H)|(have H2_ := (Option.bind_some _ _).symm.trans H;rw [hy293];with_reducible exact H2_)|(have H2_ := (Option.bind_some _ _).symm.trans H;with_reducible exact H2_)|with_reducible exact H|(rw [hy293];exact H)|exact H
           have Ny293 := Aside0.mk hy293
           clear hy293
           have H' := Aside0.mk H
           clear H
           have hnb34 := NB271_0.out
           have hnc34 := NB0_271.out
           obtain ⟨hcz35_0, hcz35_1, hcz35_2, hcz35_3, hcz35_4, hfz35_0, hfz35_1, hfz35_2, hfz35_3, hfz35_4⟩ := blk5_ BK271.out
           try go_wp2
           (try (rw [drewN_self wc];generalize hq_ : World.drewN wc _ = wc;have n0_ : Aside0 (Kd.R (Kd.int .u8) 5 wc w.heap.size (fun _ => True) v273 y272) := ⟨by rw [← hq_];exact (by (with_reducible repeat (first|apply Kd.R_alloc|apply Kd.R_drewN|apply Kd.R_drew));exact HO_6.out)⟩;have n1_ : Aside0 (wc.heap[gb271]? = some (.cells #[.int .i64 ((rd_T74 s0_0 a1).f0), .int .i64 ((rd_T74 s0_0 a1).f1), .int .i64 ((rd_T74 s0_0 a1).f2), .string ((rd_T74 s0_0 a1).f3), .int .i64 ((rd_T74 s0_0 a1).f4)] 74 (0, 0))) := ⟨by rw [← hq_];exact (by (with_reducible repeat (first|refine blk_drewN ?_ _|refine blk_drew ?_|refine blk_alloc ?_ _));exact BK271.out)⟩;have n2_ : Aside0 (IsS81 w0 wc g s0_0 s0_1) := ⟨by rw [← hq_];exact (by repeat (first|(with_reducible first|exact HI0.out|apply IsS81.alloc|apply IsS81.drewN|apply IsS81.drew|refine IsS81.far ?_ NB0_271.out _)|exact HI0.out))⟩;have n3_ : Aside0 (KeepBut w wc g none) := ⟨by rw [← hq_];exact (by repeat (first|(with_reducible first|exact HK.out|apply KeepBut.set_|apply keep_drewN|apply keep_drew|apply keep_alloc|refine keep_far ?_ GW271.out _)|exact HK.out))⟩;have n4_ : Aside0 (Below w0.heap.size w0 wc) := ⟨by rw [← hq_];exact (by repeat (first|(with_reducible first|exact HB.out|apply below_alloc|apply pw_below_drewN|apply below_drew1|refine below_set ?_ (IsS81.ge HI0.out)|refine below_set ?_ GE271.out)|exact HB.out))⟩;clear HO_6 BK271 HI0 HK HB hq_;have HO_6 := n0_;have BK271 := n1_;have HI0 := n2_;have HK := n3_;have HB := n4_;clear n0_ n1_ n2_ n3_ n4_))
           have n0_ := Aside0.mk (Kd.R_drew HO_6.out)
           have n1_ := Aside0.mk (blk_drew BK271.out)
           have n2_ := Aside0.mk (IsS81.drew HI0.out)
           have n3_ := Aside0.mk (keep_drew HK.out)
           have n4_ := Aside0.mk (below_drew1 HB.out)
           clear HO_6
           clear BK271
           clear HI0
           clear HK
           clear HB
           have HO_6 := n0_
           have BK271 := n1_
           have HI0 := n2_
           have HK := n3_
           have HB := n4_
           clear n0_ n1_ n2_ n3_ n4_
           refine start_ (n := 10) (S := fun w' => w'.cell? ⟨gb271, 0, none⟩ = some (.int .i64 ((rd_T74 s0_0 a1).f0)) ∧ w'.cell? ⟨gb271, 1, none⟩ = some (.int .i64 ((rd_T74 s0_0 a1).f1)) ∧ w'.cell? ⟨gb271, 2, none⟩ = some (.int .i64 ((rd_T74 s0_0 a1).f2)) ∧ w'.cell? ⟨gb271, 3, none⟩ = some (.string ((rd_T74 s0_0 a1).f3)) ∧ w'.cell? ⟨gb271, 4, none⟩ = some (.int .i64 ((rd_T74 s0_0 a1).f4))) (ds := []) #[false, false, false, false, false, false, false, false, false, false] (by kernel_rfl) rfl rfl ⟨(blk_cell BK271.out 0).trans rfl, (blk_cell BK271.out 1).trans rfl, (blk_cell BK271.out 2).trans rfl, (blk_cell BK271.out 3).trans rfl, (blk_cell BK271.out 4).trans rfl⟩ (fun hHeld => ?_);refine with_tabW impl_tree_bytesOf.tab12 impl_tree_bytesOf.bits12 (fun HT_ HW_ => ?_)
           generalize wc.drew = w36 at HO_6 BK271 HI0 HK HB hHeld ⊢
           refine pure_ (i := 0) (N := some 50) (v := ?_) (a' := ?_) #[true, false, false, false, false, false, false, false, false, false] rfl rfl (any_of HT_.out (by kernel_rfl)) (fun _ _ _ h => h) (Or.inl ⟨by rfl, ?_⟩) ?_ ?_
           rotate_left
           ·intro w'
            go_simp
            with_reducible rfl
           rotate_left
           ·simp only [Act.put, List.setIfInBounds_toArray, List.set_cons_zero, List.set_cons_succ, i64_w, i32_w]
            rfl
           refine pure_ (i := 5) (N := some 55) (v := ?_) (a' := ?_) #[true, false, false, false, false, true, false, false, false, false] rfl rfl (any_of HT_.out (by kernel_rfl)) (fun _ _ _ h => h) (Or.inl ⟨by rfl, ?_⟩) ?_ ?_
           rotate_left
           ·intro w'
            go_simp
            with_reducible rfl
           rotate_left
           ·simp only [Act.put, List.setIfInBounds_toArray, List.set_cons_zero, List.set_cons_succ, i64_w, i32_w]
            rfl
           refine take_ (i := 1) (N := some 51) (v := ?_) (a' := ?_) #[true, true, false, false, false, true, false, false, false, false] rfl rfl (take_ofW HT_.out HW_.out (by kernel_rfl)) (fun _ _ _ h => h) (Or.inl ⟨by rfl, ?_⟩) hHeld ?_ ?_
           rotate_left
           ·rintro w' ⟨s0, s1, s2, s3, s4⟩
            go_simp
            with_reducible rfl
           rotate_left
           ·simp only [Act.put, List.setIfInBounds_toArray, List.set_cons_zero, List.set_cons_succ, i64_w, i32_w]
            rfl
           refine pure_ (i := 2) (N := some 52) (v := ?_) (a' := ?_) #[true, true, true, false, false, true, false, false, false, false] rfl rfl (any_of HT_.out (by kernel_rfl)) (fun _ _ _ h => h) (Or.inl ⟨by rfl, ?_⟩) ?_ ?_
           rotate_left
           ·intro w'
            go_simp
            with_reducible rfl
           rotate_left
           ·simp only [Act.put, List.setIfInBounds_toArray, List.set_cons_zero, List.set_cons_succ, i64_w, i32_w]
            rfl
           refine pure_ (i := 3) (N := some 53) (v := ?_) (a' := ?_) #[true, true, true, true, false, true, false, false, false, false] rfl rfl (any_of HT_.out (by kernel_rfl)) (fun _ _ _ h => h) (Or.inl ⟨by rfl, ?_⟩) ?_ ?_
           rotate_left
           ·intro w'
            go_simp
            with_reducible rfl
           rotate_left
           ·simp only [Act.put, List.setIfInBounds_toArray, List.set_cons_zero, List.set_cons_succ, i64_w, i32_w]
            rfl
           refine take_ (i := 6) (N := some 56) (v := ?_) (a' := ?_) #[true, true, true, true, false, true, true, false, false, false] rfl rfl (take_ofW HT_.out HW_.out (by kernel_rfl)) (fun _ _ _ h => h) (Or.inl ⟨by rfl, ?_⟩) hHeld ?_ ?_
           rotate_left
           ·rintro w' ⟨s0, s1, s2, s3, s4⟩
            go_simp
            with_reducible rfl
           rotate_left
           ·simp only [Act.put, List.setIfInBounds_toArray, List.set_cons_zero, List.set_cons_succ, i64_w, i32_w]
            rfl
           refine join_ (σ := Value × Value) 2 #[true, true, true, true, true, true, true, true, false, false] (fun s_ => [(54, s_.1), (57, s_.2)]) (fun s_ w' => (w'.cell? ⟨gb271, 0, none⟩ = some (.int .i64 ((rd_T74 s0_0 a1).f0)) ∧ w'.cell? ⟨gb271, 1, none⟩ = some (.int .i64 ((rd_T74 s0_0 a1).f1)) ∧ w'.cell? ⟨gb271, 2, none⟩ = some (.int .i64 ((rd_T74 s0_0 a1).f2)) ∧ w'.cell? ⟨gb271, 3, none⟩ = some (.string ((rd_T74 s0_0 a1).f3)) ∧ w'.cell? ⟨gb271, 4, none⟩ = some (.int .i64 ((rd_T74 s0_0 a1).f4))) ∧ (Kd.R (Kd.int .u8) 5 w' w.heap.size (fun k_ => some k_ ≠ (s_.2 : Value).ownBlock ∧ some k_ ≠ (v273 : Value).ownBlock) s_.1 y287) ∧ (Kd.R (Kd.int .u8) 5 w' w.heap.size (fun k_ => some k_ ≠ (s_.1 : Value).ownBlock ∧ some k_ ≠ (v273 : Value).ownBlock) s_.2 t290) ∧ (Kd.R (Kd.int .u8) 5 w' w.heap.size (fun k_ => some k_ ≠ (s_.1 : Value).ownBlock ∧ some k_ ≠ (s_.2 : Value).ownBlock) v273 y272) ∧ (w'.heap[gb271]? = some (.cells #[.int .i64 ((rd_T74 s0_0 a1).f0), .int .i64 ((rd_T74 s0_0 a1).f1), .int .i64 ((rd_T74 s0_0 a1).f2), .string ((rd_T74 s0_0 a1).f3), .int .i64 ((rd_T74 s0_0 a1).f4)] 74 (0, 0))) ∧ (IsS81 w0 w' g s0_0 s0_1) ∧ (KeepBut w w' g none) ∧ (Below w0.heap.size w0 w')) ?_ ?_
           rotate_left
           ·intro hCont
            refine two_ (i := 4) (j := 7) (Ni := some 54) (Nj := some 57) #[true, true, true, true, true, true, true, false, false, false] #[true, true, true, true, false, true, true, true, false, false] rfl rfl rfl rfl (two_of HT_.out (by kernel_rfl)) (by decide) (by decide) (fun K hK => ?_) (fun K hK => ?_)
            ·skip
             refine Kd.R_lit_step (Kd.int .u8) _ 5 ?hg (N := 54) ?hd (xs := ([(wrap64 (240 + ((rd_T74 s0_0 a1).f2))) % 256] : List Int)) (inner := [.int .u8 ((wrap64 (240 + ((rd_T74 s0_0 a1).f2))) % 256)]) (ok := fun _ => True) (okp := fun _ => True) ?hr ?hp (fun _ hk => hk) trivial (Below.refl _ _) (Nat.le_refl _) (by simp) ?_;(case hd => rfl);(case hg => rfl);(case hr => first|(go_simp;done)|(go_simp;rfl));(case hp => exact (Reps.one (show Kd.M (Kd.int .u8) _ _ _ ((wrap64 (240 + ((rd_T74 s0_0 a1).f2))) % 256) [.int .u8 ((wrap64 (240 + ((rd_T74 s0_0 a1).f2))) % 256)] from rfl) (Reps.none _ _)))
             intro v288 w37 ho38 hb hg_ hnew_
             clear hg_ hnew_
             (first|rw [← Ny287.out] at ho38|(simp only [Int.reduceToNat] at ho38;rw [← Ny287.out] at ho38))
             have n0_ := Aside0.mk (Kd.R_elder' (by (with_reducible repeat (first|apply Kd.R_alloc|apply Kd.R_drewN|apply Kd.R_drew));exact HO_6.out) (Kd.R_base ho38) hb)
             have n1_ := Aside0.mk (Kd.R_lower (Kd.R_new' ho38 (Kd.R_lt (by (with_reducible repeat (first|apply Kd.R_alloc|apply Kd.R_drewN|apply Kd.R_drew));exact HO_6.out))) (keep_size (w := w) (g := g) (row := none) (by repeat (first|(with_reducible first|exact HK.out|apply KeepBut.set_|apply keep_drewN|apply keep_drew|apply keep_alloc|refine keep_far ?_ GW271.out _)|exact HK.out))))
             have n2_ := Aside0.mk (blk_below (g := gb271) (o := .cells #[.int .i64 ((rd_T74 s0_0 a1).f0), .int .i64 ((rd_T74 s0_0 a1).f1), .int .i64 ((rd_T74 s0_0 a1).f2), .string ((rd_T74 s0_0 a1).f3), .int .i64 ((rd_T74 s0_0 a1).f4)] 74 (0, 0)) (by (with_reducible repeat (first|refine blk_drewN ?_ _|refine blk_drew ?_|refine blk_alloc ?_ _));exact BK271.out) hb)
             have n3_ := Aside0.mk (IsS81.below (by repeat (first|(with_reducible first|exact HI0.out|apply IsS81.alloc|apply IsS81.drewN|apply IsS81.drew|refine IsS81.far ?_ NB0_271.out _)|exact HI0.out)) hb)
             have n4_ := Aside0.mk (KeepBut.trans (by repeat (first|(with_reducible first|exact HK.out|apply KeepBut.set_|apply keep_drewN|apply keep_drew|apply keep_alloc|refine keep_far ?_ GW271.out _)|exact HK.out)) (KeepBut.of_below hb g none) (.inl rfl))
             have n5_ := Aside0.mk (below_step (by repeat (first|(with_reducible first|exact HB.out|apply below_alloc|apply pw_below_drewN|apply below_drew1|refine below_set ?_ (IsS81.ge HI0.out)|refine below_set ?_ GE271.out)|exact HB.out)) hb)
             clear HO_6
             clear BK271
             clear HI0
             clear HK
             clear HB
             have HO_6 := n0_
             have HO289 := n1_
             have BK271 := n2_
             have HI0 := n3_
             have HK := n4_
             have HB := n5_
             clear n0_ n1_ n2_ n3_ n4_ n5_
             clear hb ho38
             refine hK.out _ _ ⟨(blk_cell BK271.out 0).trans rfl, (blk_cell BK271.out 1).trans rfl, (blk_cell BK271.out 2).trans rfl, (blk_cell BK271.out 3).trans rfl, (blk_cell BK271.out 4).trans rfl⟩ (fun hHeld => ?_)
             clear hK K
             refine norm_ (a' := ?_) ?_ ?_
             rotate_left
             ·show Act.put _ (some 54) _ = _
              simp only [Act.put, List.setIfInBounds_toArray, List.set_cons_zero, List.set_cons_succ, i64_w, i32_w]
              rfl
             refine one_ (i := 7) (N := some 57) #[true, true, true, true, true, true, true, true, false, false] rfl rfl (one_of HT_.out (by kernel_rfl)) (by decide) (fun K hK => ?_)
             refine goes_ Try.func104 (by kernel_rfl) rfl #[.int .i64 ((rd_T74 s0_0 a1).f4)] (by rfl) rfl rfl (by (try simp only [List.map_toArray, List.map_cons, List.map_nil]);first|done|rfl|(simp only [List.length_drop, List.length_take];rfl)) ?_
             with_reducible refine (impl_UvarPut.calls kj12 ((rd_T74 s0_0 a1).f4) t290 _ A32.out).mono ?_
             rintro e w39 ⟨v291, rfl, ho0, hb⟩
             refine ⟨_, rfl, ?_⟩
             have n0_ := Aside0.mk (Kd.R_elder' (by (with_reducible repeat (first|apply Kd.R_alloc|apply Kd.R_drewN|apply Kd.R_drew));exact HO_6.out) (Kd.R_base ho0) hb)
             have n1_ := Aside0.mk (Kd.R_elder' (by (with_reducible repeat (first|apply Kd.R_alloc|apply Kd.R_drewN|apply Kd.R_drew));exact HO289.out) (Kd.R_base ho0) hb)
             have n2_ := Aside0.mk (Kd.R_lower (Kd.R_new' (Kd.R_new' ho0 (Kd.R_lt (by (with_reducible repeat (first|apply Kd.R_alloc|apply Kd.R_drewN|apply Kd.R_drew));exact HO_6.out))) (Kd.R_lt (by (with_reducible repeat (first|apply Kd.R_alloc|apply Kd.R_drewN|apply Kd.R_drew));exact HO289.out))) (keep_size (w := w) (g := g) (row := none) (by repeat (first|(with_reducible first|exact HK.out|apply KeepBut.set_|apply keep_drewN|apply keep_drew|apply keep_alloc|refine keep_far ?_ GW271.out _)|exact HK.out))))
             have n3_ := Aside0.mk (blk_below (g := gb271) (o := .cells #[.int .i64 ((rd_T74 s0_0 a1).f0), .int .i64 ((rd_T74 s0_0 a1).f1), .int .i64 ((rd_T74 s0_0 a1).f2), .string ((rd_T74 s0_0 a1).f3), .int .i64 ((rd_T74 s0_0 a1).f4)] 74 (0, 0)) (by (with_reducible repeat (first|refine blk_drewN ?_ _|refine blk_drew ?_|refine blk_alloc ?_ _));exact BK271.out) hb)
             have n4_ := Aside0.mk (IsS81.below (by repeat (first|(with_reducible first|exact HI0.out|apply IsS81.alloc|apply IsS81.drewN|apply IsS81.drew|refine IsS81.far ?_ NB0_271.out _)|exact HI0.out)) hb)
             have n5_ := Aside0.mk (KeepBut.trans (by repeat (first|(with_reducible first|exact HK.out|apply KeepBut.set_|apply keep_drewN|apply keep_drew|apply keep_alloc|refine keep_far ?_ GW271.out _)|exact HK.out)) (KeepBut.of_below hb g none) (.inl rfl))
             have n6_ := Aside0.mk (below_step (by repeat (first|(with_reducible first|exact HB.out|apply below_alloc|apply pw_below_drewN|apply below_drew1|refine below_set ?_ (IsS81.ge HI0.out)|refine below_set ?_ GE271.out)|exact HB.out)) hb)
             clear HO_6
             clear HO289
             clear BK271
             clear HI0
             clear HK
             clear HB
             have HO_6 := n0_
             have HO289 := n1_
             have HO292 := n2_
             have BK271 := n3_
             have HI0 := n4_
             have HK := n5_
             have HB := n6_
             clear n0_ n1_ n2_ n3_ n4_ n5_ n6_
             (try clear hb)
             (try clear hb2)
             (try clear hk)
             (try clear hi)
             (try clear ho0)
             refine hK.out _ _ ⟨(blk_cell BK271.out 0).trans rfl, (blk_cell BK271.out 1).trans rfl, (blk_cell BK271.out 2).trans rfl, (blk_cell BK271.out 3).trans rfl, (blk_cell BK271.out 4).trans rfl⟩ (fun hHeld => ?_)
             clear hK K
             refine norm_ (a' := ?_) ?_ ?_
             rotate_left
             ·show Act.put _ (some 57) _ = _
              simp only [Act.put, List.setIfInBounds_toArray, List.set_cons_zero, List.set_cons_succ, i64_w, i32_w]
              rfl
             exact norm_ (by simp only [putAll, Act.put, List.setIfInBounds_toArray, List.set_cons_zero, List.set_cons_succ]) (hCont (v288, v291) _ ⟨hHeld, (by (with_reducible repeat (first|apply Kd.R_alloc|apply Kd.R_drewN|apply Kd.R_drew));exact Kd.R_mono HO289.out (fun _ hk => ⟨hk.2, hk.1.2⟩)), (by (with_reducible repeat (first|apply Kd.R_alloc|apply Kd.R_drewN|apply Kd.R_drew));exact Kd.R_mono HO292.out (fun _ hk => ⟨hk.2, hk.1.2⟩)), (by (with_reducible repeat (first|apply Kd.R_alloc|apply Kd.R_drewN|apply Kd.R_drew));exact Kd.R_mono HO_6.out (fun _ hk => ⟨hk.1.2, hk.2⟩)), (by (with_reducible repeat (first|refine blk_drewN ?_ _|refine blk_drew ?_|refine blk_alloc ?_ _));exact BK271.out), (by repeat (first|(with_reducible first|exact HI0.out|apply IsS81.alloc|apply IsS81.drewN|apply IsS81.drew|refine IsS81.far ?_ NB0_271.out _)|exact HI0.out)), (by repeat (first|(with_reducible first|exact HK.out|apply KeepBut.set_|apply keep_drewN|apply keep_drew|apply keep_alloc|refine keep_far ?_ GW271.out _)|exact HK.out)), (by repeat (first|(with_reducible first|exact HB.out|apply below_alloc|apply pw_below_drewN|apply below_drew1|refine below_set ?_ (IsS81.ge HI0.out)|refine below_set ?_ GE271.out)|exact HB.out))⟩)
            ·skip
             refine goes_ Try.func104 (by kernel_rfl) rfl #[.int .i64 ((rd_T74 s0_0 a1).f4)] (by rfl) rfl rfl (by (try simp only [List.map_toArray, List.map_cons, List.map_nil]);first|done|rfl|(simp only [List.length_drop, List.length_take];rfl)) ?_
             with_reducible refine (impl_UvarPut.calls kj12 ((rd_T74 s0_0 a1).f4) t290 _ A32.out).mono ?_
             rintro e w37 ⟨v291, rfl, ho0, hb⟩
             refine ⟨_, rfl, ?_⟩
             have n0_ := Aside0.mk (Kd.R_elder' (by (with_reducible repeat (first|apply Kd.R_alloc|apply Kd.R_drewN|apply Kd.R_drew));exact HO_6.out) (Kd.R_base ho0) hb)
             have n1_ := Aside0.mk (Kd.R_lower (Kd.R_new' ho0 (Kd.R_lt (by (with_reducible repeat (first|apply Kd.R_alloc|apply Kd.R_drewN|apply Kd.R_drew));exact HO_6.out))) (keep_size (w := w) (g := g) (row := none) (by repeat (first|(with_reducible first|exact HK.out|apply KeepBut.set_|apply keep_drewN|apply keep_drew|apply keep_alloc|refine keep_far ?_ GW271.out _)|exact HK.out))))
             have n2_ := Aside0.mk (blk_below (g := gb271) (o := .cells #[.int .i64 ((rd_T74 s0_0 a1).f0), .int .i64 ((rd_T74 s0_0 a1).f1), .int .i64 ((rd_T74 s0_0 a1).f2), .string ((rd_T74 s0_0 a1).f3), .int .i64 ((rd_T74 s0_0 a1).f4)] 74 (0, 0)) (by (with_reducible repeat (first|refine blk_drewN ?_ _|refine blk_drew ?_|refine blk_alloc ?_ _));exact BK271.out) hb)
             have n3_ := Aside0.mk (IsS81.below (by repeat (first|(with_reducible first|exact HI0.out|apply IsS81.alloc|apply IsS81.drewN|apply IsS81.drew|refine IsS81.far ?_ NB0_271.out _)|exact HI0.out)) hb)
             have n4_ := Aside0.mk (KeepBut.trans (by repeat (first|(with_reducible first|exact HK.out|apply KeepBut.set_|apply keep_drewN|apply keep_drew|apply keep_alloc|refine keep_far ?_ GW271.out _)|exact HK.out)) (KeepBut.of_below hb g none) (.inl rfl))
             have n5_ := Aside0.mk (below_step (by repeat (first|(with_reducible first|exact HB.out|apply below_alloc|apply pw_below_drewN|apply below_drew1|refine below_set ?_ (IsS81.ge HI0.out)|refine below_set ?_ GE271.out)|exact HB.out)) hb)
             clear HO_6
             clear BK271
             clear HI0
             clear HK
             clear HB
             have HO_6 := n0_
             have HO292 := n1_
             have BK271 := n2_
             have HI0 := n3_
             have HK := n4_
             have HB := n5_
             clear n0_ n1_ n2_ n3_ n4_ n5_
             (try clear hb)
             (try clear hb2)
             (try clear hk)
             (try clear hi)
             (try clear ho0)
             refine hK.out _ _ ⟨(blk_cell BK271.out 0).trans rfl, (blk_cell BK271.out 1).trans rfl, (blk_cell BK271.out 2).trans rfl, (blk_cell BK271.out 3).trans rfl, (blk_cell BK271.out 4).trans rfl⟩ (fun hHeld => ?_)
             clear hK K
             refine norm_ (a' := ?_) ?_ ?_
             rotate_left
             ·show Act.put _ (some 57) _ = _
              simp only [Act.put, List.setIfInBounds_toArray, List.set_cons_zero, List.set_cons_succ, i64_w, i32_w]
              rfl
             refine one_ (i := 4) (N := some 54) #[true, true, true, true, true, true, true, true, false, false] rfl rfl (one_of HT_.out (by kernel_rfl)) (by decide) (fun K hK => ?_)
             refine Kd.R_lit_step (Kd.int .u8) _ 5 ?hg (N := 54) ?hd (xs := ([(wrap64 (240 + ((rd_T74 s0_0 a1).f2))) % 256] : List Int)) (inner := [.int .u8 ((wrap64 (240 + ((rd_T74 s0_0 a1).f2))) % 256)]) (ok := fun _ => True) (okp := fun _ => True) ?hr ?hp (fun _ hk => hk) trivial (Below.refl _ _) (Nat.le_refl _) (by simp) ?_;(case hd => rfl);(case hg => rfl);(case hr => first|(go_simp;done)|(go_simp;rfl));(case hp => exact (Reps.one (show Kd.M (Kd.int .u8) _ _ _ ((wrap64 (240 + ((rd_T74 s0_0 a1).f2))) % 256) [.int .u8 ((wrap64 (240 + ((rd_T74 s0_0 a1).f2))) % 256)] from rfl) (Reps.none _ _)))
             intro v288 w38 ho39 hb hg_ hnew_
             clear hg_ hnew_
             (first|rw [← Ny287.out] at ho39|(simp only [Int.reduceToNat] at ho39;rw [← Ny287.out] at ho39))
             have n0_ := Aside0.mk (Kd.R_elder' (by (with_reducible repeat (first|apply Kd.R_alloc|apply Kd.R_drewN|apply Kd.R_drew));exact HO_6.out) (Kd.R_base ho39) hb)
             have n1_ := Aside0.mk (Kd.R_elder' (by (with_reducible repeat (first|apply Kd.R_alloc|apply Kd.R_drewN|apply Kd.R_drew));exact HO292.out) (Kd.R_base ho39) hb)
             have n2_ := Aside0.mk (Kd.R_lower (Kd.R_new' (Kd.R_new' ho39 (Kd.R_lt (by (with_reducible repeat (first|apply Kd.R_alloc|apply Kd.R_drewN|apply Kd.R_drew));exact HO_6.out))) (Kd.R_lt (by (with_reducible repeat (first|apply Kd.R_alloc|apply Kd.R_drewN|apply Kd.R_drew));exact HO292.out))) (keep_size (w := w) (g := g) (row := none) (by repeat (first|(with_reducible first|exact HK.out|apply KeepBut.set_|apply keep_drewN|apply keep_drew|apply keep_alloc|refine keep_far ?_ GW271.out _)|exact HK.out))))
             have n3_ := Aside0.mk (blk_below (g := gb271) (o := .cells #[.int .i64 ((rd_T74 s0_0 a1).f0), .int .i64 ((rd_T74 s0_0 a1).f1), .int .i64 ((rd_T74 s0_0 a1).f2), .string ((rd_T74 s0_0 a1).f3), .int .i64 ((rd_T74 s0_0 a1).f4)] 74 (0, 0)) (by (with_reducible repeat (first|refine blk_drewN ?_ _|refine blk_drew ?_|refine blk_alloc ?_ _));exact BK271.out) hb)
             have n4_ := Aside0.mk (IsS81.below (by repeat (first|(with_reducible first|exact HI0.out|apply IsS81.alloc|apply IsS81.drewN|apply IsS81.drew|refine IsS81.far ?_ NB0_271.out _)|exact HI0.out)) hb)
             have n5_ := Aside0.mk (KeepBut.trans (by repeat (first|(with_reducible first|exact HK.out|apply KeepBut.set_|apply keep_drewN|apply keep_drew|apply keep_alloc|refine keep_far ?_ GW271.out _)|exact HK.out)) (KeepBut.of_below hb g none) (.inl rfl))
             have n6_ := Aside0.mk (below_step (by repeat (first|(with_reducible first|exact HB.out|apply below_alloc|apply pw_below_drewN|apply below_drew1|refine below_set ?_ (IsS81.ge HI0.out)|refine below_set ?_ GE271.out)|exact HB.out)) hb)
             clear HO_6
             clear HO292
             clear BK271
             clear HI0
             clear HK
             clear HB
             have HO_6 := n0_
             have HO292 := n1_
             have HO289 := n2_
             have BK271 := n3_
             have HI0 := n4_
             have HK := n5_
             have HB := n6_
             clear n0_ n1_ n2_ n3_ n4_ n5_ n6_
             clear hb ho39
             refine hK.out _ _ ⟨(blk_cell BK271.out 0).trans rfl, (blk_cell BK271.out 1).trans rfl, (blk_cell BK271.out 2).trans rfl, (blk_cell BK271.out 3).trans rfl, (blk_cell BK271.out 4).trans rfl⟩ (fun hHeld => ?_)
             clear hK K
             refine norm_ (a' := ?_) ?_ ?_
             rotate_left
             ·show Act.put _ (some 54) _ = _
              simp only [Act.put, List.setIfInBounds_toArray, List.set_cons_zero, List.set_cons_succ, i64_w, i32_w]
              rfl
             exact norm_ (by simp only [putAll, Act.put, List.setIfInBounds_toArray, List.set_cons_zero, List.set_cons_succ]) (hCont (v288, v291) _ ⟨hHeld, (by (with_reducible repeat (first|apply Kd.R_alloc|apply Kd.R_drewN|apply Kd.R_drew));exact Kd.R_mono HO289.out (fun _ hk => ⟨hk.2, hk.1.2⟩)), (by (with_reducible repeat (first|apply Kd.R_alloc|apply Kd.R_drewN|apply Kd.R_drew));exact Kd.R_mono HO292.out (fun _ hk => ⟨hk.2, hk.1.2⟩)), (by (with_reducible repeat (first|apply Kd.R_alloc|apply Kd.R_drewN|apply Kd.R_drew));exact Kd.R_mono HO_6.out (fun _ hk => ⟨hk.2, hk.1.2⟩)), (by (with_reducible repeat (first|refine blk_drewN ?_ _|refine blk_drew ?_|refine blk_alloc ?_ _));exact BK271.out), (by repeat (first|(with_reducible first|exact HI0.out|apply IsS81.alloc|apply IsS81.drewN|apply IsS81.drew|refine IsS81.far ?_ NB0_271.out _)|exact HI0.out)), (by repeat (first|(with_reducible first|exact HK.out|apply KeepBut.set_|apply keep_drewN|apply keep_drew|apply keep_alloc|refine keep_far ?_ GW271.out _)|exact HK.out)), (by repeat (first|(with_reducible first|exact HB.out|apply below_alloc|apply pw_below_drewN|apply below_drew1|refine below_set ?_ (IsS81.ge HI0.out)|refine below_set ?_ GE271.out)|exact HB.out))⟩)
           rintro ⟨v288, v291⟩ w40 ⟨hS_, h0_, h1_, h2_, h3_, h4_, h5_, h6_⟩
           have n0_ : Aside0 (Kd.R (Kd.int .u8) 5 w40 w.heap.size (fun k_ => some k_ ≠ (v291 : Value).ownBlock ∧ some k_ ≠ (v273 : Value).ownBlock) v288 y287) := ⟨h0_⟩
           have n1_ : Aside0 (Kd.R (Kd.int .u8) 5 w40 w.heap.size (fun k_ => some k_ ≠ (v288 : Value).ownBlock ∧ some k_ ≠ (v273 : Value).ownBlock) v291 t290) := ⟨h1_⟩
           have n2_ : Aside0 (Kd.R (Kd.int .u8) 5 w40 w.heap.size (fun k_ => some k_ ≠ (v288 : Value).ownBlock ∧ some k_ ≠ (v291 : Value).ownBlock) v273 y272) := ⟨h2_⟩
           have n3_ : Aside0 (w40.heap[gb271]? = some (.cells #[.int .i64 ((rd_T74 s0_0 a1).f0), .int .i64 ((rd_T74 s0_0 a1).f1), .int .i64 ((rd_T74 s0_0 a1).f2), .string ((rd_T74 s0_0 a1).f3), .int .i64 ((rd_T74 s0_0 a1).f4)] 74 (0, 0))) := ⟨h3_⟩
           have n4_ : Aside0 (IsS81 w0 w40 g s0_0 s0_1) := ⟨h4_⟩
           have n5_ : Aside0 (KeepBut w w40 g none) := ⟨h5_⟩
           have n6_ : Aside0 (Below w0.heap.size w0 w40) := ⟨h6_⟩
           clear HO_6
           clear BK271
           clear HI0
           clear HK
           clear HB
           clear h0_ h1_ h2_ h3_ h4_ h5_ h6_
           have HO289 := n0_
           have HO292 := n1_
           have HO_6 := n2_
           have BK271 := n3_
           have HI0 := n4_
           have HK := n5_
           have HB := n6_
           clear n0_ n1_ n2_ n3_ n4_ n5_ n6_
           have hHeld : w40.cell? ⟨gb271, 0, none⟩ = some (.int .i64 ((rd_T74 s0_0 a1).f0)) ∧ w40.cell? ⟨gb271, 1, none⟩ = some (.int .i64 ((rd_T74 s0_0 a1).f1)) ∧ w40.cell? ⟨gb271, 2, none⟩ = some (.int .i64 ((rd_T74 s0_0 a1).f2)) ∧ w40.cell? ⟨gb271, 3, none⟩ = some (.string ((rd_T74 s0_0 a1).f3)) ∧ w40.cell? ⟨gb271, 4, none⟩ = some (.int .i64 ((rd_T74 s0_0 a1).f4)) := hS_
           obtain ⟨Ao42, co42, eo42⟩ := Kd.R_slice HO292.out
           (first|subst eo42|(injection eo42 with f1_ f2_ f3_;have f4_ := f1_.symm;have f5_ := f3_.symm;clear f1_ f2_ f3_;subst f4_;subst f5_))
           refine norm_ (a' := ?_) ?_ ?_
           rotate_left
           ·simp only [putAll, Act.put, List.setIfInBounds_toArray, List.set_cons_zero, List.set_cons_succ]
            rfl
           refine one_ (i := 8) (N := some 58) #[true, true, true, true, true, true, true, true, true, false] rfl rfl (one_of HT_.out (by kernel_rfl)) (by decide) (fun K hK => ?_)
           refine Kd.R_append_rows_step (Kd.int .u8) w.heap.size (by rfl) (.tmp 54) (.tmp 57) 50 5 (.int .u8 0) 1 rfl Try.underlying50 info5 rfl (by decide) (by omega) v288 y287 t290 _ _ _ (fun k_ => some k_ ≠ (v273 : Value).ownBlock ∧ some k_ ≠ (.slice Ao42 t290.length co42 : Value).ownBlock) (fun _ => False) rfl rfl ?aO ?aR (fun _ _ h => h) (fun _ h => h.elim) ?aF (Below.refl _ _) ?aS ?aL ?_
           (case aR => repeat (first|exact (Kd.R_reads' HO292.out).2.2|(with_reducible refine Kd.C_alloc ?_ _)|(with_reducible refine Kd.C_drewN ?_ _)|(with_reducible refine Kd.C_drew ?_)))
           (case aF => exact (fun k_ hk => ⟨Kd.fresh' (Kd.R_lt (by (with_reducible repeat (first|apply Kd.R_alloc|apply Kd.R_drewN|apply Kd.R_drew));exact HO_6.out)) k_ hk, Kd.fresh' (Kd.R_lt (by (with_reducible repeat (first|apply Kd.R_alloc|apply Kd.R_drewN|apply Kd.R_drew));exact HO292.out)) k_ hk⟩))
           (case aO => exact (by (with_reducible repeat (first|apply Kd.R_alloc|apply Kd.R_drewN|apply Kd.R_drew));exact Kd.R_mono HO289.out (fun _ hk => ⟨hk.2, hk.1⟩)))
           (case aS => exact (keep_size (w := w) (g := g) (row := none) (by repeat (first|(with_reducible first|exact HK.out|apply KeepBut.set_|apply keep_drewN|apply keep_drew|apply keep_alloc|refine keep_far ?_ GW271.out _)|exact HK.out))))
           (case aL => have := LMc33.out;omega)
           intro v294 w41 ho hb hg hat
           rw [← Ny293.out] at ho
           have n0_ := Aside0.mk (Kd.R_after (ok := (fun k_ => some k_ ≠ (.slice Ao42 t290.length co42 : Value).ownBlock)) (by (with_reducible repeat (first|apply Kd.R_alloc|apply Kd.R_drewN|apply Kd.R_drew));exact Kd.R_mono HO_6.out (fun _ hk => ⟨hk.2, hk.1⟩)) hg hat)
           have n1_ := Aside0.mk (blk_grown (g := gb271) (o := .cells #[.int .i64 ((rd_T74 s0_0 a1).f0), .int .i64 ((rd_T74 s0_0 a1).f1), .int .i64 ((rd_T74 s0_0 a1).f2), .string ((rd_T74 s0_0 a1).f3), .int .i64 ((rd_T74 s0_0 a1).f4)] 74 (0, 0)) (by (with_reducible repeat (first|refine blk_drewN ?_ _|refine blk_drew ?_|refine blk_alloc ?_ _));exact BK271.out) hg (Kd.R_ne HO289.out BK271.out (by decide)))
           have n2_ := Aside0.mk (IsS81.grown (by repeat (first|(with_reducible first|exact HI0.out|apply IsS81.alloc|apply IsS81.drewN|apply IsS81.drew|refine IsS81.far ?_ NB0_271.out _)|exact HI0.out)) hg (IsS81.own_ne HI0.out HO289.out (by decide)))
           have n3_ := Aside0.mk (Kd.R_after (ok := (fun k_ => some k_ ≠ (v273 : Value).ownBlock)) (by (with_reducible repeat (first|apply Kd.R_alloc|apply Kd.R_drewN|apply Kd.R_drew));exact Kd.R_mono HO292.out (fun _ hk => ⟨hk.2, hk.1⟩)) hg hat)
           have n4_ := Aside0.mk (below_weaken (by repeat (first|(with_reducible first|exact HB.out|apply below_alloc|apply pw_below_drewN|apply below_drew1|refine below_set ?_ (IsS81.ge HI0.out)|refine below_set ?_ GE271.out)|exact HB.out)) HL.out hb)
           have n5_ := Aside0.mk (KeepBut.trans (by repeat (first|(with_reducible first|exact HK.out|apply KeepBut.set_|apply keep_drewN|apply keep_drew|apply keep_alloc|refine keep_far ?_ GW271.out _)|exact HK.out)) (KeepBut.of_grown hg g) (Kd.R_base2 HO289.out))
           have n6_ := Aside0.mk (ho)
           clear HO_6
           clear BK271
           clear HI0
           clear HO292
           clear HB
           clear HK
           clear HO289
           have HO_6 := n0_
           have BK271 := n1_
           have HI0 := n2_
           have HO292 := n3_
           have HB := n4_
           have HK := n5_
           have HO295 := n6_
           clear n0_ n1_ n2_ n3_ n4_ n5_ n6_
           clear ho hb hg hat
           refine hK.out _ _ ⟨(blk_cell BK271.out 0).trans rfl, (blk_cell BK271.out 1).trans rfl, (blk_cell BK271.out 2).trans rfl, (blk_cell BK271.out 3).trans rfl, (blk_cell BK271.out 4).trans rfl⟩ (fun hHeld => ?_)
           clear hK K
           refine norm_ (a' := ?_) ?_ ?_
           rotate_left
           ·show Act.put _ (some 58) _ = _
            simp only [Act.put, List.setIfInBounds_toArray, List.set_cons_zero, List.set_cons_succ, i64_w, i32_w]
            rfl
           refine pure_ (i := 9) (N := some 6) (v := ?_) (a' := ?_) #[true, true, true, true, true, true, true, true, true, true] rfl rfl (any_of HT_.out (by kernel_rfl)) (fun _ _ _ h => h) (Or.inl ⟨by rfl, ?_⟩) ?_ ?_
           rotate_left
           ·intro w'
            go_simp
            with_reducible rfl
           rotate_left
           ·simp only [Act.put, List.setIfInBounds_toArray, List.set_cons_zero, List.set_cons_succ, i64_w, i32_w]
            rfl
           refine done_ (done_of HT_.out (by kernel_rfl)) ?_
           (try simp only [setCell_drewN_])
           try go_wp2
           go_meet
           case rel => exact ⟨_, (y293), H', ⟨by have := HJ12.out;first|omega|exact Nat.le_refl _⟩, ⟨by (with_reducible repeat (first|apply Kd.R_alloc|apply Kd.R_drewN|apply Kd.R_drew));exact Kd.R_mono HO295.out (fun _ hk => trivial)⟩, ⟨by (with_reducible repeat (first|refine blk_drewN ?_ _|refine blk_drew ?_|refine blk_alloc ?_ _));exact BK271.out⟩, ⟨by repeat (first|(with_reducible first|exact HI0.out|apply IsS81.alloc|apply IsS81.drewN|apply IsS81.drew|refine IsS81.far ?_ NB0_271.out _)|exact HI0.out)⟩, ⟨by repeat (first|(with_reducible first|exact HK.out|apply KeepBut.set_|apply keep_drewN|apply keep_drew|apply keep_alloc|refine keep_far ?_ GW271.out _)|exact HK.out)⟩, ⟨by repeat (first|(with_reducible first|exact HB.out|apply below_alloc|apply pw_below_drewN|apply below_drew1|refine below_set ?_ (IsS81.ge HI0.out)|refine below_set ?_ GE271.out)|exact HB.out)⟩⟩
          ·rw [if_neg c33] at H
           exact absurd H (by simp)
        ·rw [if_neg c26] at H
         have c26b0 : (((rd_T74 s0_0 a1).f0) == 9) = false := beq_eq_false_iff_ne.mpr c26
         have c26b1 : (((rd_T74 s0_0 a1).f0) != 9) = true := bne_iff_ne.mpr c26
         have H' := Aside0.mk H
         clear H
         go_wp2
         go_meet
         case rel => exact ⟨_, (y272), H', ⟨by have := HJ12.out;first|omega|exact Nat.le_refl _⟩, ⟨by (with_reducible repeat (first|apply Kd.R_alloc|apply Kd.R_drewN|apply Kd.R_drew));exact HO_6.out⟩, ⟨by (with_reducible repeat (first|refine blk_drewN ?_ _|refine blk_drew ?_|refine blk_alloc ?_ _));exact BK271.out⟩, ⟨by repeat (first|(with_reducible first|exact HI0.out|apply IsS81.alloc|apply IsS81.drewN|apply IsS81.drew|refine IsS81.far ?_ NB0_271.out _)|exact HI0.out)⟩, ⟨by repeat (first|(with_reducible first|exact HK.out|apply KeepBut.set_|apply keep_drewN|apply keep_drew|apply keep_alloc|refine keep_far ?_ GW271.out _)|exact HK.out)⟩, ⟨by repeat (first|(with_reducible first|exact HB.out|apply below_alloc|apply pw_below_drewN|apply below_drew1|refine below_set ?_ (IsS81.ge HI0.out)|refine below_set ?_ GE271.out)|exact HB.out)⟩⟩
   case rest =>
    clear HC5
    try clear c1
    try clear c2
    try clear p2
    try clear q2
    try clear hx2
    try clear c3
    try clear p6
    try clear c10
    try clear c15
    try clear c17
    try clear c20
    try clear c20b0
    try clear c20b1
    try clear c22
    try clear c26
    try clear c26b0
    try clear c26b1
    try clear c27
    try clear c27b0
    try clear p27
    try clear q27
    try clear hx27
    try clear c28
    try clear c29
    try clear c33
    try clear c34
    try clear hcz18_0
    try clear hcz18_1
    try clear hcz18_2
    try clear hcz18_3
    try clear hcz18_4
    try clear hcz30_0
    try clear hcz30_1
    try clear hcz30_2
    try clear hcz30_3
    try clear hcz30_4
    try clear hcz35_0
    try clear hcz35_1
    try clear hcz35_2
    try clear hcz35_3
    try clear hcz35_4
    try clear hcz9_4
    try clear hfz12_0
    try clear hfz12_1
    try clear hfz12_2
    try clear hfz12_3
    try clear hfz12_4
    try clear hfz18_0
    try clear hfz18_1
    try clear hfz18_2
    try clear hfz18_3
    try clear hfz18_4
    try clear hfz30_0
    try clear hfz30_1
    try clear hfz30_2
    try clear hfz30_3
    try clear hfz30_4
    try clear hfz35_0
    try clear hfz35_1
    try clear hfz35_2
    try clear hfz35_3
    try clear hfz35_4
    try clear hfz9_0
    try clear hfz9_1
    try clear hfz9_2
    try clear hfz9_3
    try clear hfz9_4
    try clear hx270_0
    try clear hx270_1
    try clear hx270_2
    try clear hx270_3
    try clear hx270_4
    try clear p270
    try clear q270
    obtain ⟨kq, x6_4, HA, HJ4, HO_6, BK271, HI0, HK, HB⟩ := hcut
    cases kq with
    | zero => exact absurd HA.out (by simp [impl_tree_bytesOf.j1])
    | succ kj4 =>
     have H := HA.out
     clear HA
     simp only [impl_tree_bytesOf.j1] at H
     have H' := Aside0.mk H
     clear H
     have hnb43 := NB271_0.out
     have hnc43 := NB0_271.out
     obtain ⟨hcz44_0, hcz44_1, hcz44_2, hcz44_3, hcz44_4, hfz44_0, hfz44_1, hfz44_2, hfz44_3, hfz44_4⟩ := blk5_ BK271.out
     go_wp2
     go_loopg [6, 7, 8, 63] kj4 (fun kq v6 v7 v8 v63 w' => ∃ (x6_2 : List Int) (x7_2 : Int) (x8_2 : Int) (x63_2 : Int), v7 = .int .i64 x7_2 ∧ v8 = .int .i64 x8_2 ∧ v63 = .int .i64 x63_2 ∧ Aside0 (impl_tree_bytesOf.l0 kq x6_2 x7_2 x8_2 ((rd_T74 s0_0 a1).f4) x63_2 s0_0 s0_1 ((rd_T74 s0_0 a1).f0) ((rd_T74 s0_0 a1).f1) ((rd_T74 s0_0 a1).f2) ((rd_T74 s0_0 a1).f3) ((rd_T74 s0_0 a1).f4) = some r) ∧ Aside0 (kq ≤ kj4) ∧ Aside0 (Kd.R (Kd.int .u8) 5 w' w.heap.size (fun _ => True) v6 x6_2) ∧ Aside0 (w'.heap[gb271]? = some (.cells #[.int .i64 ((rd_T74 s0_0 a1).f0), .int .i64 ((rd_T74 s0_0 a1).f1), .int .i64 ((rd_T74 s0_0 a1).f2), .string ((rd_T74 s0_0 a1).f3), .int .i64 ((rd_T74 s0_0 a1).f4)] 74 (0, 0))) ∧ Aside0 (IsS81 w0 w' g s0_0 s0_1) ∧ Aside0 (KeepBut w w' g none) ∧ Aside0 (Below w0.heap.size w0 w'))
     case atStart => exact ⟨(x6_4), (wrap64 (a1 + 1)), (0), (0), (by first|rfl|(simp;done)|(simp [*];done)), (by first|rfl|(simp;done)|(simp [*];done)), (by first|rfl|(simp;done)|(simp [*];done)), H', ⟨Nat.le_refl _⟩, ⟨by (with_reducible repeat (first|apply Kd.R_alloc|apply Kd.R_drewN|apply Kd.R_drew));exact HO_6.out⟩, ⟨by (with_reducible repeat (first|refine blk_drewN ?_ _|refine blk_drew ?_|refine blk_alloc ?_ _));exact BK271.out⟩, ⟨by repeat (first|(with_reducible first|exact HI0.out|apply IsS81.alloc|apply IsS81.drewN|apply IsS81.drew|refine IsS81.far ?_ NB0_271.out _)|exact HI0.out)⟩, ⟨by repeat (first|(with_reducible first|exact HK.out|apply KeepBut.set_|apply keep_drewN|apply keep_drew|apply keep_alloc|refine keep_far ?_ GW271.out _)|exact HK.out)⟩, ⟨by repeat (first|(with_reducible first|exact HB.out|apply below_alloc|apply pw_below_drewN|apply below_drew1|refine below_set ?_ (IsS81.ge HI0.out)|refine below_set ?_ GE271.out)|exact HB.out)⟩⟩
     case round =>
      clear H'
      try clear c1
      try clear c2
      try clear p2
      try clear q2
      try clear hx2
      try clear c3
      try clear c4
      try clear p6
      try clear c10
      try clear c15
      try clear c17
      try clear c20
      try clear c20b0
      try clear c20b1
      try clear c22
      try clear c26
      try clear c26b0
      try clear c26b1
      try clear c27
      try clear c27b0
      try clear p27
      try clear q27
      try clear hx27
      try clear c28
      try clear c29
      try clear c33
      try clear c34
      try clear c43
      try clear hcz18_0
      try clear hcz18_1
      try clear hcz18_2
      try clear hcz18_3
      try clear hcz18_4
      try clear hcz30_0
      try clear hcz30_1
      try clear hcz30_2
      try clear hcz30_3
      try clear hcz30_4
      try clear hcz35_0
      try clear hcz35_1
      try clear hcz35_2
      try clear hcz35_3
      try clear hcz35_4
      try clear hcz44_0
      try clear hcz44_1
      try clear hcz44_2
      try clear hcz44_3
      try clear hcz44_4
      try clear hcz9_4
      try clear hfz12_0
      try clear hfz12_1
      try clear hfz12_2
      try clear hfz12_3
      try clear hfz12_4
      try clear hfz18_0
      try clear hfz18_1
      try clear hfz18_2
      try clear hfz18_3
      try clear hfz18_4
      try clear hfz30_0
      try clear hfz30_1
      try clear hfz30_2
      try clear hfz30_3
      try clear hfz30_4
      try clear hfz35_0
      try clear hfz35_1
      try clear hfz35_2
      try clear hfz35_3
      try clear hfz35_4
      try clear hfz44_0
      try clear hfz44_1
      try clear hfz44_2
      try clear hfz44_3
      try clear hfz44_4
      try clear hfz9_0
      try clear hfz9_1
      try clear hfz9_2
      try clear hfz9_3
      try clear hfz9_4
      try clear hx270_0
      try clear hx270_1
      try clear hx270_2
      try clear hx270_3
      try clear hx270_4
      try clear p2
      try clear p27
      try clear p270
      try clear p6
      try clear q2
      try clear q27
      try clear q270
      obtain ⟨x6_2, x7_2, x8_2, x63_2, rfl, rfl, rfl, HA, HK2, HO_6, BK271, HI0, HK, HB⟩ := hrel
      cases gk with
      | zero => exact absurd HA.out (by simp [impl_tree_bytesOf.l0])
      | succ k2 =>
       have H := HA.out
       clear HA
       simp only [impl_tree_bytesOf.l0] at H
       by_cases c45 : x63_2 < ((rd_T74 s0_0 a1).f4)
       ·rw [if_pos c45] at H
        have c45b0 : decide (x63_2 < ((rd_T74 s0_0 a1).f4)) = true := decide_eq_true c45
        clear c45
        by_cases c46 : 0 ≤ x7_2
        ·rw [if_pos c46] at H
         have c46b0 : decide (0 ≤ x7_2) = true := decide_eq_true c46
         clear c46
         by_cases c47 : x7_2 < (s0_0.length : Int)
         ·rw [if_pos c47] at H
          have c47b0 : decide (x7_2 < (s0_0.length : Int)) = true := decide_eq_true c47
          clear c47
          by_cases c48 : ((rd_T74 s0_0 a1).f0) = 12
          ·rw [if_pos c48] at H
           have c48b0 : (((rd_T74 s0_0 a1).f0) == 12) = true := beq_iff_eq.mpr c48
           have c48b1 : (((rd_T74 s0_0 a1).f0) != 12) = false := bne_eq_false_iff_eq.mpr c48
           clear c48
           replace H := Option.bind_eq_some_iff.mp H
           obtain ⟨t301, A490, H⟩ := H
           replace H : (if x6_2.length + t301.length < 140737488355328 then ((some (x6_2 ++ t301 : List Int)).bind fun y304 => ((impl_tree_bytesOf.f k2 s0_0 s0_1 x7_2).bind fun t307 => (if y304.length + t307.length < 140737488355328 then (if x7_2 < (s0_1.length : Int) then (impl_tree_bytesOf.l0 k2 (y304 ++ t307) (rd s0_1 x7_2) ((rd_T74 s0_0 x7_2).f1) ((rd_T74 s0_0 a1).f4) (wrap64 (x63_2 + 1)) s0_0 s0_1 ((rd_T74 s0_0 a1).f0) ((rd_T74 s0_0 a1).f1) ((rd_T74 s0_0 a1).f2) ((rd_T74 s0_0 a1).f3) ((rd_T74 s0_0 a1).f4)) else (none)) else (none)))) else (none)) = some r := H
           have A49 := Aside0.mk A490
           clear A490
           by_cases c50 : x6_2.length + t301.length < 140737488355328
           ·rw [if_pos c50] at H
            have LMc50 := Aside0.mk c50
            clear c50
            obtain ⟨y304, hy304⟩ : ∃ y_ : List Int, y_ = (x6_2 ++ t301) := ⟨_, rfl⟩
            replace H : ((impl_tree_bytesOf.f k2 s0_0 s0_1 x7_2).bind fun t307 => (if y304.length + t307.length < 140737488355328 then (if x7_2 < (s0_1.length : Int) then (impl_tree_bytesOf.l0 k2 (y304 ++ t307) (rd s0_1 x7_2) ((rd_T74 s0_0 x7_2).f1) ((rd_T74 s0_0 a1).f4) (wrap64 (x63_2 + 1)) s0_0 s0_1 ((rd_T74 s0_0 a1).f0) ((rd_T74 s0_0 a1).f1) ((rd_T74 s0_0 a1).f2) ((rd_T74 s0_0 a1).f3) ((rd_T74 s0_0 a1).f4)) else (none)) else (none))) = some r := by first|(rw [hy304];with_reducible exact H)|(have H2_ := (Option.bind_some _ _).symm.trans H;rw [hy304];with_reducible exact H2_)|(have H2_ := (Option.bind_some _ _).symm.trans H;with_reducible exact H2_)|with_reducible exact H|(rw [hy304];exact H)|exact H
            have Ny304 := Aside0.mk hy304
            clear hy304
            replace H := Option.bind_eq_some_iff.mp H
            obtain ⟨t307, A510, H⟩ := H
            replace H : (if y304.length + t307.length < 140737488355328 then (if x7_2 < (s0_1.length : Int) then (impl_tree_bytesOf.l0 k2 (y304 ++ t307) (rd s0_1 x7_2) ((rd_T74 s0_0 x7_2).f1) ((rd_T74 s0_0 a1).f4) (wrap64 (x63_2 + 1)) s0_0 s0_1 ((rd_T74 s0_0 a1).f0) ((rd_T74 s0_0 a1).f1) ((rd_T74 s0_0 a1).f2) ((rd_T74 s0_0 a1).f3) ((rd_T74 s0_0 a1).f4)) else (none)) else (none)) = some r := H
            have A51 := Aside0.mk A510
            clear A510
            by_cases c52 : y304.length + t307.length < 140737488355328
            ·rw [if_pos c52] at H
             have LMc52 := Aside0.mk c52
             clear c52
             obtain ⟨y310, hy310⟩ : ∃ y_ : List Int, y_ = (y304 ++ t307) := ⟨_, rfl⟩
             replace H : (if x7_2 < (s0_1.length : Int) then (impl_tree_bytesOf.l0 k2 y310 (rd s0_1 x7_2) ((rd_T74 s0_0 x7_2).f1) ((rd_T74 s0_0 a1).f4) (wrap64 (x63_2 + 1)) s0_0 s0_1 ((rd_T74 s0_0 a1).f0) ((rd_T74 s0_0 a1).f1) ((rd_T74 s0_0 a1).f2) ((rd_T74 s0_0 a1).f3) ((rd_T74 s0_0 a1).f4)) else (none)) = some r := by first|(rw [hy310];with_reducible exact H)|(have H2_ := (Option.bind_some _ _).symm.trans H;rw [hy310];with_reducible exact H2_)|(have H2_ := (Option.bind_some _ _).symm.trans H;with_reducible exact H2_)|with_reducible exact H|(rw [hy310];exact H)|exact H
             have Ny310 := Aside0.mk hy310
             clear hy310
             by_cases c53 : x7_2 < (s0_1.length : Int)
             ·rw [if_pos c53] at H
              have c53b0 : decide (x7_2 < (s0_1.length : Int)) = true := decide_eq_true c53
              clear c53
              have H' := Aside0.mk H
              clear H
              obtain ⟨ASz54_0, cSz54_0, ASz54_1, cSz54_1, HGz54, hgz54, HSz54_0, HSz54_1⟩ := HI0.out
              have hcz54_0 := cellS81_0 HGz54
              have hcz54_1 := cellS81_1 HGz54
              clear HGz54 hgz54
              have p299 : 0 ≤ (x7_2 : Int) := of_decide_eq_true (by first|(with_reducible assumption)|assumption)
              have q299 : x7_2 < (s0_0.length : Int) := of_decide_eq_true (by first|(with_reducible assumption)|assumption)
              obtain ⟨ad299, e299, hx299_0, hx299_1, hx299_2, hx299_3, hx299_4⟩ := at_T74 HSz54_0 x7_2 p299 q299
              cases e299
              replace hx299_0 := pw_cell_below HB.out hx299_0
              replace hx299_1 := pw_cell_below HB.out hx299_1
              replace hx299_2 := pw_cell_below HB.out hx299_2
              replace hx299_3 := pw_cell_below HB.out hx299_3
              replace hx299_4 := pw_cell_below HB.out hx299_4
              replace p299 := eq_true p299
              replace q299 := eq_true q299
              go_wp2_with (first|((with_reducible refine gate_dst (N := 9) rfl ?_);refine box_event ?hg (N := 9) ?hd (cs := #[.int .i64 0, .int .i64 0, .int .i64 0, .string (⟨#[]⟩ : ByteArray), .int .i64 0]) (t := 74) ?hr ?_;(case hd => rfl);(case hg => rfl);(case hr => first|(go_simp;done)|(go_simp;rfl));intro gb300 hg w55 hbox hb;have n0_ := Aside0.mk (Kd.R_below (by (with_reducible repeat (first|apply Kd.R_alloc|apply Kd.R_drewN|apply Kd.R_drew));exact HO_6.out) hb);have n1_ := Aside0.mk (blk_below (g := gb271) (o := .cells #[.int .i64 ((rd_T74 s0_0 a1).f0), .int .i64 ((rd_T74 s0_0 a1).f1), .int .i64 ((rd_T74 s0_0 a1).f2), .string ((rd_T74 s0_0 a1).f3), .int .i64 ((rd_T74 s0_0 a1).f4)] 74 (0, 0)) (by (with_reducible repeat (first|refine blk_drewN ?_ _|refine blk_drew ?_|refine blk_alloc ?_ _));exact BK271.out) hb);have n2_ := Aside0.mk (IsS81.below (by repeat (first|(with_reducible first|exact HI0.out|apply IsS81.alloc|apply IsS81.drewN|apply IsS81.drew|refine IsS81.far ?_ NB0_271.out _)|exact HI0.out)) hb);have n3_ := Aside0.mk (KeepBut.trans (by repeat (first|(with_reducible first|exact HK.out|apply KeepBut.set_|apply keep_drewN|apply keep_drew|apply keep_alloc|refine keep_far ?_ GW271.out _)|exact HK.out)) (KeepBut.of_below hb g none) (.inl rfl));have n4_ := Aside0.mk (below_step (by repeat (first|(with_reducible first|exact HB.out|apply below_alloc|apply pw_below_drewN|apply below_drew1|refine below_set ?_ (IsS81.ge HI0.out)|refine below_set ?_ GE271.out)|exact HB.out)) hb);have n5_ := Aside0.mk (hbox);have n6_ := Aside0.mk ((by rw [hg];exact (keep_size (w := w) (g := g) (row := none) (by repeat (first|(with_reducible first|exact HK.out|apply KeepBut.set_|apply keep_drewN|apply keep_drew|apply keep_alloc|refine keep_far ?_ GW271.out _)|exact HK.out))) : w.heap.size ≤ gb300));have n7_ := Aside0.mk ((Nat.le_trans HW0.out (by rw [hg];exact (keep_size (w := w) (g := g) (row := none) (by repeat (first|(with_reducible first|exact HK.out|apply KeepBut.set_|apply keep_drewN|apply keep_drew|apply keep_alloc|refine keep_far ?_ GW271.out _)|exact HK.out))) : w.heap.size ≤ gb300) : w0.heap.size ≤ gb300));have n8_ := Aside0.mk ((by rw [hg];exact Nat.ne_of_lt (blk_lt (g := gb271) (o := .cells #[.int .i64 ((rd_T74 s0_0 a1).f0), .int .i64 ((rd_T74 s0_0 a1).f1), .int .i64 ((rd_T74 s0_0 a1).f2), .string ((rd_T74 s0_0 a1).f3), .int .i64 ((rd_T74 s0_0 a1).f4)] 74 (0, 0)) (by (with_reducible repeat (first|refine blk_drewN ?_ _|refine blk_drew ?_|refine blk_alloc ?_ _));exact BK271.out)) : gb271 ≠ gb300));have n9_ := Aside0.mk ((by rw [hg];exact Nat.ne_of_gt (blk_lt (g := gb271) (o := .cells #[.int .i64 ((rd_T74 s0_0 a1).f0), .int .i64 ((rd_T74 s0_0 a1).f1), .int .i64 ((rd_T74 s0_0 a1).f2), .string ((rd_T74 s0_0 a1).f3), .int .i64 ((rd_T74 s0_0 a1).f4)] 74 (0, 0)) (by (with_reducible repeat (first|refine blk_drewN ?_ _|refine blk_drew ?_|refine blk_alloc ?_ _));exact BK271.out)) : gb300 ≠ gb271));have n10_ := Aside0.mk ((by rw [hg];exact Nat.ne_of_lt (IsS81.lt (show IsS81 w0 _ g s0_0 s0_1 from by repeat (first|(with_reducible first|exact HI0.out|apply IsS81.alloc|apply IsS81.drewN|apply IsS81.drew|refine IsS81.far ?_ NB0_271.out _)|exact HI0.out))) : g ≠ gb300));have n11_ := Aside0.mk ((by rw [hg];exact Nat.ne_of_gt (IsS81.lt (show IsS81 w0 _ g s0_0 s0_1 from by repeat (first|(with_reducible first|exact HI0.out|apply IsS81.alloc|apply IsS81.drewN|apply IsS81.drew|refine IsS81.far ?_ NB0_271.out _)|exact HI0.out))) : gb300 ≠ g));clear HO_6;clear BK271;clear HI0;clear HK;clear HB;have HO_6 := n0_;have BK271 := n1_;have HI0 := n2_;have HK := n3_;have HB := n4_;have BK300 := n5_;have GW300 := n6_;have GE300 := n7_;have NB271_300 := n8_;have NB300_271 := n9_;have NB0_300 := n10_;have NB300_0 := n11_;clear n0_ n1_ n2_ n3_ n4_ n5_ n6_ n7_ n8_ n9_ n10_ n11_;clear hb hbox hg;have hnb56 := NB300_271.out;have hnc56 := NB271_300.out;have hnb57 := NB300_0.out;have hnc57 := NB0_300.out;obtain ⟨hcz58_0, hcz58_1, hcz58_2, hcz58_3, hcz58_4, hfz58_0, hfz58_1, hfz58_2, hfz58_3, hfz58_4⟩ := blk5_ BK300.out;have hnb59 := NB271_0.out;have hnc59 := NB0_271.out;obtain ⟨hcz60_0, hcz60_1, hcz60_2, hcz60_3, hcz60_4, hfz60_0, hfz60_1, hfz60_2, hfz60_3, hfz60_4⟩ := blk5_ BK271.out)|((with_reducible refine gate_callee (f := 105) rfl ?_);refine goesL_ (some 78) rfl rfl Try.func105 (by kernel_rfl) rfl #[.agg #[.int .i64 ((rd_T74 s0_0 x7_2).f0), .int .i64 ((rd_T74 s0_0 x7_2).f1), .int .i64 ((rd_T74 s0_0 x7_2).f2), .string ((rd_T74 s0_0 x7_2).f3), .int .i64 ((rd_T74 s0_0 x7_2).f4)], .int .i64 x8_2] rfl (by (try simp only [List.map_toArray, List.map_cons, List.map_nil]);first|done|rfl|(simp only [List.length_drop, List.length_take];rfl)) ?_;(with_reducible refine (impl_headOf.calls k2 ((rd_T74 s0_0 x7_2).f0) ((rd_T74 s0_0 x7_2).f1) ((rd_T74 s0_0 x7_2).f2) ((rd_T74 s0_0 x7_2).f3) ((rd_T74 s0_0 x7_2).f4) x8_2 t301 _ A49.out).mono ?_);rintro e w61 ⟨v302, rfl, ho0, hb⟩;refine ⟨_, rfl, ?_⟩;have n0_ := Aside0.mk (Kd.R_elder' (by (with_reducible repeat (first|apply Kd.R_alloc|apply Kd.R_drewN|apply Kd.R_drew));exact (Kd.R_mono (Kd.R_far (p := ⟨gb300, 4, none⟩) (Kd.R_far (p := ⟨gb300, 3, none⟩) (Kd.R_far (p := ⟨gb300, 2, none⟩) (Kd.R_far (p := ⟨gb300, 1, none⟩) (Kd.R_far (p := ⟨gb300, 0, none⟩) (Kd.R_types HO_6.out BK300.out (by decide)) (fun _ hk => hk.2) (.int .i64 ((rd_T74 s0_0 x7_2).f0))) (fun _ hk => hk.2) (.int .i64 ((rd_T74 s0_0 x7_2).f1))) (fun _ hk => hk.2) (.int .i64 ((rd_T74 s0_0 x7_2).f2))) (fun _ hk => hk.2) (.string ((rd_T74 s0_0 x7_2).f3))) (fun _ hk => hk.2) (.int .i64 ((rd_T74 s0_0 x7_2).f4))) (fun _ h_ => h_.1))) (Kd.R_base ho0) hb);have n1_ := Aside0.mk (Kd.R_lower (Kd.R_new' ho0 (Kd.R_lt (by (with_reducible repeat (first|apply Kd.R_alloc|apply Kd.R_drewN|apply Kd.R_drew));exact (Kd.R_mono (Kd.R_far (p := ⟨gb300, 4, none⟩) (Kd.R_far (p := ⟨gb300, 3, none⟩) (Kd.R_far (p := ⟨gb300, 2, none⟩) (Kd.R_far (p := ⟨gb300, 1, none⟩) (Kd.R_far (p := ⟨gb300, 0, none⟩) (Kd.R_types HO_6.out BK300.out (by decide)) (fun _ hk => hk.2) (.int .i64 ((rd_T74 s0_0 x7_2).f0))) (fun _ hk => hk.2) (.int .i64 ((rd_T74 s0_0 x7_2).f1))) (fun _ hk => hk.2) (.int .i64 ((rd_T74 s0_0 x7_2).f2))) (fun _ hk => hk.2) (.string ((rd_T74 s0_0 x7_2).f3))) (fun _ hk => hk.2) (.int .i64 ((rd_T74 s0_0 x7_2).f4))) (fun _ h_ => h_.1))))) (keep_size (w := w) (g := g) (row := none) (by repeat (first|(with_reducible first|exact HK.out|apply KeepBut.set_|apply keep_drewN|apply keep_drew|apply keep_alloc|refine keep_far ?_ GW271.out _|refine keep_far ?_ GW300.out _)|exact HK.out))));have n2_ := Aside0.mk (blk_below (g := gb271) (o := .cells #[.int .i64 ((rd_T74 s0_0 a1).f0), .int .i64 ((rd_T74 s0_0 a1).f1), .int .i64 ((rd_T74 s0_0 a1).f2), .string ((rd_T74 s0_0 a1).f3), .int .i64 ((rd_T74 s0_0 a1).f4)] 74 (0, 0)) (by (with_reducible repeat (first|refine blk_drewN ?_ _|refine blk_drew ?_|refine blk_alloc ?_ _));refine blk_far ?_ NB271_300.out _;(with_reducible repeat (first|refine blk_drewN ?_ _|refine blk_drew ?_|refine blk_alloc ?_ _));refine blk_far ?_ NB271_300.out _;(with_reducible repeat (first|refine blk_drewN ?_ _|refine blk_drew ?_|refine blk_alloc ?_ _));refine blk_far ?_ NB271_300.out _;(with_reducible repeat (first|refine blk_drewN ?_ _|refine blk_drew ?_|refine blk_alloc ?_ _));refine blk_far ?_ NB271_300.out _;(with_reducible repeat (first|refine blk_drewN ?_ _|refine blk_drew ?_|refine blk_alloc ?_ _));refine blk_far ?_ NB271_300.out _;(with_reducible repeat (first|refine blk_drewN ?_ _|refine blk_drew ?_|refine blk_alloc ?_ _));exact BK271.out) hb);have n3_ := Aside0.mk (IsS81.below (show IsS81 w0 (((((w55.setCell ⟨gb300, 0, none⟩ (.int .i64 ((rd_T74 s0_0 x7_2).f0))).setCell ⟨gb300, 1, none⟩ (.int .i64 ((rd_T74 s0_0 x7_2).f1))).setCell ⟨gb300, 2, none⟩ (.int .i64 ((rd_T74 s0_0 x7_2).f2))).setCell ⟨gb300, 3, none⟩ (.string ((rd_T74 s0_0 x7_2).f3))).setCell ⟨gb300, 4, none⟩ (.int .i64 ((rd_T74 s0_0 x7_2).f4))) g s0_0 s0_1 from by repeat (first|(with_reducible first|exact HI0.out|apply IsS81.alloc|apply IsS81.drewN|apply IsS81.drew|refine IsS81.far ?_ NB0_271.out _|refine IsS81.far ?_ NB0_300.out _)|exact HI0.out)) hb);have n4_ := Aside0.mk (blk_below (g := gb300) (o := .cells #[.int .i64 ((rd_T74 s0_0 x7_2).f0), .int .i64 ((rd_T74 s0_0 x7_2).f1), .int .i64 ((rd_T74 s0_0 x7_2).f2), .string ((rd_T74 s0_0 x7_2).f3), .int .i64 ((rd_T74 s0_0 x7_2).f4)] 74 (0, 0)) (by (with_reducible repeat (first|refine blk_drewN ?_ _|refine blk_drew ?_|refine blk_alloc ?_ _));refine blk_put (cs := #[.int .i64 ((rd_T74 s0_0 x7_2).f0), .int .i64 ((rd_T74 s0_0 x7_2).f1), .int .i64 ((rd_T74 s0_0 x7_2).f2), .string ((rd_T74 s0_0 x7_2).f3), .int .i64 0]) ?_ 4 _ rfl;(with_reducible repeat (first|refine blk_drewN ?_ _|refine blk_drew ?_|refine blk_alloc ?_ _));refine blk_put (cs := #[.int .i64 ((rd_T74 s0_0 x7_2).f0), .int .i64 ((rd_T74 s0_0 x7_2).f1), .int .i64 ((rd_T74 s0_0 x7_2).f2), .string (⟨#[]⟩ : ByteArray), .int .i64 0]) ?_ 3 _ rfl;(with_reducible repeat (first|refine blk_drewN ?_ _|refine blk_drew ?_|refine blk_alloc ?_ _));refine blk_put (cs := #[.int .i64 ((rd_T74 s0_0 x7_2).f0), .int .i64 ((rd_T74 s0_0 x7_2).f1), .int .i64 0, .string (⟨#[]⟩ : ByteArray), .int .i64 0]) ?_ 2 _ rfl;(with_reducible repeat (first|refine blk_drewN ?_ _|refine blk_drew ?_|refine blk_alloc ?_ _));refine blk_put (cs := #[.int .i64 ((rd_T74 s0_0 x7_2).f0), .int .i64 0, .int .i64 0, .string (⟨#[]⟩ : ByteArray), .int .i64 0]) ?_ 1 _ rfl;(with_reducible repeat (first|refine blk_drewN ?_ _|refine blk_drew ?_|refine blk_alloc ?_ _));refine blk_put (cs := #[.int .i64 0, .int .i64 0, .int .i64 0, .string (⟨#[]⟩ : ByteArray), .int .i64 0]) ?_ 0 _ rfl;(with_reducible repeat (first|refine blk_drewN ?_ _|refine blk_drew ?_|refine blk_alloc ?_ _));exact BK300.out) hb);have n5_ := Aside0.mk (KeepBut.trans (by repeat (first|(with_reducible first|exact HK.out|apply KeepBut.set_|apply keep_drewN|apply keep_drew|apply keep_alloc|refine keep_far ?_ GW271.out _|refine keep_far ?_ GW300.out _)|exact HK.out)) (KeepBut.of_below hb g none) (.inl rfl));have n6_ := Aside0.mk (below_step (by repeat (first|(with_reducible first|exact HB.out|apply below_alloc|apply pw_below_drewN|apply below_drew1|refine below_set ?_ (IsS81.ge HI0.out)|refine below_set ?_ GE271.out|refine below_set ?_ GE300.out)|exact HB.out)) hb);clear HO_6;clear BK271;clear HI0;clear BK300;clear HK;clear HB;have HO_6 := n0_;have HO303 := n1_;have BK271 := n2_;have HI0 := n3_;have BK300 := n4_;have HK := n5_;have HB := n6_;clear n0_ n1_ n2_ n3_ n4_ n5_ n6_;(try clear hb);(try clear hb2);(try clear hk);(try clear hi);(try clear ho0);obtain ⟨Ao63, co63, eo63⟩ := Kd.R_slice HO303.out;subst eo63)|((with_reducible refine gate_builtin (b := .append) (xs := #[.tmp 75, .tmp 78]) rfl ?_);at_builtin;refine Kd.R_append_rows (Kd.int .u8) w.heap.size rfl (.tmp 75) (.tmp 78) 50 5 (.int .u8 0) 1 rfl Try.underlying50 info5 rfl (by decide) (by omega) u6 x6_2 t301 _ _ _ (fun k_ => some k_ ≠ (.slice Ao63 t301.length co63 : Value).ownBlock) (fun _ => False) rfl rfl ?aO ?aR (fun _ _ h => h) (fun _ h => h.elim) ?aF (Below.refl _ _) ?aS ?aL ?_;(case aR => repeat (first|exact (Kd.R_reads' HO303.out).2.2|(with_reducible refine Kd.C_alloc ?_ _)|(with_reducible refine Kd.C_drewN ?_ _)|(with_reducible refine Kd.C_drew ?_)));(case aF => exact (fun k_ hk => Kd.fresh' (Kd.R_lt (by (with_reducible repeat (first|apply Kd.R_alloc|apply Kd.R_drewN|apply Kd.R_drew));exact HO303.out)) k_ hk));(case aO => exact (by (with_reducible repeat (first|apply Kd.R_alloc|apply Kd.R_drewN|apply Kd.R_drew));exact Kd.R_mono HO_6.out (fun _ hk => hk.2)));(case aS => exact (keep_size (w := w) (g := g) (row := none) (by repeat (first|(with_reducible first|exact HK.out|apply KeepBut.set_|apply keep_drewN|apply keep_drew|apply keep_alloc|refine keep_far ?_ GW271.out _|refine keep_far ?_ GW300.out _)|exact HK.out))));(case aL => have := LMc50.out;omega);intro v305 w62 ho hb hg hat;rw [← Ny304.out] at ho;have n0_ := Aside0.mk (blk_grown (g := gb271) (o := .cells #[.int .i64 ((rd_T74 s0_0 a1).f0), .int .i64 ((rd_T74 s0_0 a1).f1), .int .i64 ((rd_T74 s0_0 a1).f2), .string ((rd_T74 s0_0 a1).f3), .int .i64 ((rd_T74 s0_0 a1).f4)] 74 (0, 0)) (by (with_reducible repeat (first|refine blk_drewN ?_ _|refine blk_drew ?_|refine blk_alloc ?_ _));exact BK271.out) hg (Kd.R_ne HO_6.out BK271.out (by decide)));have n1_ := Aside0.mk (IsS81.grown (by repeat (first|(with_reducible first|exact HI0.out|apply IsS81.alloc|apply IsS81.drewN|apply IsS81.drew|refine IsS81.far ?_ NB0_271.out _|refine IsS81.far ?_ NB0_300.out _)|exact HI0.out)) hg (IsS81.own_ne HI0.out HO_6.out (by decide)));have n2_ := Aside0.mk (blk_grown (g := gb300) (o := .cells #[.int .i64 ((rd_T74 s0_0 x7_2).f0), .int .i64 ((rd_T74 s0_0 x7_2).f1), .int .i64 ((rd_T74 s0_0 x7_2).f2), .string ((rd_T74 s0_0 x7_2).f3), .int .i64 ((rd_T74 s0_0 x7_2).f4)] 74 (0, 0)) (by (with_reducible repeat (first|refine blk_drewN ?_ _|refine blk_drew ?_|refine blk_alloc ?_ _));exact BK300.out) hg (Kd.R_ne HO_6.out BK300.out (by decide)));have n3_ := Aside0.mk (Kd.R_after (ok := (fun _ => True)) (by (with_reducible repeat (first|apply Kd.R_alloc|apply Kd.R_drewN|apply Kd.R_drew));exact HO303.out) hg hat);have n4_ := Aside0.mk (below_weaken (by repeat (first|(with_reducible first|exact HB.out|apply below_alloc|apply pw_below_drewN|apply below_drew1|refine below_set ?_ (IsS81.ge HI0.out)|refine below_set ?_ GE271.out|refine below_set ?_ GE300.out)|exact HB.out)) HL.out hb);have n5_ := Aside0.mk (KeepBut.trans (by repeat (first|(with_reducible first|exact HK.out|apply KeepBut.set_|apply keep_drewN|apply keep_drew|apply keep_alloc|refine keep_far ?_ GW271.out _|refine keep_far ?_ GW300.out _)|exact HK.out)) (KeepBut.of_grown hg g) (Kd.R_base2 HO_6.out));have n6_ := Aside0.mk (ho);clear BK271;clear HI0;clear BK300;clear HO303;clear HB;clear HK;clear HO_6;have BK271 := n0_;have HI0 := n1_;have BK300 := n2_;have HO303 := n3_;have HB := n4_;have HK := n5_;have HO306 := n6_;clear n0_ n1_ n2_ n3_ n4_ n5_ n6_;clear ho hb hg hat;obtain ⟨hcz64_0, hcz64_1, hcz64_2, hcz64_3, hcz64_4, hfz64_0, hfz64_1, hfz64_2, hfz64_3, hfz64_4⟩ := blk5_ BK300.out)|((with_reducible refine gate_callee (f := 88) rfl ?_);refine goesL_ (some 85) rfl rfl Try.func88 (by kernel_rfl) rfl #[.pointer (some ⟨g, 0, none⟩), .int .i64 x7_2] rfl (by (try simp only [List.map_toArray, List.map_cons, List.map_nil]);first|done|rfl|(simp only [List.length_drop, List.length_take];rfl)) ?_;(with_reducible refine (ih k2 (by have := HJ4.out;have := HK2.out;omega) g s0_0 s0_1 x7_2 t307 w0 _ ?side1 ?side2 A51.out).mono ?_);(case side1 => repeat (first|(with_reducible first|exact HI0.out|apply IsS81.alloc|apply IsS81.drewN|apply IsS81.drew|refine IsS81.far ?_ NB0_271.out _|refine IsS81.far ?_ NB0_300.out _)|exact HI0.out));(case side2 => repeat (first|(with_reducible first|exact HB.out|apply below_alloc|apply pw_below_drewN|apply below_drew1|refine below_set ?_ (IsS81.ge HI0.out)|refine below_set ?_ GE271.out|refine below_set ?_ GE300.out)|exact HB.out));rintro e w65 ⟨v308, rfl, ho0, hi, hb, hk⟩;refine ⟨_, rfl, ?_⟩;have n0_ := Aside0.mk (KeepBut.blk hk (g' := gb271) (o := .cells #[.int .i64 ((rd_T74 s0_0 a1).f0), .int .i64 ((rd_T74 s0_0 a1).f1), .int .i64 ((rd_T74 s0_0 a1).f2), .string ((rd_T74 s0_0 a1).f3), .int .i64 ((rd_T74 s0_0 a1).f4)] 74 (0, 0)) (by (with_reducible repeat (first|refine blk_drewN ?_ _|refine blk_drew ?_|refine blk_alloc ?_ _));exact BK271.out) NB271_0.out (by simp));have n1_ := Aside0.mk (KeepBut.blk hk (g' := gb300) (o := .cells #[.int .i64 ((rd_T74 s0_0 x7_2).f0), .int .i64 ((rd_T74 s0_0 x7_2).f1), .int .i64 ((rd_T74 s0_0 x7_2).f2), .string ((rd_T74 s0_0 x7_2).f3), .int .i64 ((rd_T74 s0_0 x7_2).f4)] 74 (0, 0)) (by (with_reducible repeat (first|refine blk_drewN ?_ _|refine blk_drew ?_|refine blk_alloc ?_ _));exact BK300.out) NB300_0.out (by simp));have n2_ := Aside0.mk (Kd.R_mono (Kd.R_told (Kd.R_oldK (IsS81.apart (show IsS81 w0 _ g s0_0 s0_1 from by repeat (first|(with_reducible first|exact HI0.out|apply IsS81.alloc|apply IsS81.drewN|apply IsS81.drew|refine IsS81.far ?_ NB0_271.out _|refine IsS81.far ?_ NB0_300.out _)|exact HI0.out)) (by (with_reducible repeat (first|apply Kd.R_alloc|apply Kd.R_drewN|apply Kd.R_drew));exact HO303.out) (by decide)) hk) (Kd.R_base ho0)) (fun _ h_ => h_.1));have n3_ := Aside0.mk (Kd.R_mono (Kd.R_told (Kd.R_oldK (IsS81.apart (show IsS81 w0 _ g s0_0 s0_1 from by repeat (first|(with_reducible first|exact HI0.out|apply IsS81.alloc|apply IsS81.drewN|apply IsS81.drew|refine IsS81.far ?_ NB0_271.out _|refine IsS81.far ?_ NB0_300.out _)|exact HI0.out)) (by (with_reducible repeat (first|apply Kd.R_alloc|apply Kd.R_drewN|apply Kd.R_drew));exact HO306.out) (by decide)) hk) (Kd.R_base ho0)) (fun _ h_ => h_.1));have n4_ := Aside0.mk (Kd.R_lower (Kd.R_new' (Kd.R_new' ho0 (Kd.R_lt (by (with_reducible repeat (first|apply Kd.R_alloc|apply Kd.R_drewN|apply Kd.R_drew));exact HO303.out))) (Kd.R_lt (by (with_reducible repeat (first|apply Kd.R_alloc|apply Kd.R_drewN|apply Kd.R_drew));exact HO306.out))) (keep_size (w := w) (g := g) (row := none) (by repeat (first|(with_reducible first|exact HK.out|apply KeepBut.set_|apply keep_drewN|apply keep_drew|apply keep_alloc|refine keep_far ?_ GW271.out _|refine keep_far ?_ GW300.out _)|exact HK.out))));have n5_ := Aside0.mk (KeepBut.trans (by repeat (first|(with_reducible first|exact HK.out|apply KeepBut.set_|apply keep_drewN|apply keep_drew|apply keep_alloc|refine keep_far ?_ GW271.out _|refine keep_far ?_ GW300.out _)|exact HK.out)) hk (.inl rfl));have n6_ := Aside0.mk (hb);have n7_ := Aside0.mk (hi);clear BK271;clear BK300;clear HO303;clear HO306;clear HK;clear HB;clear HI0;have BK271 := n0_;have BK300 := n1_;have HO303 := n2_;have HO306 := n3_;have HO309 := n4_;have HK := n5_;have HB := n6_;have HI0 := n7_;clear n0_ n1_ n2_ n3_ n4_ n5_ n6_ n7_;(try clear hb);(try clear hb2);(try clear hk);(try clear hi);(try clear ho0);obtain ⟨Ao67, co67, eo67⟩ := Kd.R_slice HO309.out;subst eo67)|((with_reducible refine gate_builtin (b := .append) (xs := #[.tmp 82, .tmp 85]) rfl ?_);at_builtin;refine Kd.R_append_rows (Kd.int .u8) w.heap.size rfl (.tmp 82) (.tmp 85) 50 5 (.int .u8 0) 1 rfl Try.underlying50 info5 rfl (by decide) (by omega) v305 y304 t307 _ _ _ (fun k_ => some k_ ≠ (.slice Ao63 t301.length co63 : Value).ownBlock ∧ some k_ ≠ (.slice Ao67 t307.length co67 : Value).ownBlock) (fun _ => False) rfl rfl ?aO ?aR (fun _ _ h => h) (fun _ h => h.elim) ?aF (Below.refl _ _) ?aS ?aL ?_;(case aR => repeat (first|exact (Kd.R_reads' HO309.out).2.2|(with_reducible refine Kd.C_alloc ?_ _)|(with_reducible refine Kd.C_drewN ?_ _)|(with_reducible refine Kd.C_drew ?_)));(case aF => exact (fun k_ hk => ⟨Kd.fresh' (Kd.R_lt (by (with_reducible repeat (first|apply Kd.R_alloc|apply Kd.R_drewN|apply Kd.R_drew));exact HO303.out)) k_ hk, Kd.fresh' (Kd.R_lt (by (with_reducible repeat (first|apply Kd.R_alloc|apply Kd.R_drewN|apply Kd.R_drew));exact HO309.out)) k_ hk⟩));(case aO => exact (by (with_reducible repeat (first|apply Kd.R_alloc|apply Kd.R_drewN|apply Kd.R_drew));exact HO306.out));(case aS => exact (keep_size (w := w) (g := g) (row := none) (by repeat (first|(with_reducible first|exact HK.out|apply KeepBut.set_|apply keep_drewN|apply keep_drew|apply keep_alloc|refine keep_far ?_ GW271.out _|refine keep_far ?_ GW300.out _)|exact HK.out))));(case aL => have := LMc52.out;omega);intro v311 w66 ho hb hg hat;rw [← Ny310.out] at ho;have n0_ := Aside0.mk (blk_grown (g := gb271) (o := .cells #[.int .i64 ((rd_T74 s0_0 a1).f0), .int .i64 ((rd_T74 s0_0 a1).f1), .int .i64 ((rd_T74 s0_0 a1).f2), .string ((rd_T74 s0_0 a1).f3), .int .i64 ((rd_T74 s0_0 a1).f4)] 74 (0, 0)) (by (with_reducible repeat (first|refine blk_drewN ?_ _|refine blk_drew ?_|refine blk_alloc ?_ _));exact BK271.out) hg (Kd.R_ne HO306.out BK271.out (by decide)));have n1_ := Aside0.mk (IsS81.grown (by repeat (first|(with_reducible first|exact HI0.out|apply IsS81.alloc|apply IsS81.drewN|apply IsS81.drew|refine IsS81.far ?_ NB0_271.out _|refine IsS81.far ?_ NB0_300.out _)|exact HI0.out)) hg (IsS81.own_ne HI0.out HO306.out (by decide)));have n2_ := Aside0.mk (blk_grown (g := gb300) (o := .cells #[.int .i64 ((rd_T74 s0_0 x7_2).f0), .int .i64 ((rd_T74 s0_0 x7_2).f1), .int .i64 ((rd_T74 s0_0 x7_2).f2), .string ((rd_T74 s0_0 x7_2).f3), .int .i64 ((rd_T74 s0_0 x7_2).f4)] 74 (0, 0)) (by (with_reducible repeat (first|refine blk_drewN ?_ _|refine blk_drew ?_|refine blk_alloc ?_ _));exact BK300.out) hg (Kd.R_ne HO306.out BK300.out (by decide)));have n3_ := Aside0.mk (Kd.R_after (ok := (fun k_ => some k_ ≠ (.slice Ao67 t307.length co67 : Value).ownBlock)) (by (with_reducible repeat (first|apply Kd.R_alloc|apply Kd.R_drewN|apply Kd.R_drew));exact Kd.R_mono HO303.out (fun _ hk => ⟨hk.2, hk.1.2⟩)) hg hat);have n4_ := Aside0.mk (Kd.R_after (ok := (fun k_ => some k_ ≠ (.slice Ao63 t301.length co63 : Value).ownBlock)) (by (with_reducible repeat (first|apply Kd.R_alloc|apply Kd.R_drewN|apply Kd.R_drew));exact Kd.R_mono HO309.out (fun _ hk => ⟨hk.1.2, hk.2⟩)) hg hat);have n5_ := Aside0.mk (below_weaken (by repeat (first|(with_reducible first|exact HB.out|apply below_alloc|apply pw_below_drewN|apply below_drew1|refine below_set ?_ (IsS81.ge HI0.out)|refine below_set ?_ GE271.out|refine below_set ?_ GE300.out)|exact HB.out)) HL.out hb);have n6_ := Aside0.mk (KeepBut.trans (by repeat (first|(with_reducible first|exact HK.out|apply KeepBut.set_|apply keep_drewN|apply keep_drew|apply keep_alloc|refine keep_far ?_ GW271.out _|refine keep_far ?_ GW300.out _)|exact HK.out)) (KeepBut.of_grown hg g) (Kd.R_base2 HO306.out));have n7_ := Aside0.mk (ho);clear BK271;clear HI0;clear BK300;clear HO303;clear HO309;clear HB;clear HK;clear HO306;have BK271 := n0_;have HI0 := n1_;have BK300 := n2_;have HO303 := n3_;have HO309 := n4_;have HB := n5_;have HK := n6_;have HO312 := n7_;clear n0_ n1_ n2_ n3_ n4_ n5_ n6_ n7_;clear ho hb hg hat;obtain ⟨ASz68_0, cSz68_0, ASz68_1, cSz68_1, HGz68, hgz68, HSz68_0, HSz68_1⟩ := HI0.out;have hcz68_0 := cellS81_0 HGz68;have hcz68_1 := cellS81_1 HGz68;clear HGz68 hgz68;have p313 : 0 ≤ (x7_2 : Int) := of_decide_eq_true (by first|(with_reducible assumption)|assumption);have q313 : x7_2 < (s0_1.length : Int) := of_decide_eq_true (by first|(with_reducible assumption)|assumption);obtain ⟨ad313, e313, hx313_0⟩ := Kd.at_int HSz68_1 x7_2 p313 q313;cases e313;replace hx313_0 := pw_cell_below HB.out hx313_0;replace p313 := eq_true p313;replace q313 := eq_true q313))
              go_roundg k2
              case measure => have := HJ4.out;have := HK2.out;omega
              case rel => exact ⟨(y310), (rd s0_1 x7_2), ((rd_T74 s0_0 x7_2).f1), (wrap64 (x63_2 + 1)), (by first|rfl|(simp;done)|(simp [*];done)), (by first|rfl|(simp;done)|(simp [*];done)), (by first|rfl|(simp;done)|(simp [*];done)), H', ⟨by have := HJ4.out;have := HK2.out;omega⟩, ⟨by (with_reducible repeat (first|apply Kd.R_alloc|apply Kd.R_drewN|apply Kd.R_drew));exact Kd.R_mono HO312.out (fun _ hk => trivial)⟩, ⟨by (with_reducible repeat (first|refine blk_drewN ?_ _|refine blk_drew ?_|refine blk_alloc ?_ _));exact BK271.out⟩, ⟨by repeat (first|(with_reducible first|exact HI0.out|apply IsS81.alloc|apply IsS81.drewN|apply IsS81.drew|refine IsS81.far ?_ NB0_271.out _|refine IsS81.far ?_ NB0_300.out _)|exact HI0.out)⟩, ⟨by repeat (first|(with_reducible first|exact HK.out|apply KeepBut.set_|apply keep_drewN|apply keep_drew|apply keep_alloc|refine keep_far ?_ GW271.out _|refine keep_far ?_ GW300.out _)|exact HK.out)⟩, ⟨by repeat (first|(with_reducible first|exact HB.out|apply below_alloc|apply pw_below_drewN|apply below_drew1|refine below_set ?_ (IsS81.ge HI0.out)|refine below_set ?_ GE271.out|refine below_set ?_ GE300.out)|exact HB.out)⟩⟩
             ·rw [if_neg c53] at H
              exact absurd H (by simp)
            ·rw [if_neg c52] at H
             exact absurd H (by simp)
           ·rw [if_neg c50] at H
            exact absurd H (by simp)
          ·rw [if_neg c48] at H
           have c48b0 : (((rd_T74 s0_0 a1).f0) == 12) = false := beq_eq_false_iff_ne.mpr c48
           have c48b1 : (((rd_T74 s0_0 a1).f0) != 12) = true := bne_iff_ne.mpr c48
           replace H := Option.bind_eq_some_iff.mp H
           obtain ⟨t314, A690, H⟩ := H
           replace H : (if x6_2.length + t314.length < 140737488355328 then (if x7_2 < (s0_1.length : Int) then (impl_tree_bytesOf.l0 k2 (x6_2 ++ t314) (rd s0_1 x7_2) ((rd_T74 s0_0 x7_2).f1) ((rd_T74 s0_0 a1).f4) (wrap64 (x63_2 + 1)) s0_0 s0_1 ((rd_T74 s0_0 a1).f0) ((rd_T74 s0_0 a1).f1) ((rd_T74 s0_0 a1).f2) ((rd_T74 s0_0 a1).f3) ((rd_T74 s0_0 a1).f4)) else (none)) else (none)) = some r := H
           have A69 := Aside0.mk A690
           clear A690
           by_cases c70 : x6_2.length + t314.length < 140737488355328
           ·rw [if_pos c70] at H
            have LMc70 := Aside0.mk c70
            clear c70
            obtain ⟨y317, hy317⟩ : ∃ y_ : List Int, y_ = (x6_2 ++ t314) := ⟨_, rfl⟩
            replace H : (if x7_2 < (s0_1.length : Int) then (impl_tree_bytesOf.l0 k2 y317 (rd s0_1 x7_2) ((rd_T74 s0_0 x7_2).f1) ((rd_T74 s0_0 a1).f4) (wrap64 (x63_2 + 1)) s0_0 s0_1 ((rd_T74 s0_0 a1).f0) ((rd_T74 s0_0 a1).f1) ((rd_T74 s0_0 a1).f2) ((rd_T74 s0_0 a1).f3) ((rd_T74 s0_0 a1).f4)) else (none)) = some r := by first|(rw [hy317];with_reducible exact H)|(have H2_ := (Option.bind_some _ _).symm.trans H;rw [hy317];with_reducible exact H2_)|(have H2_ := (Option.bind_some _ _).symm.trans H;with_reducible exact H2_)|with_reducible exact H|(rw [hy317];exact H)|exact H
            have Ny317 := Aside0.mk hy317
            clear hy317
            by_cases c71 : x7_2 < (s0_1.length : Int)
            ·rw [if_pos c71] at H
             have c71b0 : decide (x7_2 < (s0_1.length : Int)) = true := decide_eq_true c71
             clear c71
             have H' := Aside0.mk H
             clear H
             obtain ⟨ASz72_0, cSz72_0, ASz72_1, cSz72_1, HGz72, hgz72, HSz72_0, HSz72_1⟩ := HI0.out
             have hcz72_0 := cellS81_0 HGz72
             have hcz72_1 := cellS81_1 HGz72
             clear HGz72 hgz72
             have p299 : 0 ≤ (x7_2 : Int) := of_decide_eq_true (by first|(with_reducible assumption)|assumption)
             have q299 : x7_2 < (s0_0.length : Int) := of_decide_eq_true (by first|(with_reducible assumption)|assumption)
             obtain ⟨ad299, e299, hx299_0, hx299_1, hx299_2, hx299_3, hx299_4⟩ := at_T74 HSz72_0 x7_2 p299 q299
             cases e299
             replace hx299_0 := pw_cell_below HB.out hx299_0
             replace hx299_1 := pw_cell_below HB.out hx299_1
             replace hx299_2 := pw_cell_below HB.out hx299_2
             replace hx299_3 := pw_cell_below HB.out hx299_3
             replace hx299_4 := pw_cell_below HB.out hx299_4
             replace p299 := eq_true p299
             replace q299 := eq_true q299
             go_wp2_with (first|((with_reducible refine gate_dst (N := 9) rfl ?_);refine box_event ?hg (N := 9) ?hd (cs := #[.int .i64 0, .int .i64 0, .int .i64 0, .string (⟨#[]⟩ : ByteArray), .int .i64 0]) (t := 74) ?hr ?_;(case hd => rfl);(case hg => rfl);(case hr => first|(go_simp;done)|(go_simp;rfl));intro gb300 hg w73 hbox hb;have n0_ := Aside0.mk (Kd.R_below (by (with_reducible repeat (first|apply Kd.R_alloc|apply Kd.R_drewN|apply Kd.R_drew));exact HO_6.out) hb);have n1_ := Aside0.mk (blk_below (g := gb271) (o := .cells #[.int .i64 ((rd_T74 s0_0 a1).f0), .int .i64 ((rd_T74 s0_0 a1).f1), .int .i64 ((rd_T74 s0_0 a1).f2), .string ((rd_T74 s0_0 a1).f3), .int .i64 ((rd_T74 s0_0 a1).f4)] 74 (0, 0)) (by (with_reducible repeat (first|refine blk_drewN ?_ _|refine blk_drew ?_|refine blk_alloc ?_ _));exact BK271.out) hb);have n2_ := Aside0.mk (IsS81.below (by repeat (first|(with_reducible first|exact HI0.out|apply IsS81.alloc|apply IsS81.drewN|apply IsS81.drew|refine IsS81.far ?_ NB0_271.out _)|exact HI0.out)) hb);have n3_ := Aside0.mk (KeepBut.trans (by repeat (first|(with_reducible first|exact HK.out|apply KeepBut.set_|apply keep_drewN|apply keep_drew|apply keep_alloc|refine keep_far ?_ GW271.out _)|exact HK.out)) (KeepBut.of_below hb g none) (.inl rfl));have n4_ := Aside0.mk (below_step (by repeat (first|(with_reducible first|exact HB.out|apply below_alloc|apply pw_below_drewN|apply below_drew1|refine below_set ?_ (IsS81.ge HI0.out)|refine below_set ?_ GE271.out)|exact HB.out)) hb);have n5_ := Aside0.mk (hbox);have n6_ := Aside0.mk ((by rw [hg];exact (keep_size (w := w) (g := g) (row := none) (by repeat (first|(with_reducible first|exact HK.out|apply KeepBut.set_|apply keep_drewN|apply keep_drew|apply keep_alloc|refine keep_far ?_ GW271.out _)|exact HK.out))) : w.heap.size ≤ gb300));have n7_ := Aside0.mk ((Nat.le_trans HW0.out (by rw [hg];exact (keep_size (w := w) (g := g) (row := none) (by repeat (first|(with_reducible first|exact HK.out|apply KeepBut.set_|apply keep_drewN|apply keep_drew|apply keep_alloc|refine keep_far ?_ GW271.out _)|exact HK.out))) : w.heap.size ≤ gb300) : w0.heap.size ≤ gb300));have n8_ := Aside0.mk ((by rw [hg];exact Nat.ne_of_lt (blk_lt (g := gb271) (o := .cells #[.int .i64 ((rd_T74 s0_0 a1).f0), .int .i64 ((rd_T74 s0_0 a1).f1), .int .i64 ((rd_T74 s0_0 a1).f2), .string ((rd_T74 s0_0 a1).f3), .int .i64 ((rd_T74 s0_0 a1).f4)] 74 (0, 0)) (by (with_reducible repeat (first|refine blk_drewN ?_ _|refine blk_drew ?_|refine blk_alloc ?_ _));exact BK271.out)) : gb271 ≠ gb300));have n9_ := Aside0.mk ((by rw [hg];exact Nat.ne_of_gt (blk_lt (g := gb271) (o := .cells #[.int .i64 ((rd_T74 s0_0 a1).f0), .int .i64 ((rd_T74 s0_0 a1).f1), .int .i64 ((rd_T74 s0_0 a1).f2), .string ((rd_T74 s0_0 a1).f3), .int .i64 ((rd_T74 s0_0 a1).f4)] 74 (0, 0)) (by (with_reducible repeat (first|refine blk_drewN ?_ _|refine blk_drew ?_|refine blk_alloc ?_ _));exact BK271.out)) : gb300 ≠ gb271));have n10_ := Aside0.mk ((by rw [hg];exact Nat.ne_of_lt (IsS81.lt (show IsS81 w0 _ g s0_0 s0_1 from by repeat (first|(with_reducible first|exact HI0.out|apply IsS81.alloc|apply IsS81.drewN|apply IsS81.drew|refine IsS81.far ?_ NB0_271.out _)|exact HI0.out))) : g ≠ gb300));have n11_ := Aside0.mk ((by rw [hg];exact Nat.ne_of_gt (IsS81.lt (show IsS81 w0 _ g s0_0 s0_1 from by repeat (first|(with_reducible first|exact HI0.out|apply IsS81.alloc|apply IsS81.drewN|apply IsS81.drew|refine IsS81.far ?_ NB0_271.out _)|exact HI0.out))) : gb300 ≠ g));clear HO_6;clear BK271;clear HI0;clear HK;clear HB;have HO_6 := n0_;have BK271 := n1_;have HI0 := n2_;have HK := n3_;have HB := n4_;have BK300 := n5_;have GW300 := n6_;have GE300 := n7_;have NB271_300 := n8_;have NB300_271 := n9_;have NB0_300 := n10_;have NB300_0 := n11_;clear n0_ n1_ n2_ n3_ n4_ n5_ n6_ n7_ n8_ n9_ n10_ n11_;clear hb hbox hg;have hnb74 := NB300_271.out;have hnc74 := NB271_300.out;have hnb75 := NB300_0.out;have hnc75 := NB0_300.out;obtain ⟨hcz76_0, hcz76_1, hcz76_2, hcz76_3, hcz76_4, hfz76_0, hfz76_1, hfz76_2, hfz76_3, hfz76_4⟩ := blk5_ BK300.out;have hnb77 := NB271_0.out;have hnc77 := NB0_271.out;obtain ⟨hcz78_0, hcz78_1, hcz78_2, hcz78_3, hcz78_4, hfz78_0, hfz78_1, hfz78_2, hfz78_3, hfz78_4⟩ := blk5_ BK271.out)|((with_reducible refine gate_callee (f := 88) rfl ?_);refine goesL_ (some 85) rfl rfl Try.func88 (by kernel_rfl) rfl #[.pointer (some ⟨g, 0, none⟩), .int .i64 x7_2] rfl (by (try simp only [List.map_toArray, List.map_cons, List.map_nil]);first|done|rfl|(simp only [List.length_drop, List.length_take];rfl)) ?_;(with_reducible refine (ih k2 (by have := HJ4.out;have := HK2.out;omega) g s0_0 s0_1 x7_2 t314 w0 _ ?side1 ?side2 A69.out).mono ?_);(case side1 => repeat (first|(with_reducible first|exact HI0.out|apply IsS81.alloc|apply IsS81.drewN|apply IsS81.drew|refine IsS81.far ?_ NB0_271.out _|refine IsS81.far ?_ NB0_300.out _)|exact HI0.out));(case side2 => repeat (first|(with_reducible first|exact HB.out|apply below_alloc|apply pw_below_drewN|apply below_drew1|refine below_set ?_ (IsS81.ge HI0.out)|refine below_set ?_ GE271.out|refine below_set ?_ GE300.out)|exact HB.out));rintro e w79 ⟨v315, rfl, ho0, hi, hb, hk⟩;refine ⟨_, rfl, ?_⟩;have n0_ := Aside0.mk (Kd.R_mono (Kd.R_told (Kd.R_oldK (IsS81.apart (show IsS81 w0 _ g s0_0 s0_1 from by repeat (first|(with_reducible first|exact HI0.out|apply IsS81.alloc|apply IsS81.drewN|apply IsS81.drew|refine IsS81.far ?_ NB0_271.out _|refine IsS81.far ?_ NB0_300.out _)|exact HI0.out)) (by (with_reducible repeat (first|apply Kd.R_alloc|apply Kd.R_drewN|apply Kd.R_drew));exact (Kd.R_mono (Kd.R_far (p := ⟨gb300, 4, none⟩) (Kd.R_far (p := ⟨gb300, 3, none⟩) (Kd.R_far (p := ⟨gb300, 2, none⟩) (Kd.R_far (p := ⟨gb300, 1, none⟩) (Kd.R_far (p := ⟨gb300, 0, none⟩) (Kd.R_types HO_6.out BK300.out (by decide)) (fun _ hk => hk.2) (.int .i64 ((rd_T74 s0_0 x7_2).f0))) (fun _ hk => hk.2) (.int .i64 ((rd_T74 s0_0 x7_2).f1))) (fun _ hk => hk.2) (.int .i64 ((rd_T74 s0_0 x7_2).f2))) (fun _ hk => hk.2) (.string ((rd_T74 s0_0 x7_2).f3))) (fun _ hk => hk.2) (.int .i64 ((rd_T74 s0_0 x7_2).f4))) (fun _ h_ => h_.1))) (by decide)) hk) (Kd.R_base ho0)) (fun _ h_ => h_.1));have n1_ := Aside0.mk (KeepBut.blk hk (g' := gb271) (o := .cells #[.int .i64 ((rd_T74 s0_0 a1).f0), .int .i64 ((rd_T74 s0_0 a1).f1), .int .i64 ((rd_T74 s0_0 a1).f2), .string ((rd_T74 s0_0 a1).f3), .int .i64 ((rd_T74 s0_0 a1).f4)] 74 (0, 0)) (by (with_reducible repeat (first|refine blk_drewN ?_ _|refine blk_drew ?_|refine blk_alloc ?_ _));refine blk_far ?_ NB271_300.out _;(with_reducible repeat (first|refine blk_drewN ?_ _|refine blk_drew ?_|refine blk_alloc ?_ _));refine blk_far ?_ NB271_300.out _;(with_reducible repeat (first|refine blk_drewN ?_ _|refine blk_drew ?_|refine blk_alloc ?_ _));refine blk_far ?_ NB271_300.out _;(with_reducible repeat (first|refine blk_drewN ?_ _|refine blk_drew ?_|refine blk_alloc ?_ _));refine blk_far ?_ NB271_300.out _;(with_reducible repeat (first|refine blk_drewN ?_ _|refine blk_drew ?_|refine blk_alloc ?_ _));refine blk_far ?_ NB271_300.out _;(with_reducible repeat (first|refine blk_drewN ?_ _|refine blk_drew ?_|refine blk_alloc ?_ _));exact BK271.out) NB271_0.out (by simp));have n2_ := Aside0.mk (KeepBut.blk hk (g' := gb300) (o := .cells #[.int .i64 ((rd_T74 s0_0 x7_2).f0), .int .i64 ((rd_T74 s0_0 x7_2).f1), .int .i64 ((rd_T74 s0_0 x7_2).f2), .string ((rd_T74 s0_0 x7_2).f3), .int .i64 ((rd_T74 s0_0 x7_2).f4)] 74 (0, 0)) (by (with_reducible repeat (first|refine blk_drewN ?_ _|refine blk_drew ?_|refine blk_alloc ?_ _));refine blk_put (cs := #[.int .i64 ((rd_T74 s0_0 x7_2).f0), .int .i64 ((rd_T74 s0_0 x7_2).f1), .int .i64 ((rd_T74 s0_0 x7_2).f2), .string ((rd_T74 s0_0 x7_2).f3), .int .i64 0]) ?_ 4 _ rfl;(with_reducible repeat (first|refine blk_drewN ?_ _|refine blk_drew ?_|refine blk_alloc ?_ _));refine blk_put (cs := #[.int .i64 ((rd_T74 s0_0 x7_2).f0), .int .i64 ((rd_T74 s0_0 x7_2).f1), .int .i64 ((rd_T74 s0_0 x7_2).f2), .string (⟨#[]⟩ : ByteArray), .int .i64 0]) ?_ 3 _ rfl;(with_reducible repeat (first|refine blk_drewN ?_ _|refine blk_drew ?_|refine blk_alloc ?_ _));refine blk_put (cs := #[.int .i64 ((rd_T74 s0_0 x7_2).f0), .int .i64 ((rd_T74 s0_0 x7_2).f1), .int .i64 0, .string (⟨#[]⟩ : ByteArray), .int .i64 0]) ?_ 2 _ rfl;(with_reducible repeat (first|refine blk_drewN ?_ _|refine blk_drew ?_|refine blk_alloc ?_ _));refine blk_put (cs := #[.int .i64 ((rd_T74 s0_0 x7_2).f0), .int .i64 0, .int .i64 0, .string (⟨#[]⟩ : ByteArray), .int .i64 0]) ?_ 1 _ rfl;(with_reducible repeat (first|refine blk_drewN ?_ _|refine blk_drew ?_|refine blk_alloc ?_ _));refine blk_put (cs := #[.int .i64 0, .int .i64 0, .int .i64 0, .string (⟨#[]⟩ : ByteArray), .int .i64 0]) ?_ 0 _ rfl;(with_reducible repeat (first|refine blk_drewN ?_ _|refine blk_drew ?_|refine blk_alloc ?_ _));exact BK300.out) NB300_0.out (by simp));have n3_ := Aside0.mk (Kd.R_lower (Kd.R_new' ho0 (Kd.R_lt (by (with_reducible repeat (first|apply Kd.R_alloc|apply Kd.R_drewN|apply Kd.R_drew));exact (Kd.R_mono (Kd.R_far (p := ⟨gb300, 4, none⟩) (Kd.R_far (p := ⟨gb300, 3, none⟩) (Kd.R_far (p := ⟨gb300, 2, none⟩) (Kd.R_far (p := ⟨gb300, 1, none⟩) (Kd.R_far (p := ⟨gb300, 0, none⟩) (Kd.R_types HO_6.out BK300.out (by decide)) (fun _ hk => hk.2) (.int .i64 ((rd_T74 s0_0 x7_2).f0))) (fun _ hk => hk.2) (.int .i64 ((rd_T74 s0_0 x7_2).f1))) (fun _ hk => hk.2) (.int .i64 ((rd_T74 s0_0 x7_2).f2))) (fun _ hk => hk.2) (.string ((rd_T74 s0_0 x7_2).f3))) (fun _ hk => hk.2) (.int .i64 ((rd_T74 s0_0 x7_2).f4))) (fun _ h_ => h_.1))))) (keep_size (w := w) (g := g) (row := none) (by repeat (first|(with_reducible first|exact HK.out|apply KeepBut.set_|apply keep_drewN|apply keep_drew|apply keep_alloc|refine keep_far ?_ GW271.out _|refine keep_far ?_ GW300.out _)|exact HK.out))));have n4_ := Aside0.mk (KeepBut.trans (by repeat (first|(with_reducible first|exact HK.out|apply KeepBut.set_|apply keep_drewN|apply keep_drew|apply keep_alloc|refine keep_far ?_ GW271.out _|refine keep_far ?_ GW300.out _)|exact HK.out)) hk (.inl rfl));have n5_ := Aside0.mk (hb);have n6_ := Aside0.mk (hi);clear HO_6;clear BK271;clear BK300;clear HK;clear HB;clear HI0;have HO_6 := n0_;have BK271 := n1_;have BK300 := n2_;have HO316 := n3_;have HK := n4_;have HB := n5_;have HI0 := n6_;clear n0_ n1_ n2_ n3_ n4_ n5_ n6_;(try clear hb);(try clear hb2);(try clear hk);(try clear hi);(try clear ho0);obtain ⟨Ao81, co81, eo81⟩ := Kd.R_slice HO316.out;subst eo81)|((with_reducible refine gate_builtin (b := .append) (xs := #[.tmp 82, .tmp 85]) rfl ?_);at_builtin;refine Kd.R_append_rows (Kd.int .u8) w.heap.size rfl (.tmp 82) (.tmp 85) 50 5 (.int .u8 0) 1 rfl Try.underlying50 info5 rfl (by decide) (by omega) u6 x6_2 t314 _ _ _ (fun k_ => some k_ ≠ (.slice Ao81 t314.length co81 : Value).ownBlock) (fun _ => False) rfl rfl ?aO ?aR (fun _ _ h => h) (fun _ h => h.elim) ?aF (Below.refl _ _) ?aS ?aL ?_;(case aR => repeat (first|exact (Kd.R_reads' HO316.out).2.2|(with_reducible refine Kd.C_alloc ?_ _)|(with_reducible refine Kd.C_drewN ?_ _)|(with_reducible refine Kd.C_drew ?_)));(case aF => exact (fun k_ hk => Kd.fresh' (Kd.R_lt (by (with_reducible repeat (first|apply Kd.R_alloc|apply Kd.R_drewN|apply Kd.R_drew));exact HO316.out)) k_ hk));(case aO => exact (by (with_reducible repeat (first|apply Kd.R_alloc|apply Kd.R_drewN|apply Kd.R_drew));exact Kd.R_mono HO_6.out (fun _ hk => hk.2)));(case aS => exact (keep_size (w := w) (g := g) (row := none) (by repeat (first|(with_reducible first|exact HK.out|apply KeepBut.set_|apply keep_drewN|apply keep_drew|apply keep_alloc|refine keep_far ?_ GW271.out _|refine keep_far ?_ GW300.out _)|exact HK.out))));(case aL => have := LMc70.out;omega);intro v318 w80 ho hb hg hat;rw [← Ny317.out] at ho;have n0_ := Aside0.mk (blk_grown (g := gb271) (o := .cells #[.int .i64 ((rd_T74 s0_0 a1).f0), .int .i64 ((rd_T74 s0_0 a1).f1), .int .i64 ((rd_T74 s0_0 a1).f2), .string ((rd_T74 s0_0 a1).f3), .int .i64 ((rd_T74 s0_0 a1).f4)] 74 (0, 0)) (by (with_reducible repeat (first|refine blk_drewN ?_ _|refine blk_drew ?_|refine blk_alloc ?_ _));exact BK271.out) hg (Kd.R_ne HO_6.out BK271.out (by decide)));have n1_ := Aside0.mk (IsS81.grown (by repeat (first|(with_reducible first|exact HI0.out|apply IsS81.alloc|apply IsS81.drewN|apply IsS81.drew|refine IsS81.far ?_ NB0_271.out _|refine IsS81.far ?_ NB0_300.out _)|exact HI0.out)) hg (IsS81.own_ne HI0.out HO_6.out (by decide)));have n2_ := Aside0.mk (blk_grown (g := gb300) (o := .cells #[.int .i64 ((rd_T74 s0_0 x7_2).f0), .int .i64 ((rd_T74 s0_0 x7_2).f1), .int .i64 ((rd_T74 s0_0 x7_2).f2), .string ((rd_T74 s0_0 x7_2).f3), .int .i64 ((rd_T74 s0_0 x7_2).f4)] 74 (0, 0)) (by (with_reducible repeat (first|refine blk_drewN ?_ _|refine blk_drew ?_|refine blk_alloc ?_ _));exact BK300.out) hg (Kd.R_ne HO_6.out BK300.out (by decide)));have n3_ := Aside0.mk (Kd.R_after (ok := (fun _ => True)) (by (with_reducible repeat (first|apply Kd.R_alloc|apply Kd.R_drewN|apply Kd.R_drew));exact HO316.out) hg hat);have n4_ := Aside0.mk (below_weaken (by repeat (first|(with_reducible first|exact HB.out|apply below_alloc|apply pw_below_drewN|apply below_drew1|refine below_set ?_ (IsS81.ge HI0.out)|refine below_set ?_ GE271.out|refine below_set ?_ GE300.out)|exact HB.out)) HL.out hb);have n5_ := Aside0.mk (KeepBut.trans (by repeat (first|(with_reducible first|exact HK.out|apply KeepBut.set_|apply keep_drewN|apply keep_drew|apply keep_alloc|refine keep_far ?_ GW271.out _|refine keep_far ?_ GW300.out _)|exact HK.out)) (KeepBut.of_grown hg g) (Kd.R_base2 HO_6.out));have n6_ := Aside0.mk (ho);clear BK271;clear HI0;clear BK300;clear HO316;clear HB;clear HK;clear HO_6;have BK271 := n0_;have HI0 := n1_;have BK300 := n2_;have HO316 := n3_;have HB := n4_;have HK := n5_;have HO319 := n6_;clear n0_ n1_ n2_ n3_ n4_ n5_ n6_;clear ho hb hg hat;obtain ⟨ASz82_0, cSz82_0, ASz82_1, cSz82_1, HGz82, hgz82, HSz82_0, HSz82_1⟩ := HI0.out;have hcz82_0 := cellS81_0 HGz82;have hcz82_1 := cellS81_1 HGz82;clear HGz82 hgz82;have p320 : 0 ≤ (x7_2 : Int) := of_decide_eq_true (by first|(with_reducible assumption)|assumption);have q320 : x7_2 < (s0_1.length : Int) := of_decide_eq_true (by first|(with_reducible assumption)|assumption);obtain ⟨ad320, e320, hx320_0⟩ := Kd.at_int HSz82_1 x7_2 p320 q320;cases e320;replace hx320_0 := pw_cell_below HB.out hx320_0;replace p320 := eq_true p320;replace q320 := eq_true q320))
             go_roundg k2
             case measure => have := HJ4.out;have := HK2.out;omega
             case rel => exact ⟨(y317), (rd s0_1 x7_2), ((rd_T74 s0_0 x7_2).f1), (wrap64 (x63_2 + 1)), (by first|rfl|(simp;done)|(simp [*];done)), (by first|rfl|(simp;done)|(simp [*];done)), (by first|rfl|(simp;done)|(simp [*];done)), H', ⟨by have := HJ4.out;have := HK2.out;omega⟩, ⟨by (with_reducible repeat (first|apply Kd.R_alloc|apply Kd.R_drewN|apply Kd.R_drew));exact Kd.R_mono HO319.out (fun _ hk => trivial)⟩, ⟨by (with_reducible repeat (first|refine blk_drewN ?_ _|refine blk_drew ?_|refine blk_alloc ?_ _));exact BK271.out⟩, ⟨by repeat (first|(with_reducible first|exact HI0.out|apply IsS81.alloc|apply IsS81.drewN|apply IsS81.drew|refine IsS81.far ?_ NB0_271.out _|refine IsS81.far ?_ NB0_300.out _)|exact HI0.out)⟩, ⟨by repeat (first|(with_reducible first|exact HK.out|apply KeepBut.set_|apply keep_drewN|apply keep_drew|apply keep_alloc|refine keep_far ?_ GW271.out _|refine keep_far ?_ GW300.out _)|exact HK.out)⟩, ⟨by repeat (first|(with_reducible first|exact HB.out|apply below_alloc|apply pw_below_drewN|apply below_drew1|refine below_set ?_ (IsS81.ge HI0.out)|refine below_set ?_ GE271.out|refine below_set ?_ GE300.out)|exact HB.out)⟩⟩
            ·rw [if_neg c71] at H
             exact absurd H (by simp)
           ·rw [if_neg c70] at H
            exact absurd H (by simp)
         ·rw [if_neg c47] at H
          exact absurd H (by simp)
        ·rw [if_neg c46] at H
         exact absurd H (by simp)
       ·rw [if_neg c45] at H
        have c45b0 : decide (x63_2 < ((rd_T74 s0_0 a1).f4)) = false := decide_eq_false c45
        clear c45
        by_cases c83 : ((rd_T74 s0_0 a1).f0) = 12
        ·rw [if_pos c83] at H
         have c83b0 : (((rd_T74 s0_0 a1).f0) == 12) = true := beq_iff_eq.mpr c83
         have c83b1 : (((rd_T74 s0_0 a1).f0) != 12) = false := bne_eq_false_iff_eq.mpr c83
         clear c83
         by_cases c84 : x6_2.length < 140737488355328
         ·rw [if_pos c84] at H
          have LMc84 := Aside0.mk c84
          clear c84
          obtain ⟨y296, hy296⟩ : ∃ y_ : List Int, y_ = (x6_2 ++ [0]) := ⟨_, rfl⟩
          replace H : (some y296) = some r := by first|(rw [hy296];with_reducible exact H)|(have H2_ := (Option.bind_some _ _).symm.trans H;rw [hy296];with_reducible exact H2_)|(have H2_ := (Option.bind_some _ _).symm.trans H;with_reducible exact H2_)|with_reducible exact H|(rw [hy296];exact H)|exact H
          have Ny296 := Aside0.mk hy296
          clear hy296
          obtain rfl := Option.some.inj H
          have hnb85 := NB271_0.out
          have hnc85 := NB0_271.out
          obtain ⟨hcz86_0, hcz86_1, hcz86_2, hcz86_3, hcz86_4, hfz86_0, hfz86_1, hfz86_2, hfz86_3, hfz86_4⟩ := blk5_ BK271.out
          go_wp2_with (first|((with_reducible refine gate_builtin (b := .append) (xs := #[.tmp 98, .tmp 99]) rfl ?_);at_builtin;refine Kd.R_append (Kd.int .u8) w.heap.size rfl (.tmp 98) (.tmp 99) 50 5 (.int .u8 0) 1 rfl Try.underlying50 info5 rfl (by decide) (by omega) u6 x6_2 0 [.int .u8 0] (fun _ => True) (fun _ => False) rfl rfl ?aP (fun _ hk => hk.elim) ?aF ?aO (Below.refl _ _) ?aS ?aL ?_;(case aP => exact rfl);(case aF => exact (fun _ _ => trivial));(case aO => exact (by (with_reducible repeat (first|apply Kd.R_alloc|apply Kd.R_drewN|apply Kd.R_drew));exact HO_6.out));(case aS => exact (keep_size (w := w) (g := g) (row := none) (by repeat (first|(with_reducible first|exact HK.out|apply KeepBut.set_|apply keep_drewN|apply keep_drew|apply keep_alloc|refine keep_far ?_ GW271.out _)|exact HK.out))));(case aL => have := LMc84.out;omega);intro v297 w87 ho hb hg hat;rw [← Ny296.out] at ho;have n0_ := Aside0.mk (blk_grown (g := gb271) (o := .cells #[.int .i64 ((rd_T74 s0_0 a1).f0), .int .i64 ((rd_T74 s0_0 a1).f1), .int .i64 ((rd_T74 s0_0 a1).f2), .string ((rd_T74 s0_0 a1).f3), .int .i64 ((rd_T74 s0_0 a1).f4)] 74 (0, 0)) (by (with_reducible repeat (first|refine blk_drewN ?_ _|refine blk_drew ?_|refine blk_alloc ?_ _));exact BK271.out) hg (Kd.R_ne HO_6.out BK271.out (by decide)));have n1_ := Aside0.mk (IsS81.grown (by repeat (first|(with_reducible first|exact HI0.out|apply IsS81.alloc|apply IsS81.drewN|apply IsS81.drew|refine IsS81.far ?_ NB0_271.out _)|exact HI0.out)) hg (IsS81.own_ne HI0.out HO_6.out (by decide)));have n2_ := Aside0.mk (below_weaken (by repeat (first|(with_reducible first|exact HB.out|apply below_alloc|apply pw_below_drewN|apply below_drew1|refine below_set ?_ (IsS81.ge HI0.out)|refine below_set ?_ GE271.out)|exact HB.out)) HL.out hb);have n3_ := Aside0.mk (KeepBut.trans (by repeat (first|(with_reducible first|exact HK.out|apply KeepBut.set_|apply keep_drewN|apply keep_drew|apply keep_alloc|refine keep_far ?_ GW271.out _)|exact HK.out)) (KeepBut.of_grown hg g) (Kd.R_base2 HO_6.out));have n4_ := Aside0.mk (ho);clear BK271;clear HI0;clear HB;clear HK;clear HO_6;have BK271 := n0_;have HI0 := n1_;have HB := n2_;have HK := n3_;have HO298 := n4_;clear n0_ n1_ n2_ n3_ n4_;clear ho hb hg hat))
          go_ret
          exact ⟨_, by first|rfl|(simp [errW_none, errW_some] <;> rfl)|(simp [*, errW_none, errW_some] <;> rfl)|(exfalso;simp only [Bool.not_eq_true', Bool.not_eq_false', decide_eq_false_iff_not, decide_eq_true_eq, decide_eq_decide, Int.not_lt, Int.not_le] at *;omega), by (with_reducible repeat (first|apply Kd.R_alloc|apply Kd.R_drewN|apply Kd.R_drew));exact HO298.out, by repeat (first|(with_reducible first|exact HI0.out|apply IsS81.alloc|apply IsS81.drewN|apply IsS81.drew|refine IsS81.far ?_ NB0_271.out _)|exact HI0.out), by repeat (first|(with_reducible first|exact HB.out|apply below_alloc|apply pw_below_drewN|apply below_drew1|refine below_set ?_ (IsS81.ge HI0.out)|refine below_set ?_ GE271.out)|exact HB.out), by repeat (first|(with_reducible first|exact HK.out|apply KeepBut.set_|apply keep_drewN|apply keep_drew|apply keep_alloc|refine keep_far ?_ GW271.out _)|exact HK.out)⟩
         ·rw [if_neg c84] at H
          exact absurd H (by simp)
        ·rw [if_neg c83] at H
         have c83b0 : (((rd_T74 s0_0 a1).f0) == 12) = false := beq_eq_false_iff_ne.mpr c83
         have c83b1 : (((rd_T74 s0_0 a1).f0) != 12) = true := bne_iff_ne.mpr c83
         obtain rfl := Option.some.inj H
         have hnb88 := NB271_0.out
         have hnc88 := NB0_271.out
         obtain ⟨hcz89_0, hcz89_1, hcz89_2, hcz89_3, hcz89_4, hfz89_0, hfz89_1, hfz89_2, hfz89_3, hfz89_4⟩ := blk5_ BK271.out
         go_wp2
         go_ret
         exact ⟨_, by first|rfl|(simp [errW_none, errW_some] <;> rfl)|(simp [*, errW_none, errW_some] <;> rfl)|(exfalso;simp only [Bool.not_eq_true', Bool.not_eq_false', decide_eq_false_iff_not, decide_eq_true_eq, decide_eq_decide, Int.not_lt, Int.not_le] at *;omega), by (with_reducible repeat (first|apply Kd.R_alloc|apply Kd.R_drewN|apply Kd.R_drew));exact HO_6.out, by repeat (first|(with_reducible first|exact HI0.out|apply IsS81.alloc|apply IsS81.drewN|apply IsS81.drew|refine IsS81.far ?_ NB0_271.out _)|exact HI0.out), by repeat (first|(with_reducible first|exact HB.out|apply below_alloc|apply pw_below_drewN|apply below_drew1|refine below_set ?_ (IsS81.ge HI0.out)|refine below_set ?_ GE271.out)|exact HB.out), by repeat (first|(with_reducible first|exact HK.out|apply KeepBut.set_|apply keep_drewN|apply keep_drew|apply keep_alloc|refine keep_far ?_ GW271.out _)|exact HK.out)⟩
  ·rw [if_neg c4] at H
   exact absurd H (by simp)
 ·rw [if_neg c3] at H
  exact absurd H (by simp)

end Go.Proofs.Ytjbghmdbceekiaa.PFnExactTreePack
