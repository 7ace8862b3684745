-- Written by a program of this seat's prover (wip/myprint.sh) over the loaded functions.
import Derived.Test.YtjbghmdbceekiaaPFnExactTreeTextOfx0
import Derived.Test.YtjbghmdbceekiaaPFnExactTreeTextOfx4
namespace Go.Proofs.Ytjbghmdbceekiaa.PFnExactTreeTextOf
open Go.RowKit Go.Proofs.YtjbghmdbceekiaaW.PrintWords Go.Proofs.YtjbghmdbceekiaaW.PrintLast Go.Proofs.YtjbghmdbceekiaaW.PrintMore
attribute [local go_sem] max2_int min2_int max_two min_two max_three min_three max_four min_four   -- for this text's walks alone
set_option linter.unusedVariables false
set_option linter.unusedSimpArgs false

/-! ### impl_nodeOk: function 109 -/
def impl_nodeOk.f (k : Nat) (a0_0 : Int) (a0_1 : Int) (a0_2 : Int) (a0_3 : ByteArray) (a0_4 : Int) : Option (Bool) := if a0_0 = 5 then ((impl_isInt32.f a0_2).bind fun t156 => (if t156 = true then (if a0_3.toList = ([] : List UInt8) then (some (a0_4 == 0)) else (some false)) else (some false))) else (if a0_0 = 6 then (if a0_3.toList = ([] : List UInt8) then (some (a0_4 == 0)) else (some false)) else (if a0_0 = 8 then (if a0_2 = 0 then (if (a0_3.size : Int) ≤ 300 then (some (a0_4 == 0)) else (some false)) else (some false)) else (if a0_0 = 9 then (if a0_3.toList = ([] : List UInt8) then (if a0_4 ≥ 0 then (if a0_4 = 0 then (if a0_2 = 0 then (some true) else (if a0_4 > 0 then ((impl_isType.f k a0_2 true).bind fun t157 => (some t157)) else (some false))) else (if a0_4 > 0 then ((impl_isType.f k a0_2 true).bind fun t158 => (some t158)) else (some false))) else (some false)) else (some false)) else (if a0_0 = 12 then (if a0_2 = 0 then (if a0_3.toList = ([] : List UInt8) then (some (decide (a0_4 ≥ 0))) else (some false)) else (some false)) else ((impl_isType.f k a0_0 false).bind fun t159 => (if t159 = true then (if a0_2 = 0 then (if a0_3.toList = ([] : List UInt8) then (some (a0_4 == 0)) else (some false)) else (some false)) else (some false)))))))
theorem impl_nodeOk.mono : ∀ a0 a1 a2 a3 a4 k, LeO (impl_nodeOk.f k a0 a1 a2 a3 a4) (impl_nodeOk.f (k + 1) a0 a1 a2 a3 a4) := by
  intro a0 a1 a2 a3 a4 k
  unfold impl_nodeOk.f
  repeat' first
      | (with_reducible exact impl_isType.mono _ _ _)
      | (with_reducible exact LeO.refl _)
      | (with_reducible exact LeO.none _)
      | (with_reducible refine LeO.ite ?_ ?_)
      | (with_reducible refine LeO.bind ?_ (fun _ => ?_))
      | exact impl_isType.mono _ _ _
      | exact LeO.none _
      | refine LeO.ite ?_ ?_
      | refine LeO.bind ?_ (fun _ => ?_)
set_option maxHeartbeats 8000000 in
set_option maxRecDepth 100000 in
theorem impl_nodeOk.calls (k : Nat) (a0_0 : Int) (a0_1 : Int) (a0_2 : Int) (a0_3 : ByteArray) (a0_4 : Int) (r : Bool) (w : World) (h : impl_nodeOk.f k a0_0 a0_1 a0_2 a0_3 a0_4 = some r) :
    Calls Try.prog 109 #[.agg #[.int .i64 a0_0, .int .i64 a0_1, .int .i64 a0_2, .string a0_3, .int .i64 a0_4]] w fun e w' => e = .returned (.bool r) ∧ Below w.heap.size w w' := by
  have hu74 := Try.underlying74
  have HB := Aside0.mk (Below.refl w.heap.size w)
  have H : (if a0_0 = 5 then ((impl_isInt32.f a0_2).bind fun t156 => (if t156 = true then (if a0_3.toList = ([] : List UInt8) then (some (a0_4 == 0)) else (some false)) else (some false))) else (if a0_0 = 6 then (if a0_3.toList = ([] : List UInt8) then (some (a0_4 == 0)) else (some false)) else (if a0_0 = 8 then (if a0_2 = 0 then (if (a0_3.size : Int) ≤ 300 then (some (a0_4 == 0)) else (some false)) else (some false)) else (if a0_0 = 9 then (if a0_3.toList = ([] : List UInt8) then (if a0_4 ≥ 0 then (if a0_4 = 0 then (if a0_2 = 0 then (some true) else (if a0_4 > 0 then ((impl_isType.f k a0_2 true).bind fun t157 => (some t157)) else (some false))) else (if a0_4 > 0 then ((impl_isType.f k a0_2 true).bind fun t158 => (some t158)) else (some false))) else (some false)) else (some false)) else (if a0_0 = 12 then (if a0_2 = 0 then (if a0_3.toList = ([] : List UInt8) then (some (decide (a0_4 ≥ 0))) else (some false)) else (some false)) else ((impl_isType.f k a0_0 false).bind fun t159 => (if t159 = true then (if a0_2 = 0 then (if a0_3.toList = ([] : List UInt8) then (some (a0_4 == 0)) else (some false)) else (some false)) else (some false)))))))) = some r := h
  clear h
  by_cases c2 : a0_0 = 5
  · rw [if_pos c2] at H
    have c2b0 : (a0_0 == 5) = true := beq_iff_eq.mpr c2
    have c2b1 : (a0_0 != 5) = false := bne_eq_false_iff_eq.mpr c2
    clear c2
    replace H := Option.bind_eq_some_iff.mp H
    obtain ⟨t156, A30, H⟩ := H
    replace H : (if t156 = true then (if a0_3.toList = ([] : List UInt8) then (some (a0_4 == 0)) else (some false)) else (some false)) = some r := H
    have A3 := Aside0.mk A30
    clear A30
    by_cases c4 : t156 = true
    · subst c4
      have H1 : (if a0_3.toList = ([] : List UInt8) then (some (a0_4 == 0)) else (some false)) = some r := by rw [if_pos rfl] at H; exact H
      clear H
      have H := H1
      clear H1
      by_cases c5 : a0_3.toList = ([] : List UInt8)
      · rw [if_pos c5] at H
        have c5b0 : (a0_3.toList == ([] : List UInt8)) = true := beq_iff_eq.mpr c5
        have c5b1 : (a0_3.toList != ([] : List UInt8)) = false := bne_eq_false_iff_eq.mpr c5
        have c5b2 : a0_3.toList.isEmpty = true := by rw [c5]; rfl
        have c5b3 : (a0_3.toList = []) = True := eq_true c5
        clear c5
        obtain rfl := Option.some.inj H
        go_enter Try.func109, Try.ntmps109
        go_wp2_with (first | ((with_reducible refine gate_dst (N := 1) rfl ?_); (try (refine gate_guard (by rfl) ?_; dsimp only)); refine box_event ?hg (N := 1) ?hd (cs := #[.int .i64 a0_0, .int .i64 a0_1, .int .i64 a0_2, .string a0_3, .int .i64 a0_4]) (t := 74) ?hr ?_; (case hd => rfl); (case hg => rfl); (case hr => first | (go_simp; done) | (go_simp; rfl)); intro gb155 hg w6 hbox hb; have n0_ := Aside0.mk (below_step (by repeat (first | (with_reducible first | exact HB.out | apply below_alloc | apply pw_below_drewN | apply below_drew1) | exact HB.out)) hb); have n1_ := Aside0.mk (hbox); have n2_ := Aside0.mk ((by rw [hg]; exact (below_size (by repeat (first | (with_reducible first | exact HB.out | apply below_alloc | apply pw_below_drewN | apply below_drew1) | exact HB.out))) : w.heap.size ≤ gb155)); have n3_ := Aside0.mk ((by rw [hg]; exact (below_size (by repeat (first | (with_reducible first | exact HB.out | apply below_alloc | apply pw_below_drewN | apply below_drew1) | exact HB.out))) : w.heap.size ≤ gb155)); clear HB; have HB := n0_; have BK155 := n1_; have GW155 := n2_; have GE155 := n3_; clear n0_ n1_ n2_ n3_; clear hb hbox hg; have hcz7_0 : w6.cell? ⟨gb155, 0, none⟩ = some (.int .i64 a0_0) := (blk_cell BK155.out 0).trans rfl; have hcz7_1 : w6.cell? ⟨gb155, 1, none⟩ = some (.int .i64 a0_1) := (blk_cell BK155.out 1).trans rfl; have hcz7_2 : w6.cell? ⟨gb155, 2, none⟩ = some (.int .i64 a0_2) := (blk_cell BK155.out 2).trans rfl; have hcz7_3 : w6.cell? ⟨gb155, 3, none⟩ = some (.string a0_3) := (blk_cell BK155.out 3).trans rfl; have hcz7_4 : w6.cell? ⟨gb155, 4, none⟩ = some (.int .i64 a0_4) := (blk_cell BK155.out 4).trans rfl; have hfz7_0 := blk_frozen BK155.out 0; have hfz7_1 := blk_frozen BK155.out 1; have hfz7_2 := blk_frozen BK155.out 2; have hfz7_3 := blk_frozen BK155.out 3; have hfz7_4 := blk_frozen BK155.out 4) | ((with_reducible refine gate_callee (f := 116) rfl ?_); refine goesL_ (some 9) rfl rfl Try.func116 (by kernel_rfl) rfl #[.int .i64 a0_2] rfl (by (try simp only [List.map_toArray, List.map_cons, List.map_nil]); first | done | rfl | (simp only [List.length_drop, List.length_take]; rfl)) ?_; (with_reducible refine (impl_isInt32.calls a0_2 true _ A3.out).mono ?_); rintro e w' ⟨rfl, ⟨nd, rfl⟩⟩; refine ⟨_, rfl, ?_⟩))
        go_ret
        exact ⟨by first | rfl | (simp [errW_none, errW_some] <;> rfl) | (simp [*, errW_none, errW_some] <;> rfl) | (exfalso; simp only [Bool.not_eq_true', Bool.not_eq_false', decide_eq_false_iff_not, decide_eq_true_eq, decide_eq_decide, Int.not_lt, Int.not_le] at *; omega), by repeat (first | (with_reducible first | exact HB.out | apply below_alloc | apply pw_below_drewN | apply below_drew1 | refine below_set ?_ GE155.out) | exact HB.out)⟩
      · rw [if_neg c5] at H
        have c5b0 : (a0_3.toList == ([] : List UInt8)) = false := beq_eq_false_iff_ne.mpr c5
        have c5b1 : (a0_3.toList != ([] : List UInt8)) = true := bne_iff_ne.mpr c5
        have c5b2 : a0_3.toList.isEmpty = false := by cases h_ : a0_3.toList <;> first | exact absurd h_ c5 | rfl
        have c5b3 : (a0_3.toList = []) = False := eq_false c5
        obtain rfl := Option.some.inj H
        go_enter Try.func109, Try.ntmps109
        go_wp2_with (first | ((with_reducible refine gate_dst (N := 1) rfl ?_); (try (refine gate_guard (by rfl) ?_; dsimp only)); refine box_event ?hg (N := 1) ?hd (cs := #[.int .i64 a0_0, .int .i64 a0_1, .int .i64 a0_2, .string a0_3, .int .i64 a0_4]) (t := 74) ?hr ?_; (case hd => rfl); (case hg => rfl); (case hr => first | (go_simp; done) | (go_simp; rfl)); intro gb155 hg w8 hbox hb; have n0_ := Aside0.mk (below_step (by repeat (first | (with_reducible first | exact HB.out | apply below_alloc | apply pw_below_drewN | apply below_drew1) | exact HB.out)) hb); have n1_ := Aside0.mk (hbox); have n2_ := Aside0.mk ((by rw [hg]; exact (below_size (by repeat (first | (with_reducible first | exact HB.out | apply below_alloc | apply pw_below_drewN | apply below_drew1) | exact HB.out))) : w.heap.size ≤ gb155)); have n3_ := Aside0.mk ((by rw [hg]; exact (below_size (by repeat (first | (with_reducible first | exact HB.out | apply below_alloc | apply pw_below_drewN | apply below_drew1) | exact HB.out))) : w.heap.size ≤ gb155)); clear HB; have HB := n0_; have BK155 := n1_; have GW155 := n2_; have GE155 := n3_; clear n0_ n1_ n2_ n3_; clear hb hbox hg; have hcz9_0 : w8.cell? ⟨gb155, 0, none⟩ = some (.int .i64 a0_0) := (blk_cell BK155.out 0).trans rfl; have hcz9_1 : w8.cell? ⟨gb155, 1, none⟩ = some (.int .i64 a0_1) := (blk_cell BK155.out 1).trans rfl; have hcz9_2 : w8.cell? ⟨gb155, 2, none⟩ = some (.int .i64 a0_2) := (blk_cell BK155.out 2).trans rfl; have hcz9_3 : w8.cell? ⟨gb155, 3, none⟩ = some (.string a0_3) := (blk_cell BK155.out 3).trans rfl; have hcz9_4 : w8.cell? ⟨gb155, 4, none⟩ = some (.int .i64 a0_4) := (blk_cell BK155.out 4).trans rfl; have hfz9_0 := blk_frozen BK155.out 0; have hfz9_1 := blk_frozen BK155.out 1; have hfz9_2 := blk_frozen BK155.out 2; have hfz9_3 := blk_frozen BK155.out 3; have hfz9_4 := blk_frozen BK155.out 4) | ((with_reducible refine gate_callee (f := 116) rfl ?_); refine goesL_ (some 9) rfl rfl Try.func116 (by kernel_rfl) rfl #[.int .i64 a0_2] rfl (by (try simp only [List.map_toArray, List.map_cons, List.map_nil]); first | done | rfl | (simp only [List.length_drop, List.length_take]; rfl)) ?_; (with_reducible refine (impl_isInt32.calls a0_2 true _ A3.out).mono ?_); rintro e w' ⟨rfl, ⟨nd, rfl⟩⟩; refine ⟨_, rfl, ?_⟩))
        go_ret
        exact ⟨by first | rfl | (simp [errW_none, errW_some] <;> rfl) | (simp [*, errW_none, errW_some] <;> rfl) | (exfalso; simp only [Bool.not_eq_true', Bool.not_eq_false', decide_eq_false_iff_not, decide_eq_true_eq, decide_eq_decide, Int.not_lt, Int.not_le] at *; omega), by repeat (first | (with_reducible first | exact HB.out | apply below_alloc | apply pw_below_drewN | apply below_drew1 | refine below_set ?_ GE155.out) | exact HB.out)⟩
    · replace c4 := Bool.eq_false_iff.mpr c4
      subst c4
      have H1 : (some false) = some r := by rw [if_neg (show ¬ (false = true) by decide)] at H; exact H
      clear H
      have H := H1
      clear H1
      obtain rfl := Option.some.inj H
      go_enter Try.func109, Try.ntmps109
      go_wp2_with (first | ((with_reducible refine gate_dst (N := 1) rfl ?_); (try (refine gate_guard (by rfl) ?_; dsimp only)); refine box_event ?hg (N := 1) ?hd (cs := #[.int .i64 a0_0, .int .i64 a0_1, .int .i64 a0_2, .string a0_3, .int .i64 a0_4]) (t := 74) ?hr ?_; (case hd => rfl); (case hg => rfl); (case hr => first | (go_simp; done) | (go_simp; rfl)); intro gb155 hg w10 hbox hb; have n0_ := Aside0.mk (below_step (by repeat (first | (with_reducible first | exact HB.out | apply below_alloc | apply pw_below_drewN | apply below_drew1) | exact HB.out)) hb); have n1_ := Aside0.mk (hbox); have n2_ := Aside0.mk ((by rw [hg]; exact (below_size (by repeat (first | (with_reducible first | exact HB.out | apply below_alloc | apply pw_below_drewN | apply below_drew1) | exact HB.out))) : w.heap.size ≤ gb155)); have n3_ := Aside0.mk ((by rw [hg]; exact (below_size (by repeat (first | (with_reducible first | exact HB.out | apply below_alloc | apply pw_below_drewN | apply below_drew1) | exact HB.out))) : w.heap.size ≤ gb155)); clear HB; have HB := n0_; have BK155 := n1_; have GW155 := n2_; have GE155 := n3_; clear n0_ n1_ n2_ n3_; clear hb hbox hg; have hcz11_0 : w10.cell? ⟨gb155, 0, none⟩ = some (.int .i64 a0_0) := (blk_cell BK155.out 0).trans rfl; have hcz11_1 : w10.cell? ⟨gb155, 1, none⟩ = some (.int .i64 a0_1) := (blk_cell BK155.out 1).trans rfl; have hcz11_2 : w10.cell? ⟨gb155, 2, none⟩ = some (.int .i64 a0_2) := (blk_cell BK155.out 2).trans rfl; have hcz11_3 : w10.cell? ⟨gb155, 3, none⟩ = some (.string a0_3) := (blk_cell BK155.out 3).trans rfl; have hcz11_4 : w10.cell? ⟨gb155, 4, none⟩ = some (.int .i64 a0_4) := (blk_cell BK155.out 4).trans rfl; have hfz11_0 := blk_frozen BK155.out 0; have hfz11_1 := blk_frozen BK155.out 1; have hfz11_2 := blk_frozen BK155.out 2; have hfz11_3 := blk_frozen BK155.out 3; have hfz11_4 := blk_frozen BK155.out 4) | ((with_reducible refine gate_callee (f := 116) rfl ?_); refine goesL_ (some 9) rfl rfl Try.func116 (by kernel_rfl) rfl #[.int .i64 a0_2] rfl (by (try simp only [List.map_toArray, List.map_cons, List.map_nil]); first | done | rfl | (simp only [List.length_drop, List.length_take]; rfl)) ?_; (with_reducible refine (impl_isInt32.calls a0_2 false _ A3.out).mono ?_); rintro e w' ⟨rfl, ⟨nd, rfl⟩⟩; refine ⟨_, rfl, ?_⟩))
      go_ret
      exact ⟨by first | rfl | (simp [errW_none, errW_some] <;> rfl) | (simp [*, errW_none, errW_some] <;> rfl) | (exfalso; simp only [Bool.not_eq_true', Bool.not_eq_false', decide_eq_false_iff_not, decide_eq_true_eq, decide_eq_decide, Int.not_lt, Int.not_le] at *; omega), by repeat (first | (with_reducible first | exact HB.out | apply below_alloc | apply pw_below_drewN | apply below_drew1 | refine below_set ?_ GE155.out) | exact HB.out)⟩
  · rw [if_neg c2] at H
    have c2b0 : (a0_0 == 5) = false := beq_eq_false_iff_ne.mpr c2
    have c2b1 : (a0_0 != 5) = true := bne_iff_ne.mpr c2
    by_cases c12 : a0_0 = 6
    · rw [if_pos c12] at H
      have c12b0 : (a0_0 == 6) = true := beq_iff_eq.mpr c12
      have c12b1 : (a0_0 != 6) = false := bne_eq_false_iff_eq.mpr c12
      clear c12
      by_cases c13 : a0_3.toList = ([] : List UInt8)
      · rw [if_pos c13] at H
        have c13b0 : (a0_3.toList == ([] : List UInt8)) = true := beq_iff_eq.mpr c13
        have c13b1 : (a0_3.toList != ([] : List UInt8)) = false := bne_eq_false_iff_eq.mpr c13
        have c13b2 : a0_3.toList.isEmpty = true := by rw [c13]; rfl
        have c13b3 : (a0_3.toList = []) = True := eq_true c13
        clear c13
        obtain rfl := Option.some.inj H
        go_enter Try.func109, Try.ntmps109
        go_wp2_with (first | ((with_reducible refine gate_dst (N := 1) rfl ?_); (try (refine gate_guard (by rfl) ?_; dsimp only)); refine box_event ?hg (N := 1) ?hd (cs := #[.int .i64 a0_0, .int .i64 a0_1, .int .i64 a0_2, .string a0_3, .int .i64 a0_4]) (t := 74) ?hr ?_; (case hd => rfl); (case hg => rfl); (case hr => first | (go_simp; done) | (go_simp; rfl)); intro gb155 hg w14 hbox hb; have n0_ := Aside0.mk (below_step (by repeat (first | (with_reducible first | exact HB.out | apply below_alloc | apply pw_below_drewN | apply below_drew1) | exact HB.out)) hb); have n1_ := Aside0.mk (hbox); have n2_ := Aside0.mk ((by rw [hg]; exact (below_size (by repeat (first | (with_reducible first | exact HB.out | apply below_alloc | apply pw_below_drewN | apply below_drew1) | exact HB.out))) : w.heap.size ≤ gb155)); have n3_ := Aside0.mk ((by rw [hg]; exact (below_size (by repeat (first | (with_reducible first | exact HB.out | apply below_alloc | apply pw_below_drewN | apply below_drew1) | exact HB.out))) : w.heap.size ≤ gb155)); clear HB; have HB := n0_; have BK155 := n1_; have GW155 := n2_; have GE155 := n3_; clear n0_ n1_ n2_ n3_; clear hb hbox hg; have hcz15_0 : w14.cell? ⟨gb155, 0, none⟩ = some (.int .i64 a0_0) := (blk_cell BK155.out 0).trans rfl; have hcz15_1 : w14.cell? ⟨gb155, 1, none⟩ = some (.int .i64 a0_1) := (blk_cell BK155.out 1).trans rfl; have hcz15_2 : w14.cell? ⟨gb155, 2, none⟩ = some (.int .i64 a0_2) := (blk_cell BK155.out 2).trans rfl; have hcz15_3 : w14.cell? ⟨gb155, 3, none⟩ = some (.string a0_3) := (blk_cell BK155.out 3).trans rfl; have hcz15_4 : w14.cell? ⟨gb155, 4, none⟩ = some (.int .i64 a0_4) := (blk_cell BK155.out 4).trans rfl; have hfz15_0 := blk_frozen BK155.out 0; have hfz15_1 := blk_frozen BK155.out 1; have hfz15_2 := blk_frozen BK155.out 2; have hfz15_3 := blk_frozen BK155.out 3; have hfz15_4 := blk_frozen BK155.out 4))
        go_ret
        exact ⟨by first | rfl | (simp [errW_none, errW_some] <;> rfl) | (simp [*, errW_none, errW_some] <;> rfl) | (exfalso; simp only [Bool.not_eq_true', Bool.not_eq_false', decide_eq_false_iff_not, decide_eq_true_eq, decide_eq_decide, Int.not_lt, Int.not_le] at *; omega), by repeat (first | (with_reducible first | exact HB.out | apply below_alloc | apply pw_below_drewN | apply below_drew1 | refine below_set ?_ GE155.out) | exact HB.out)⟩
      · rw [if_neg c13] at H
        have c13b0 : (a0_3.toList == ([] : List UInt8)) = false := beq_eq_false_iff_ne.mpr c13
        have c13b1 : (a0_3.toList != ([] : List UInt8)) = true := bne_iff_ne.mpr c13
        have c13b2 : a0_3.toList.isEmpty = false := by cases h_ : a0_3.toList <;> first | exact absurd h_ c13 | rfl
        have c13b3 : (a0_3.toList = []) = False := eq_false c13
        obtain rfl := Option.some.inj H
        go_enter Try.func109, Try.ntmps109
        go_wp2_with (first | ((with_reducible refine gate_dst (N := 1) rfl ?_); (try (refine gate_guard (by rfl) ?_; dsimp only)); refine box_event ?hg (N := 1) ?hd (cs := #[.int .i64 a0_0, .int .i64 a0_1, .int .i64 a0_2, .string a0_3, .int .i64 a0_4]) (t := 74) ?hr ?_; (case hd => rfl); (case hg => rfl); (case hr => first | (go_simp; done) | (go_simp; rfl)); intro gb155 hg w16 hbox hb; have n0_ := Aside0.mk (below_step (by repeat (first | (with_reducible first | exact HB.out | apply below_alloc | apply pw_below_drewN | apply below_drew1) | exact HB.out)) hb); have n1_ := Aside0.mk (hbox); have n2_ := Aside0.mk ((by rw [hg]; exact (below_size (by repeat (first | (with_reducible first | exact HB.out | apply below_alloc | apply pw_below_drewN | apply below_drew1) | exact HB.out))) : w.heap.size ≤ gb155)); have n3_ := Aside0.mk ((by rw [hg]; exact (below_size (by repeat (first | (with_reducible first | exact HB.out | apply below_alloc | apply pw_below_drewN | apply below_drew1) | exact HB.out))) : w.heap.size ≤ gb155)); clear HB; have HB := n0_; have BK155 := n1_; have GW155 := n2_; have GE155 := n3_; clear n0_ n1_ n2_ n3_; clear hb hbox hg; have hcz17_0 : w16.cell? ⟨gb155, 0, none⟩ = some (.int .i64 a0_0) := (blk_cell BK155.out 0).trans rfl; have hcz17_1 : w16.cell? ⟨gb155, 1, none⟩ = some (.int .i64 a0_1) := (blk_cell BK155.out 1).trans rfl; have hcz17_2 : w16.cell? ⟨gb155, 2, none⟩ = some (.int .i64 a0_2) := (blk_cell BK155.out 2).trans rfl; have hcz17_3 : w16.cell? ⟨gb155, 3, none⟩ = some (.string a0_3) := (blk_cell BK155.out 3).trans rfl; have hcz17_4 : w16.cell? ⟨gb155, 4, none⟩ = some (.int .i64 a0_4) := (blk_cell BK155.out 4).trans rfl; have hfz17_0 := blk_frozen BK155.out 0; have hfz17_1 := blk_frozen BK155.out 1; have hfz17_2 := blk_frozen BK155.out 2; have hfz17_3 := blk_frozen BK155.out 3; have hfz17_4 := blk_frozen BK155.out 4))
        go_ret
        exact ⟨by first | rfl | (simp [errW_none, errW_some] <;> rfl) | (simp [*, errW_none, errW_some] <;> rfl) | (exfalso; simp only [Bool.not_eq_true', Bool.not_eq_false', decide_eq_false_iff_not, decide_eq_true_eq, decide_eq_decide, Int.not_lt, Int.not_le] at *; omega), by repeat (first | (with_reducible first | exact HB.out | apply below_alloc | apply pw_below_drewN | apply below_drew1 | refine below_set ?_ GE155.out) | exact HB.out)⟩
    · rw [if_neg c12] at H
      have c12b0 : (a0_0 == 6) = false := beq_eq_false_iff_ne.mpr c12
      have c12b1 : (a0_0 != 6) = true := bne_iff_ne.mpr c12
      by_cases c18 : a0_0 = 8
      · rw [if_pos c18] at H
        have c18b0 : (a0_0 == 8) = true := beq_iff_eq.mpr c18
        have c18b1 : (a0_0 != 8) = false := bne_eq_false_iff_eq.mpr c18
        clear c18
        by_cases c19 : a0_2 = 0
        · rw [if_pos c19] at H
          have c19b0 : (a0_2 == 0) = true := beq_iff_eq.mpr c19
          have c19b1 : (a0_2 != 0) = false := bne_eq_false_iff_eq.mpr c19
          clear c19
          by_cases c20 : (a0_3.size : Int) ≤ 300
          · rw [if_pos c20] at H
            have c20b0 : decide ((a0_3.size : Int) ≤ 300) = true := decide_eq_true c20
            have c20b1 : decide (a0_3.size ≤ 300) = true := decide_eq_true (by omega)
            clear c20
            obtain rfl := Option.some.inj H
            go_enter Try.func109, Try.ntmps109
            go_wp2_with (first | ((with_reducible refine gate_dst (N := 1) rfl ?_); (try (refine gate_guard (by rfl) ?_; dsimp only)); refine box_event ?hg (N := 1) ?hd (cs := #[.int .i64 a0_0, .int .i64 a0_1, .int .i64 a0_2, .string a0_3, .int .i64 a0_4]) (t := 74) ?hr ?_; (case hd => rfl); (case hg => rfl); (case hr => first | (go_simp; done) | (go_simp; rfl)); intro gb155 hg w21 hbox hb; have n0_ := Aside0.mk (below_step (by repeat (first | (with_reducible first | exact HB.out | apply below_alloc | apply pw_below_drewN | apply below_drew1) | exact HB.out)) hb); have n1_ := Aside0.mk (hbox); have n2_ := Aside0.mk ((by rw [hg]; exact (below_size (by repeat (first | (with_reducible first | exact HB.out | apply below_alloc | apply pw_below_drewN | apply below_drew1) | exact HB.out))) : w.heap.size ≤ gb155)); have n3_ := Aside0.mk ((by rw [hg]; exact (below_size (by repeat (first | (with_reducible first | exact HB.out | apply below_alloc | apply pw_below_drewN | apply below_drew1) | exact HB.out))) : w.heap.size ≤ gb155)); clear HB; have HB := n0_; have BK155 := n1_; have GW155 := n2_; have GE155 := n3_; clear n0_ n1_ n2_ n3_; clear hb hbox hg; have hcz22_0 : w21.cell? ⟨gb155, 0, none⟩ = some (.int .i64 a0_0) := (blk_cell BK155.out 0).trans rfl; have hcz22_1 : w21.cell? ⟨gb155, 1, none⟩ = some (.int .i64 a0_1) := (blk_cell BK155.out 1).trans rfl; have hcz22_2 : w21.cell? ⟨gb155, 2, none⟩ = some (.int .i64 a0_2) := (blk_cell BK155.out 2).trans rfl; have hcz22_3 : w21.cell? ⟨gb155, 3, none⟩ = some (.string a0_3) := (blk_cell BK155.out 3).trans rfl; have hcz22_4 : w21.cell? ⟨gb155, 4, none⟩ = some (.int .i64 a0_4) := (blk_cell BK155.out 4).trans rfl; have hfz22_0 := blk_frozen BK155.out 0; have hfz22_1 := blk_frozen BK155.out 1; have hfz22_2 := blk_frozen BK155.out 2; have hfz22_3 := blk_frozen BK155.out 3; have hfz22_4 := blk_frozen BK155.out 4))
            go_ret
            exact ⟨by first | rfl | (simp [errW_none, errW_some] <;> rfl) | (simp [*, errW_none, errW_some] <;> rfl) | (exfalso; simp only [Bool.not_eq_true', Bool.not_eq_false', decide_eq_false_iff_not, decide_eq_true_eq, decide_eq_decide, Int.not_lt, Int.not_le] at *; omega), by repeat (first | (with_reducible first | exact HB.out | apply below_alloc | apply pw_below_drewN | apply below_drew1 | refine below_set ?_ GE155.out) | exact HB.out)⟩
          · rw [if_neg c20] at H
            have c20b0 : decide ((a0_3.size : Int) ≤ 300) = false := decide_eq_false c20
            have c20b1 : decide (a0_3.size ≤ 300) = false := decide_eq_false (by omega)
            clear c20
            obtain rfl := Option.some.inj H
            go_enter Try.func109, Try.ntmps109
            go_wp2_with (first | ((with_reducible refine gate_dst (N := 1) rfl ?_); (try (refine gate_guard (by rfl) ?_; dsimp only)); refine box_event ?hg (N := 1) ?hd (cs := #[.int .i64 a0_0, .int .i64 a0_1, .int .i64 a0_2, .string a0_3, .int .i64 a0_4]) (t := 74) ?hr ?_; (case hd => rfl); (case hg => rfl); (case hr => first | (go_simp; done) | (go_simp; rfl)); intro gb155 hg w23 hbox hb; have n0_ := Aside0.mk (below_step (by repeat (first | (with_reducible first | exact HB.out | apply below_alloc | apply pw_below_drewN | apply below_drew1) | exact HB.out)) hb); have n1_ := Aside0.mk (hbox); have n2_ := Aside0.mk ((by rw [hg]; exact (below_size (by repeat (first | (with_reducible first | exact HB.out | apply below_alloc | apply pw_below_drewN | apply below_drew1) | exact HB.out))) : w.heap.size ≤ gb155)); have n3_ := Aside0.mk ((by rw [hg]; exact (below_size (by repeat (first | (with_reducible first | exact HB.out | apply below_alloc | apply pw_below_drewN | apply below_drew1) | exact HB.out))) : w.heap.size ≤ gb155)); clear HB; have HB := n0_; have BK155 := n1_; have GW155 := n2_; have GE155 := n3_; clear n0_ n1_ n2_ n3_; clear hb hbox hg; have hcz24_0 : w23.cell? ⟨gb155, 0, none⟩ = some (.int .i64 a0_0) := (blk_cell BK155.out 0).trans rfl; have hcz24_1 : w23.cell? ⟨gb155, 1, none⟩ = some (.int .i64 a0_1) := (blk_cell BK155.out 1).trans rfl; have hcz24_2 : w23.cell? ⟨gb155, 2, none⟩ = some (.int .i64 a0_2) := (blk_cell BK155.out 2).trans rfl; have hcz24_3 : w23.cell? ⟨gb155, 3, none⟩ = some (.string a0_3) := (blk_cell BK155.out 3).trans rfl; have hcz24_4 : w23.cell? ⟨gb155, 4, none⟩ = some (.int .i64 a0_4) := (blk_cell BK155.out 4).trans rfl; have hfz24_0 := blk_frozen BK155.out 0; have hfz24_1 := blk_frozen BK155.out 1; have hfz24_2 := blk_frozen BK155.out 2; have hfz24_3 := blk_frozen BK155.out 3; have hfz24_4 := blk_frozen BK155.out 4))
            go_ret
            exact ⟨by first | rfl | (simp [errW_none, errW_some] <;> rfl) | (simp [*, errW_none, errW_some] <;> rfl) | (exfalso; simp only [Bool.not_eq_true', Bool.not_eq_false', decide_eq_false_iff_not, decide_eq_true_eq, decide_eq_decide, Int.not_lt, Int.not_le] at *; omega), by repeat (first | (with_reducible first | exact HB.out | apply below_alloc | apply pw_below_drewN | apply below_drew1 | refine below_set ?_ GE155.out) | exact HB.out)⟩
        · rw [if_neg c19] at H
          have c19b0 : (a0_2 == 0) = false := beq_eq_false_iff_ne.mpr c19
          have c19b1 : (a0_2 != 0) = true := bne_iff_ne.mpr c19
          obtain rfl := Option.some.inj H
          go_enter Try.func109, Try.ntmps109
          go_wp2_with (first | ((with_reducible refine gate_dst (N := 1) rfl ?_); (try (refine gate_guard (by rfl) ?_; dsimp only)); refine box_event ?hg (N := 1) ?hd (cs := #[.int .i64 a0_0, .int .i64 a0_1, .int .i64 a0_2, .string a0_3, .int .i64 a0_4]) (t := 74) ?hr ?_; (case hd => rfl); (case hg => rfl); (case hr => first | (go_simp; done) | (go_simp; rfl)); intro gb155 hg w25 hbox hb; have n0_ := Aside0.mk (below_step (by repeat (first | (with_reducible first | exact HB.out | apply below_alloc | apply pw_below_drewN | apply below_drew1) | exact HB.out)) hb); have n1_ := Aside0.mk (hbox); have n2_ := Aside0.mk ((by rw [hg]; exact (below_size (by repeat (first | (with_reducible first | exact HB.out | apply below_alloc | apply pw_below_drewN | apply below_drew1) | exact HB.out))) : w.heap.size ≤ gb155)); have n3_ := Aside0.mk ((by rw [hg]; exact (below_size (by repeat (first | (with_reducible first | exact HB.out | apply below_alloc | apply pw_below_drewN | apply below_drew1) | exact HB.out))) : w.heap.size ≤ gb155)); clear HB; have HB := n0_; have BK155 := n1_; have GW155 := n2_; have GE155 := n3_; clear n0_ n1_ n2_ n3_; clear hb hbox hg; have hcz26_0 : w25.cell? ⟨gb155, 0, none⟩ = some (.int .i64 a0_0) := (blk_cell BK155.out 0).trans rfl; have hcz26_1 : w25.cell? ⟨gb155, 1, none⟩ = some (.int .i64 a0_1) := (blk_cell BK155.out 1).trans rfl; have hcz26_2 : w25.cell? ⟨gb155, 2, none⟩ = some (.int .i64 a0_2) := (blk_cell BK155.out 2).trans rfl; have hcz26_3 : w25.cell? ⟨gb155, 3, none⟩ = some (.string a0_3) := (blk_cell BK155.out 3).trans rfl; have hcz26_4 : w25.cell? ⟨gb155, 4, none⟩ = some (.int .i64 a0_4) := (blk_cell BK155.out 4).trans rfl; have hfz26_0 := blk_frozen BK155.out 0; have hfz26_1 := blk_frozen BK155.out 1; have hfz26_2 := blk_frozen BK155.out 2; have hfz26_3 := blk_frozen BK155.out 3; have hfz26_4 := blk_frozen BK155.out 4))
          go_ret
          exact ⟨by first | rfl | (simp [errW_none, errW_some] <;> rfl) | (simp [*, errW_none, errW_some] <;> rfl) | (exfalso; simp only [Bool.not_eq_true', Bool.not_eq_false', decide_eq_false_iff_not, decide_eq_true_eq, decide_eq_decide, Int.not_lt, Int.not_le] at *; omega), by repeat (first | (with_reducible first | exact HB.out | apply below_alloc | apply pw_below_drewN | apply below_drew1 | refine below_set ?_ GE155.out) | exact HB.out)⟩
      · rw [if_neg c18] at H
        have c18b0 : (a0_0 == 8) = false := beq_eq_false_iff_ne.mpr c18
        have c18b1 : (a0_0 != 8) = true := bne_iff_ne.mpr c18
        by_cases c27 : a0_0 = 9
        · rw [if_pos c27] at H
          have c27b0 : (a0_0 == 9) = true := beq_iff_eq.mpr c27
          have c27b1 : (a0_0 != 9) = false := bne_eq_false_iff_eq.mpr c27
          clear c27
          by_cases c28 : a0_3.toList = ([] : List UInt8)
          · rw [if_pos c28] at H
            have c28b0 : (a0_3.toList == ([] : List UInt8)) = true := beq_iff_eq.mpr c28
            have c28b1 : (a0_3.toList != ([] : List UInt8)) = false := bne_eq_false_iff_eq.mpr c28
            have c28b2 : a0_3.toList.isEmpty = true := by rw [c28]; rfl
            have c28b3 : (a0_3.toList = []) = True := eq_true c28
            clear c28
            by_cases c29 : a0_4 ≥ 0
            · rw [if_pos c29] at H
              have c29b0 : decide (0 ≤ a0_4) = true := decide_eq_true c29
              clear c29
              by_cases c30 : a0_4 = 0
              · rw [if_pos c30] at H
                have c30b0 : (a0_4 == 0) = true := beq_iff_eq.mpr c30
                have c30b1 : (a0_4 != 0) = false := bne_eq_false_iff_eq.mpr c30
                clear c30
                by_cases c31 : a0_2 = 0
                · rw [if_pos c31] at H
                  have c31b0 : (a0_2 == 0) = true := beq_iff_eq.mpr c31
                  have c31b1 : (a0_2 != 0) = false := bne_eq_false_iff_eq.mpr c31
                  clear c31
                  obtain rfl := Option.some.inj H
                  go_enter Try.func109, Try.ntmps109
                  go_wp2_with (first | ((with_reducible refine gate_dst (N := 1) rfl ?_); (try (refine gate_guard (by rfl) ?_; dsimp only)); refine box_event ?hg (N := 1) ?hd (cs := #[.int .i64 a0_0, .int .i64 a0_1, .int .i64 a0_2, .string a0_3, .int .i64 a0_4]) (t := 74) ?hr ?_; (case hd => rfl); (case hg => rfl); (case hr => first | (go_simp; done) | (go_simp; rfl)); intro gb155 hg w32 hbox hb; have n0_ := Aside0.mk (below_step (by repeat (first | (with_reducible first | exact HB.out | apply below_alloc | apply pw_below_drewN | apply below_drew1) | exact HB.out)) hb); have n1_ := Aside0.mk (hbox); have n2_ := Aside0.mk ((by rw [hg]; exact (below_size (by repeat (first | (with_reducible first | exact HB.out | apply below_alloc | apply pw_below_drewN | apply below_drew1) | exact HB.out))) : w.heap.size ≤ gb155)); have n3_ := Aside0.mk ((by rw [hg]; exact (below_size (by repeat (first | (with_reducible first | exact HB.out | apply below_alloc | apply pw_below_drewN | apply below_drew1) | exact HB.out))) : w.heap.size ≤ gb155)); clear HB; have HB := n0_; have BK155 := n1_; have GW155 := n2_; have GE155 := n3_; clear n0_ n1_ n2_ n3_; clear hb hbox hg; have hcz33_0 : w32.cell? ⟨gb155, 0, none⟩ = some (.int .i64 a0_0) := (blk_cell BK155.out 0).trans rfl; have hcz33_1 : w32.cell? ⟨gb155, 1, none⟩ = some (.int .i64 a0_1) := (blk_cell BK155.out 1).trans rfl; have hcz33_2 : w32.cell? ⟨gb155, 2, none⟩ = some (.int .i64 a0_2) := (blk_cell BK155.out 2).trans rfl; have hcz33_3 : w32.cell? ⟨gb155, 3, none⟩ = some (.string a0_3) := (blk_cell BK155.out 3).trans rfl; have hcz33_4 : w32.cell? ⟨gb155, 4, none⟩ = some (.int .i64 a0_4) := (blk_cell BK155.out 4).trans rfl; have hfz33_0 := blk_frozen BK155.out 0; have hfz33_1 := blk_frozen BK155.out 1; have hfz33_2 := blk_frozen BK155.out 2; have hfz33_3 := blk_frozen BK155.out 3; have hfz33_4 := blk_frozen BK155.out 4))
                  go_ret
                  exact ⟨by first | rfl | (simp [errW_none, errW_some] <;> rfl) | (simp [*, errW_none, errW_some] <;> rfl) | (exfalso; simp only [Bool.not_eq_true', Bool.not_eq_false', decide_eq_false_iff_not, decide_eq_true_eq, decide_eq_decide, Int.not_lt, Int.not_le] at *; omega), by repeat (first | (with_reducible first | exact HB.out | apply below_alloc | apply pw_below_drewN | apply below_drew1 | refine below_set ?_ GE155.out) | exact HB.out)⟩
                · rw [if_neg c31] at H
                  have c31b0 : (a0_2 == 0) = false := beq_eq_false_iff_ne.mpr c31
                  have c31b1 : (a0_2 != 0) = true := bne_iff_ne.mpr c31
                  by_cases c34 : a0_4 > 0
                  · rw [if_pos c34] at H
                    have c34b0 : decide (0 < a0_4) = true := decide_eq_true c34
                    clear c34
                    replace H := Option.bind_eq_some_iff.mp H
                    obtain ⟨t157, A350, H⟩ := H
                    replace H : (some t157) = some r := H
                    have A35 := Aside0.mk A350
                    clear A350
                    obtain rfl := Option.some.inj H
                    go_enter Try.func109, Try.ntmps109
                    go_wp2_with (first | ((with_reducible refine gate_dst (N := 1) rfl ?_); (try (refine gate_guard (by rfl) ?_; dsimp only)); refine box_event ?hg (N := 1) ?hd (cs := #[.int .i64 a0_0, .int .i64 a0_1, .int .i64 a0_2, .string a0_3, .int .i64 a0_4]) (t := 74) ?hr ?_; (case hd => rfl); (case hg => rfl); (case hr => first | (go_simp; done) | (go_simp; rfl)); intro gb155 hg w36 hbox hb; have n0_ := Aside0.mk (below_step (by repeat (first | (with_reducible first | exact HB.out | apply below_alloc | apply pw_below_drewN | apply below_drew1) | exact HB.out)) hb); have n1_ := Aside0.mk (hbox); have n2_ := Aside0.mk ((by rw [hg]; exact (below_size (by repeat (first | (with_reducible first | exact HB.out | apply below_alloc | apply pw_below_drewN | apply below_drew1) | exact HB.out))) : w.heap.size ≤ gb155)); have n3_ := Aside0.mk ((by rw [hg]; exact (below_size (by repeat (first | (with_reducible first | exact HB.out | apply below_alloc | apply pw_below_drewN | apply below_drew1) | exact HB.out))) : w.heap.size ≤ gb155)); clear HB; have HB := n0_; have BK155 := n1_; have GW155 := n2_; have GE155 := n3_; clear n0_ n1_ n2_ n3_; clear hb hbox hg; have hcz37_0 : w36.cell? ⟨gb155, 0, none⟩ = some (.int .i64 a0_0) := (blk_cell BK155.out 0).trans rfl; have hcz37_1 : w36.cell? ⟨gb155, 1, none⟩ = some (.int .i64 a0_1) := (blk_cell BK155.out 1).trans rfl; have hcz37_2 : w36.cell? ⟨gb155, 2, none⟩ = some (.int .i64 a0_2) := (blk_cell BK155.out 2).trans rfl; have hcz37_3 : w36.cell? ⟨gb155, 3, none⟩ = some (.string a0_3) := (blk_cell BK155.out 3).trans rfl; have hcz37_4 : w36.cell? ⟨gb155, 4, none⟩ = some (.int .i64 a0_4) := (blk_cell BK155.out 4).trans rfl; have hfz37_0 := blk_frozen BK155.out 0; have hfz37_1 := blk_frozen BK155.out 1; have hfz37_2 := blk_frozen BK155.out 2; have hfz37_3 := blk_frozen BK155.out 3; have hfz37_4 := blk_frozen BK155.out 4) | (go_at_call 117; (with_reducible refine (impl_isType.calls k a0_2 true t157 _ A35.out).mono ?_); rintro e w' ⟨rfl, ⟨nd, rfl⟩⟩))
                    go_ret
                    exact ⟨by first | rfl | (simp [errW_none, errW_some] <;> rfl) | (simp [*, errW_none, errW_some] <;> rfl) | (exfalso; simp only [Bool.not_eq_true', Bool.not_eq_false', decide_eq_false_iff_not, decide_eq_true_eq, decide_eq_decide, Int.not_lt, Int.not_le] at *; omega), by repeat (first | (with_reducible first | exact HB.out | apply below_alloc | apply pw_below_drewN | apply below_drew1 | refine below_set ?_ GE155.out) | exact HB.out)⟩
                  · rw [if_neg c34] at H
                    have c34b0 : decide (0 < a0_4) = false := decide_eq_false c34
                    clear c34
                    obtain rfl := Option.some.inj H
                    go_enter Try.func109, Try.ntmps109
                    go_wp2_with (first | ((with_reducible refine gate_dst (N := 1) rfl ?_); (try (refine gate_guard (by rfl) ?_; dsimp only)); refine box_event ?hg (N := 1) ?hd (cs := #[.int .i64 a0_0, .int .i64 a0_1, .int .i64 a0_2, .string a0_3, .int .i64 a0_4]) (t := 74) ?hr ?_; (case hd => rfl); (case hg => rfl); (case hr => first | (go_simp; done) | (go_simp; rfl)); intro gb155 hg w38 hbox hb; have n0_ := Aside0.mk (below_step (by repeat (first | (with_reducible first | exact HB.out | apply below_alloc | apply pw_below_drewN | apply below_drew1) | exact HB.out)) hb); have n1_ := Aside0.mk (hbox); have n2_ := Aside0.mk ((by rw [hg]; exact (below_size (by repeat (first | (with_reducible first | exact HB.out | apply below_alloc | apply pw_below_drewN | apply below_drew1) | exact HB.out))) : w.heap.size ≤ gb155)); have n3_ := Aside0.mk ((by rw [hg]; exact (below_size (by repeat (first | (with_reducible first | exact HB.out | apply below_alloc | apply pw_below_drewN | apply below_drew1) | exact HB.out))) : w.heap.size ≤ gb155)); clear HB; have HB := n0_; have BK155 := n1_; have GW155 := n2_; have GE155 := n3_; clear n0_ n1_ n2_ n3_; clear hb hbox hg; have hcz39_0 : w38.cell? ⟨gb155, 0, none⟩ = some (.int .i64 a0_0) := (blk_cell BK155.out 0).trans rfl; have hcz39_1 : w38.cell? ⟨gb155, 1, none⟩ = some (.int .i64 a0_1) := (blk_cell BK155.out 1).trans rfl; have hcz39_2 : w38.cell? ⟨gb155, 2, none⟩ = some (.int .i64 a0_2) := (blk_cell BK155.out 2).trans rfl; have hcz39_3 : w38.cell? ⟨gb155, 3, none⟩ = some (.string a0_3) := (blk_cell BK155.out 3).trans rfl; have hcz39_4 : w38.cell? ⟨gb155, 4, none⟩ = some (.int .i64 a0_4) := (blk_cell BK155.out 4).trans rfl; have hfz39_0 := blk_frozen BK155.out 0; have hfz39_1 := blk_frozen BK155.out 1; have hfz39_2 := blk_frozen BK155.out 2; have hfz39_3 := blk_frozen BK155.out 3; have hfz39_4 := blk_frozen BK155.out 4))
                    go_ret
                    exact ⟨by first | rfl | (simp [errW_none, errW_some] <;> rfl) | (simp [*, errW_none, errW_some] <;> rfl) | (exfalso; simp only [Bool.not_eq_true', Bool.not_eq_false', decide_eq_false_iff_not, decide_eq_true_eq, decide_eq_decide, Int.not_lt, Int.not_le] at *; omega), by repeat (first | (with_reducible first | exact HB.out | apply below_alloc | apply pw_below_drewN | apply below_drew1 | refine below_set ?_ GE155.out) | exact HB.out)⟩
              · rw [if_neg c30] at H
                have c30b0 : (a0_4 == 0) = false := beq_eq_false_iff_ne.mpr c30
                have c30b1 : (a0_4 != 0) = true := bne_iff_ne.mpr c30
                by_cases c40 : a0_4 > 0
                · rw [if_pos c40] at H
                  have c40b0 : decide (0 < a0_4) = true := decide_eq_true c40
                  clear c40
                  replace H := Option.bind_eq_some_iff.mp H
                  obtain ⟨t158, A410, H⟩ := H
                  replace H : (some t158) = some r := H
                  have A41 := Aside0.mk A410
                  clear A410
                  obtain rfl := Option.some.inj H
                  go_enter Try.func109, Try.ntmps109
                  go_wp2_with (first | ((with_reducible refine gate_dst (N := 1) rfl ?_); (try (refine gate_guard (by rfl) ?_; dsimp only)); refine box_event ?hg (N := 1) ?hd (cs := #[.int .i64 a0_0, .int .i64 a0_1, .int .i64 a0_2, .string a0_3, .int .i64 a0_4]) (t := 74) ?hr ?_; (case hd => rfl); (case hg => rfl); (case hr => first | (go_simp; done) | (go_simp; rfl)); intro gb155 hg w42 hbox hb; have n0_ := Aside0.mk (below_step (by repeat (first | (with_reducible first | exact HB.out | apply below_alloc | apply pw_below_drewN | apply below_drew1) | exact HB.out)) hb); have n1_ := Aside0.mk (hbox); have n2_ := Aside0.mk ((by rw [hg]; exact (below_size (by repeat (first | (with_reducible first | exact HB.out | apply below_alloc | apply pw_below_drewN | apply below_drew1) | exact HB.out))) : w.heap.size ≤ gb155)); have n3_ := Aside0.mk ((by rw [hg]; exact (below_size (by repeat (first | (with_reducible first | exact HB.out | apply below_alloc | apply pw_below_drewN | apply below_drew1) | exact HB.out))) : w.heap.size ≤ gb155)); clear HB; have HB := n0_; have BK155 := n1_; have GW155 := n2_; have GE155 := n3_; clear n0_ n1_ n2_ n3_; clear hb hbox hg; have hcz43_0 : w42.cell? ⟨gb155, 0, none⟩ = some (.int .i64 a0_0) := (blk_cell BK155.out 0).trans rfl; have hcz43_1 : w42.cell? ⟨gb155, 1, none⟩ = some (.int .i64 a0_1) := (blk_cell BK155.out 1).trans rfl; have hcz43_2 : w42.cell? ⟨gb155, 2, none⟩ = some (.int .i64 a0_2) := (blk_cell BK155.out 2).trans rfl; have hcz43_3 : w42.cell? ⟨gb155, 3, none⟩ = some (.string a0_3) := (blk_cell BK155.out 3).trans rfl; have hcz43_4 : w42.cell? ⟨gb155, 4, none⟩ = some (.int .i64 a0_4) := (blk_cell BK155.out 4).trans rfl; have hfz43_0 := blk_frozen BK155.out 0; have hfz43_1 := blk_frozen BK155.out 1; have hfz43_2 := blk_frozen BK155.out 2; have hfz43_3 := blk_frozen BK155.out 3; have hfz43_4 := blk_frozen BK155.out 4) | (go_at_call 117; (with_reducible refine (impl_isType.calls k a0_2 true t158 _ A41.out).mono ?_); rintro e w' ⟨rfl, ⟨nd, rfl⟩⟩))
                  go_ret
                  exact ⟨by first | rfl | (simp [errW_none, errW_some] <;> rfl) | (simp [*, errW_none, errW_some] <;> rfl) | (exfalso; simp only [Bool.not_eq_true', Bool.not_eq_false', decide_eq_false_iff_not, decide_eq_true_eq, decide_eq_decide, Int.not_lt, Int.not_le] at *; omega), by repeat (first | (with_reducible first | exact HB.out | apply below_alloc | apply pw_below_drewN | apply below_drew1 | refine below_set ?_ GE155.out) | exact HB.out)⟩
                · rw [if_neg c40] at H
                  have c40b0 : decide (0 < a0_4) = false := decide_eq_false c40
                  clear c40
                  obtain rfl := Option.some.inj H
                  go_enter Try.func109, Try.ntmps109
                  go_wp2_with (first | ((with_reducible refine gate_dst (N := 1) rfl ?_); (try (refine gate_guard (by rfl) ?_; dsimp only)); refine box_event ?hg (N := 1) ?hd (cs := #[.int .i64 a0_0, .int .i64 a0_1, .int .i64 a0_2, .string a0_3, .int .i64 a0_4]) (t := 74) ?hr ?_; (case hd => rfl); (case hg => rfl); (case hr => first | (go_simp; done) | (go_simp; rfl)); intro gb155 hg w44 hbox hb; have n0_ := Aside0.mk (below_step (by repeat (first | (with_reducible first | exact HB.out | apply below_alloc | apply pw_below_drewN | apply below_drew1) | exact HB.out)) hb); have n1_ := Aside0.mk (hbox); have n2_ := Aside0.mk ((by rw [hg]; exact (below_size (by repeat (first | (with_reducible first | exact HB.out | apply below_alloc | apply pw_below_drewN | apply below_drew1) | exact HB.out))) : w.heap.size ≤ gb155)); have n3_ := Aside0.mk ((by rw [hg]; exact (below_size (by repeat (first | (with_reducible first | exact HB.out | apply below_alloc | apply pw_below_drewN | apply below_drew1) | exact HB.out))) : w.heap.size ≤ gb155)); clear HB; have HB := n0_; have BK155 := n1_; have GW155 := n2_; have GE155 := n3_; clear n0_ n1_ n2_ n3_; clear hb hbox hg; have hcz45_0 : w44.cell? ⟨gb155, 0, none⟩ = some (.int .i64 a0_0) := (blk_cell BK155.out 0).trans rfl; have hcz45_1 : w44.cell? ⟨gb155, 1, none⟩ = some (.int .i64 a0_1) := (blk_cell BK155.out 1).trans rfl; have hcz45_2 : w44.cell? ⟨gb155, 2, none⟩ = some (.int .i64 a0_2) := (blk_cell BK155.out 2).trans rfl; have hcz45_3 : w44.cell? ⟨gb155, 3, none⟩ = some (.string a0_3) := (blk_cell BK155.out 3).trans rfl; have hcz45_4 : w44.cell? ⟨gb155, 4, none⟩ = some (.int .i64 a0_4) := (blk_cell BK155.out 4).trans rfl; have hfz45_0 := blk_frozen BK155.out 0; have hfz45_1 := blk_frozen BK155.out 1; have hfz45_2 := blk_frozen BK155.out 2; have hfz45_3 := blk_frozen BK155.out 3; have hfz45_4 := blk_frozen BK155.out 4))
                  go_ret
                  exact ⟨by first | rfl | (simp [errW_none, errW_some] <;> rfl) | (simp [*, errW_none, errW_some] <;> rfl) | (exfalso; simp only [Bool.not_eq_true', Bool.not_eq_false', decide_eq_false_iff_not, decide_eq_true_eq, decide_eq_decide, Int.not_lt, Int.not_le] at *; omega), by repeat (first | (with_reducible first | exact HB.out | apply below_alloc | apply pw_below_drewN | apply below_drew1 | refine below_set ?_ GE155.out) | exact HB.out)⟩
            · rw [if_neg c29] at H
              have c29b0 : decide (0 ≤ a0_4) = false := decide_eq_false c29
              clear c29
              obtain rfl := Option.some.inj H
              go_enter Try.func109, Try.ntmps109
              go_wp2_with (first | ((with_reducible refine gate_dst (N := 1) rfl ?_); (try (refine gate_guard (by rfl) ?_; dsimp only)); refine box_event ?hg (N := 1) ?hd (cs := #[.int .i64 a0_0, .int .i64 a0_1, .int .i64 a0_2, .string a0_3, .int .i64 a0_4]) (t := 74) ?hr ?_; (case hd => rfl); (case hg => rfl); (case hr => first | (go_simp; done) | (go_simp; rfl)); intro gb155 hg w46 hbox hb; have n0_ := Aside0.mk (below_step (by repeat (first | (with_reducible first | exact HB.out | apply below_alloc | apply pw_below_drewN | apply below_drew1) | exact HB.out)) hb); have n1_ := Aside0.mk (hbox); have n2_ := Aside0.mk ((by rw [hg]; exact (below_size (by repeat (first | (with_reducible first | exact HB.out | apply below_alloc | apply pw_below_drewN | apply below_drew1) | exact HB.out))) : w.heap.size ≤ gb155)); have n3_ := Aside0.mk ((by rw [hg]; exact (below_size (by repeat (first | (with_reducible first | exact HB.out | apply below_alloc | apply pw_below_drewN | apply below_drew1) | exact HB.out))) : w.heap.size ≤ gb155)); clear HB; have HB := n0_; have BK155 := n1_; have GW155 := n2_; have GE155 := n3_; clear n0_ n1_ n2_ n3_; clear hb hbox hg; have hcz47_0 : w46.cell? ⟨gb155, 0, none⟩ = some (.int .i64 a0_0) := (blk_cell BK155.out 0).trans rfl; have hcz47_1 : w46.cell? ⟨gb155, 1, none⟩ = some (.int .i64 a0_1) := (blk_cell BK155.out 1).trans rfl; have hcz47_2 : w46.cell? ⟨gb155, 2, none⟩ = some (.int .i64 a0_2) := (blk_cell BK155.out 2).trans rfl; have hcz47_3 : w46.cell? ⟨gb155, 3, none⟩ = some (.string a0_3) := (blk_cell BK155.out 3).trans rfl; have hcz47_4 : w46.cell? ⟨gb155, 4, none⟩ = some (.int .i64 a0_4) := (blk_cell BK155.out 4).trans rfl; have hfz47_0 := blk_frozen BK155.out 0; have hfz47_1 := blk_frozen BK155.out 1; have hfz47_2 := blk_frozen BK155.out 2; have hfz47_3 := blk_frozen BK155.out 3; have hfz47_4 := blk_frozen BK155.out 4))
              go_ret
              exact ⟨by first | rfl | (simp [errW_none, errW_some] <;> rfl) | (simp [*, errW_none, errW_some] <;> rfl) | (exfalso; simp only [Bool.not_eq_true', Bool.not_eq_false', decide_eq_false_iff_not, decide_eq_true_eq, decide_eq_decide, Int.not_lt, Int.not_le] at *; omega), by repeat (first | (with_reducible first | exact HB.out | apply below_alloc | apply pw_below_drewN | apply below_drew1 | refine below_set ?_ GE155.out) | exact HB.out)⟩
          · rw [if_neg c28] at H
            have c28b0 : (a0_3.toList == ([] : List UInt8)) = false := beq_eq_false_iff_ne.mpr c28
            have c28b1 : (a0_3.toList != ([] : List UInt8)) = true := bne_iff_ne.mpr c28
            have c28b2 : a0_3.toList.isEmpty = false := by cases h_ : a0_3.toList <;> first | exact absurd h_ c28 | rfl
            have c28b3 : (a0_3.toList = []) = False := eq_false c28
            obtain rfl := Option.some.inj H
            go_enter Try.func109, Try.ntmps109
            go_wp2_with (first | ((with_reducible refine gate_dst (N := 1) rfl ?_); (try (refine gate_guard (by rfl) ?_; dsimp only)); refine box_event ?hg (N := 1) ?hd (cs := #[.int .i64 a0_0, .int .i64 a0_1, .int .i64 a0_2, .string a0_3, .int .i64 a0_4]) (t := 74) ?hr ?_; (case hd => rfl); (case hg => rfl); (case hr => first | (go_simp; done) | (go_simp; rfl)); intro gb155 hg w48 hbox hb; have n0_ := Aside0.mk (below_step (by repeat (first | (with_reducible first | exact HB.out | apply below_alloc | apply pw_below_drewN | apply below_drew1) | exact HB.out)) hb); have n1_ := Aside0.mk (hbox); have n2_ := Aside0.mk ((by rw [hg]; exact (below_size (by repeat (first | (with_reducible first | exact HB.out | apply below_alloc | apply pw_below_drewN | apply below_drew1) | exact HB.out))) : w.heap.size ≤ gb155)); have n3_ := Aside0.mk ((by rw [hg]; exact (below_size (by repeat (first | (with_reducible first | exact HB.out | apply below_alloc | apply pw_below_drewN | apply below_drew1) | exact HB.out))) : w.heap.size ≤ gb155)); clear HB; have HB := n0_; have BK155 := n1_; have GW155 := n2_; have GE155 := n3_; clear n0_ n1_ n2_ n3_; clear hb hbox hg; have hcz49_0 : w48.cell? ⟨gb155, 0, none⟩ = some (.int .i64 a0_0) := (blk_cell BK155.out 0).trans rfl; have hcz49_1 : w48.cell? ⟨gb155, 1, none⟩ = some (.int .i64 a0_1) := (blk_cell BK155.out 1).trans rfl; have hcz49_2 : w48.cell? ⟨gb155, 2, none⟩ = some (.int .i64 a0_2) := (blk_cell BK155.out 2).trans rfl; have hcz49_3 : w48.cell? ⟨gb155, 3, none⟩ = some (.string a0_3) := (blk_cell BK155.out 3).trans rfl; have hcz49_4 : w48.cell? ⟨gb155, 4, none⟩ = some (.int .i64 a0_4) := (blk_cell BK155.out 4).trans rfl; have hfz49_0 := blk_frozen BK155.out 0; have hfz49_1 := blk_frozen BK155.out 1; have hfz49_2 := blk_frozen BK155.out 2; have hfz49_3 := blk_frozen BK155.out 3; have hfz49_4 := blk_frozen BK155.out 4))
            go_ret
            exact ⟨by first | rfl | (simp [errW_none, errW_some] <;> rfl) | (simp [*, errW_none, errW_some] <;> rfl) | (exfalso; simp only [Bool.not_eq_true', Bool.not_eq_false', decide_eq_false_iff_not, decide_eq_true_eq, decide_eq_decide, Int.not_lt, Int.not_le] at *; omega), by repeat (first | (with_reducible first | exact HB.out | apply below_alloc | apply pw_below_drewN | apply below_drew1 | refine below_set ?_ GE155.out) | exact HB.out)⟩
        · rw [if_neg c27] at H
          have c27b0 : (a0_0 == 9) = false := beq_eq_false_iff_ne.mpr c27
          have c27b1 : (a0_0 != 9) = true := bne_iff_ne.mpr c27
          by_cases c50 : a0_0 = 12
          · rw [if_pos c50] at H
            have c50b0 : (a0_0 == 12) = true := beq_iff_eq.mpr c50
            have c50b1 : (a0_0 != 12) = false := bne_eq_false_iff_eq.mpr c50
            clear c50
            by_cases c51 : a0_2 = 0
            · rw [if_pos c51] at H
              have c51b0 : (a0_2 == 0) = true := beq_iff_eq.mpr c51
              have c51b1 : (a0_2 != 0) = false := bne_eq_false_iff_eq.mpr c51
              clear c51
              by_cases c52 : a0_3.toList = ([] : List UInt8)
              · rw [if_pos c52] at H
                have c52b0 : (a0_3.toList == ([] : List UInt8)) = true := beq_iff_eq.mpr c52
                have c52b1 : (a0_3.toList != ([] : List UInt8)) = false := bne_eq_false_iff_eq.mpr c52
                have c52b2 : a0_3.toList.isEmpty = true := by rw [c52]; rfl
                have c52b3 : (a0_3.toList = []) = True := eq_true c52
                clear c52
                obtain rfl := Option.some.inj H
                go_enter Try.func109, Try.ntmps109
                go_wp2_with (first | ((with_reducible refine gate_dst (N := 1) rfl ?_); (try (refine gate_guard (by rfl) ?_; dsimp only)); refine box_event ?hg (N := 1) ?hd (cs := #[.int .i64 a0_0, .int .i64 a0_1, .int .i64 a0_2, .string a0_3, .int .i64 a0_4]) (t := 74) ?hr ?_; (case hd => rfl); (case hg => rfl); (case hr => first | (go_simp; done) | (go_simp; rfl)); intro gb155 hg w53 hbox hb; have n0_ := Aside0.mk (below_step (by repeat (first | (with_reducible first | exact HB.out | apply below_alloc | apply pw_below_drewN | apply below_drew1) | exact HB.out)) hb); have n1_ := Aside0.mk (hbox); have n2_ := Aside0.mk ((by rw [hg]; exact (below_size (by repeat (first | (with_reducible first | exact HB.out | apply below_alloc | apply pw_below_drewN | apply below_drew1) | exact HB.out))) : w.heap.size ≤ gb155)); have n3_ := Aside0.mk ((by rw [hg]; exact (below_size (by repeat (first | (with_reducible first | exact HB.out | apply below_alloc | apply pw_below_drewN | apply below_drew1) | exact HB.out))) : w.heap.size ≤ gb155)); clear HB; have HB := n0_; have BK155 := n1_; have GW155 := n2_; have GE155 := n3_; clear n0_ n1_ n2_ n3_; clear hb hbox hg; have hcz54_0 : w53.cell? ⟨gb155, 0, none⟩ = some (.int .i64 a0_0) := (blk_cell BK155.out 0).trans rfl; have hcz54_1 : w53.cell? ⟨gb155, 1, none⟩ = some (.int .i64 a0_1) := (blk_cell BK155.out 1).trans rfl; have hcz54_2 : w53.cell? ⟨gb155, 2, none⟩ = some (.int .i64 a0_2) := (blk_cell BK155.out 2).trans rfl; have hcz54_3 : w53.cell? ⟨gb155, 3, none⟩ = some (.string a0_3) := (blk_cell BK155.out 3).trans rfl; have hcz54_4 : w53.cell? ⟨gb155, 4, none⟩ = some (.int .i64 a0_4) := (blk_cell BK155.out 4).trans rfl; have hfz54_0 := blk_frozen BK155.out 0; have hfz54_1 := blk_frozen BK155.out 1; have hfz54_2 := blk_frozen BK155.out 2; have hfz54_3 := blk_frozen BK155.out 3; have hfz54_4 := blk_frozen BK155.out 4))
                go_ret
                exact ⟨by first | rfl | (simp [errW_none, errW_some] <;> rfl) | (simp [*, errW_none, errW_some] <;> rfl) | (exfalso; simp only [Bool.not_eq_true', Bool.not_eq_false', decide_eq_false_iff_not, decide_eq_true_eq, decide_eq_decide, Int.not_lt, Int.not_le] at *; omega), by repeat (first | (with_reducible first | exact HB.out | apply below_alloc | apply pw_below_drewN | apply below_drew1 | refine below_set ?_ GE155.out) | exact HB.out)⟩
              · rw [if_neg c52] at H
                have c52b0 : (a0_3.toList == ([] : List UInt8)) = false := beq_eq_false_iff_ne.mpr c52
                have c52b1 : (a0_3.toList != ([] : List UInt8)) = true := bne_iff_ne.mpr c52
                have c52b2 : a0_3.toList.isEmpty = false := by cases h_ : a0_3.toList <;> first | exact absurd h_ c52 | rfl
                have c52b3 : (a0_3.toList = []) = False := eq_false c52
                obtain rfl := Option.some.inj H
                go_enter Try.func109, Try.ntmps109
                go_wp2_with (first | ((with_reducible refine gate_dst (N := 1) rfl ?_); (try (refine gate_guard (by rfl) ?_; dsimp only)); refine box_event ?hg (N := 1) ?hd (cs := #[.int .i64 a0_0, .int .i64 a0_1, .int .i64 a0_2, .string a0_3, .int .i64 a0_4]) (t := 74) ?hr ?_; (case hd => rfl); (case hg => rfl); (case hr => first | (go_simp; done) | (go_simp; rfl)); intro gb155 hg w55 hbox hb; have n0_ := Aside0.mk (below_step (by repeat (first | (with_reducible first | exact HB.out | apply below_alloc | apply pw_below_drewN | apply below_drew1) | exact HB.out)) hb); have n1_ := Aside0.mk (hbox); have n2_ := Aside0.mk ((by rw [hg]; exact (below_size (by repeat (first | (with_reducible first | exact HB.out | apply below_alloc | apply pw_below_drewN | apply below_drew1) | exact HB.out))) : w.heap.size ≤ gb155)); have n3_ := Aside0.mk ((by rw [hg]; exact (below_size (by repeat (first | (with_reducible first | exact HB.out | apply below_alloc | apply pw_below_drewN | apply below_drew1) | exact HB.out))) : w.heap.size ≤ gb155)); clear HB; have HB := n0_; have BK155 := n1_; have GW155 := n2_; have GE155 := n3_; clear n0_ n1_ n2_ n3_; clear hb hbox hg; have hcz56_0 : w55.cell? ⟨gb155, 0, none⟩ = some (.int .i64 a0_0) := (blk_cell BK155.out 0).trans rfl; have hcz56_1 : w55.cell? ⟨gb155, 1, none⟩ = some (.int .i64 a0_1) := (blk_cell BK155.out 1).trans rfl; have hcz56_2 : w55.cell? ⟨gb155, 2, none⟩ = some (.int .i64 a0_2) := (blk_cell BK155.out 2).trans rfl; have hcz56_3 : w55.cell? ⟨gb155, 3, none⟩ = some (.string a0_3) := (blk_cell BK155.out 3).trans rfl; have hcz56_4 : w55.cell? ⟨gb155, 4, none⟩ = some (.int .i64 a0_4) := (blk_cell BK155.out 4).trans rfl; have hfz56_0 := blk_frozen BK155.out 0; have hfz56_1 := blk_frozen BK155.out 1; have hfz56_2 := blk_frozen BK155.out 2; have hfz56_3 := blk_frozen BK155.out 3; have hfz56_4 := blk_frozen BK155.out 4))
                go_ret
                exact ⟨by first | rfl | (simp [errW_none, errW_some] <;> rfl) | (simp [*, errW_none, errW_some] <;> rfl) | (exfalso; simp only [Bool.not_eq_true', Bool.not_eq_false', decide_eq_false_iff_not, decide_eq_true_eq, decide_eq_decide, Int.not_lt, Int.not_le] at *; omega), by repeat (first | (with_reducible first | exact HB.out | apply below_alloc | apply pw_below_drewN | apply below_drew1 | refine below_set ?_ GE155.out) | exact HB.out)⟩
            · rw [if_neg c51] at H
              have c51b0 : (a0_2 == 0) = false := beq_eq_false_iff_ne.mpr c51
              have c51b1 : (a0_2 != 0) = true := bne_iff_ne.mpr c51
              obtain rfl := Option.some.inj H
              go_enter Try.func109, Try.ntmps109
              go_wp2_with (first | ((with_reducible refine gate_dst (N := 1) rfl ?_); (try (refine gate_guard (by rfl) ?_; dsimp only)); refine box_event ?hg (N := 1) ?hd (cs := #[.int .i64 a0_0, .int .i64 a0_1, .int .i64 a0_2, .string a0_3, .int .i64 a0_4]) (t := 74) ?hr ?_; (case hd => rfl); (case hg => rfl); (case hr => first | (go_simp; done) | (go_simp; rfl)); intro gb155 hg w57 hbox hb; have n0_ := Aside0.mk (below_step (by repeat (first | (with_reducible first | exact HB.out | apply below_alloc | apply pw_below_drewN | apply below_drew1) | exact HB.out)) hb); have n1_ := Aside0.mk (hbox); have n2_ := Aside0.mk ((by rw [hg]; exact (below_size (by repeat (first | (with_reducible first | exact HB.out | apply below_alloc | apply pw_below_drewN | apply below_drew1) | exact HB.out))) : w.heap.size ≤ gb155)); have n3_ := Aside0.mk ((by rw [hg]; exact (below_size (by repeat (first | (with_reducible first | exact HB.out | apply below_alloc | apply pw_below_drewN | apply below_drew1) | exact HB.out))) : w.heap.size ≤ gb155)); clear HB; have HB := n0_; have BK155 := n1_; have GW155 := n2_; have GE155 := n3_; clear n0_ n1_ n2_ n3_; clear hb hbox hg; have hcz58_0 : w57.cell? ⟨gb155, 0, none⟩ = some (.int .i64 a0_0) := (blk_cell BK155.out 0).trans rfl; have hcz58_1 : w57.cell? ⟨gb155, 1, none⟩ = some (.int .i64 a0_1) := (blk_cell BK155.out 1).trans rfl; have hcz58_2 : w57.cell? ⟨gb155, 2, none⟩ = some (.int .i64 a0_2) := (blk_cell BK155.out 2).trans rfl; have hcz58_3 : w57.cell? ⟨gb155, 3, none⟩ = some (.string a0_3) := (blk_cell BK155.out 3).trans rfl; have hcz58_4 : w57.cell? ⟨gb155, 4, none⟩ = some (.int .i64 a0_4) := (blk_cell BK155.out 4).trans rfl; have hfz58_0 := blk_frozen BK155.out 0; have hfz58_1 := blk_frozen BK155.out 1; have hfz58_2 := blk_frozen BK155.out 2; have hfz58_3 := blk_frozen BK155.out 3; have hfz58_4 := blk_frozen BK155.out 4))
              go_ret
              exact ⟨by first | rfl | (simp [errW_none, errW_some] <;> rfl) | (simp [*, errW_none, errW_some] <;> rfl) | (exfalso; simp only [Bool.not_eq_true', Bool.not_eq_false', decide_eq_false_iff_not, decide_eq_true_eq, decide_eq_decide, Int.not_lt, Int.not_le] at *; omega), by repeat (first | (with_reducible first | exact HB.out | apply below_alloc | apply pw_below_drewN | apply below_drew1 | refine below_set ?_ GE155.out) | exact HB.out)⟩
          · rw [if_neg c50] at H
            have c50b0 : (a0_0 == 12) = false := beq_eq_false_iff_ne.mpr c50
            have c50b1 : (a0_0 != 12) = true := bne_iff_ne.mpr c50
            replace H := Option.bind_eq_some_iff.mp H
            obtain ⟨t159, A590, H⟩ := H
            replace H : (if t159 = true then (if a0_2 = 0 then (if a0_3.toList = ([] : List UInt8) then (some (a0_4 == 0)) else (some false)) else (some false)) else (some false)) = some r := H
            have A59 := Aside0.mk A590
            clear A590
            by_cases c60 : t159 = true
            · subst c60
              have H1 : (if a0_2 = 0 then (if a0_3.toList = ([] : List UInt8) then (some (a0_4 == 0)) else (some false)) else (some false)) = some r := by rw [if_pos rfl] at H; exact H
              clear H
              have H := H1
              clear H1
              by_cases c61 : a0_2 = 0
              · rw [if_pos c61] at H
                have c61b0 : (a0_2 == 0) = true := beq_iff_eq.mpr c61
                have c61b1 : (a0_2 != 0) = false := bne_eq_false_iff_eq.mpr c61
                clear c61
                by_cases c62 : a0_3.toList = ([] : List UInt8)
                · rw [if_pos c62] at H
                  have c62b0 : (a0_3.toList == ([] : List UInt8)) = true := beq_iff_eq.mpr c62
                  have c62b1 : (a0_3.toList != ([] : List UInt8)) = false := bne_eq_false_iff_eq.mpr c62
                  have c62b2 : a0_3.toList.isEmpty = true := by rw [c62]; rfl
                  have c62b3 : (a0_3.toList = []) = True := eq_true c62
                  clear c62
                  obtain rfl := Option.some.inj H
                  go_enter Try.func109, Try.ntmps109
                  go_wp2_with (first | ((with_reducible refine gate_dst (N := 1) rfl ?_); (try (refine gate_guard (by rfl) ?_; dsimp only)); refine box_event ?hg (N := 1) ?hd (cs := #[.int .i64 a0_0, .int .i64 a0_1, .int .i64 a0_2, .string a0_3, .int .i64 a0_4]) (t := 74) ?hr ?_; (case hd => rfl); (case hg => rfl); (case hr => first | (go_simp; done) | (go_simp; rfl)); intro gb155 hg w63 hbox hb; have n0_ := Aside0.mk (below_step (by repeat (first | (with_reducible first | exact HB.out | apply below_alloc | apply pw_below_drewN | apply below_drew1) | exact HB.out)) hb); have n1_ := Aside0.mk (hbox); have n2_ := Aside0.mk ((by rw [hg]; exact (below_size (by repeat (first | (with_reducible first | exact HB.out | apply below_alloc | apply pw_below_drewN | apply below_drew1) | exact HB.out))) : w.heap.size ≤ gb155)); have n3_ := Aside0.mk ((by rw [hg]; exact (below_size (by repeat (first | (with_reducible first | exact HB.out | apply below_alloc | apply pw_below_drewN | apply below_drew1) | exact HB.out))) : w.heap.size ≤ gb155)); clear HB; have HB := n0_; have BK155 := n1_; have GW155 := n2_; have GE155 := n3_; clear n0_ n1_ n2_ n3_; clear hb hbox hg; have hcz64_0 : w63.cell? ⟨gb155, 0, none⟩ = some (.int .i64 a0_0) := (blk_cell BK155.out 0).trans rfl; have hcz64_1 : w63.cell? ⟨gb155, 1, none⟩ = some (.int .i64 a0_1) := (blk_cell BK155.out 1).trans rfl; have hcz64_2 : w63.cell? ⟨gb155, 2, none⟩ = some (.int .i64 a0_2) := (blk_cell BK155.out 2).trans rfl; have hcz64_3 : w63.cell? ⟨gb155, 3, none⟩ = some (.string a0_3) := (blk_cell BK155.out 3).trans rfl; have hcz64_4 : w63.cell? ⟨gb155, 4, none⟩ = some (.int .i64 a0_4) := (blk_cell BK155.out 4).trans rfl; have hfz64_0 := blk_frozen BK155.out 0; have hfz64_1 := blk_frozen BK155.out 1; have hfz64_2 := blk_frozen BK155.out 2; have hfz64_3 := blk_frozen BK155.out 3; have hfz64_4 := blk_frozen BK155.out 4) | ((with_reducible refine gate_callee (f := 117) rfl ?_); refine goesL_ (some 93) rfl rfl Try.func117 (by kernel_rfl) rfl #[.int .i64 a0_0, .bool false] rfl (by (try simp only [List.map_toArray, List.map_cons, List.map_nil]); first | done | rfl | (simp only [List.length_drop, List.length_take]; rfl)) ?_; (with_reducible refine (impl_isType.calls k a0_0 false true _ A59.out).mono ?_); rintro e w' ⟨rfl, ⟨nd, rfl⟩⟩; refine ⟨_, rfl, ?_⟩))
                  go_ret
                  exact ⟨by first | rfl | (simp [errW_none, errW_some] <;> rfl) | (simp [*, errW_none, errW_some] <;> rfl) | (exfalso; simp only [Bool.not_eq_true', Bool.not_eq_false', decide_eq_false_iff_not, decide_eq_true_eq, decide_eq_decide, Int.not_lt, Int.not_le] at *; omega), by repeat (first | (with_reducible first | exact HB.out | apply below_alloc | apply pw_below_drewN | apply below_drew1 | refine below_set ?_ GE155.out) | exact HB.out)⟩
                · rw [if_neg c62] at H
                  have c62b0 : (a0_3.toList == ([] : List UInt8)) = false := beq_eq_false_iff_ne.mpr c62
                  have c62b1 : (a0_3.toList != ([] : List UInt8)) = true := bne_iff_ne.mpr c62
                  have c62b2 : a0_3.toList.isEmpty = false := by cases h_ : a0_3.toList <;> first | exact absurd h_ c62 | rfl
                  have c62b3 : (a0_3.toList = []) = False := eq_false c62
                  obtain rfl := Option.some.inj H
                  go_enter Try.func109, Try.ntmps109
                  go_wp2_with (first | ((with_reducible refine gate_dst (N := 1) rfl ?_); (try (refine gate_guard (by rfl) ?_; dsimp only)); refine box_event ?hg (N := 1) ?hd (cs := #[.int .i64 a0_0, .int .i64 a0_1, .int .i64 a0_2, .string a0_3, .int .i64 a0_4]) (t := 74) ?hr ?_; (case hd => rfl); (case hg => rfl); (case hr => first | (go_simp; done) | (go_simp; rfl)); intro gb155 hg w65 hbox hb; have n0_ := Aside0.mk (below_step (by repeat (first | (with_reducible first | exact HB.out | apply below_alloc | apply pw_below_drewN | apply below_drew1) | exact HB.out)) hb); have n1_ := Aside0.mk (hbox); have n2_ := Aside0.mk ((by rw [hg]; exact (below_size (by repeat (first | (with_reducible first | exact HB.out | apply below_alloc | apply pw_below_drewN | apply below_drew1) | exact HB.out))) : w.heap.size ≤ gb155)); have n3_ := Aside0.mk ((by rw [hg]; exact (below_size (by repeat (first | (with_reducible first | exact HB.out | apply below_alloc | apply pw_below_drewN | apply below_drew1) | exact HB.out))) : w.heap.size ≤ gb155)); clear HB; have HB := n0_; have BK155 := n1_; have GW155 := n2_; have GE155 := n3_; clear n0_ n1_ n2_ n3_; clear hb hbox hg; have hcz66_0 : w65.cell? ⟨gb155, 0, none⟩ = some (.int .i64 a0_0) := (blk_cell BK155.out 0).trans rfl; have hcz66_1 : w65.cell? ⟨gb155, 1, none⟩ = some (.int .i64 a0_1) := (blk_cell BK155.out 1).trans rfl; have hcz66_2 : w65.cell? ⟨gb155, 2, none⟩ = some (.int .i64 a0_2) := (blk_cell BK155.out 2).trans rfl; have hcz66_3 : w65.cell? ⟨gb155, 3, none⟩ = some (.string a0_3) := (blk_cell BK155.out 3).trans rfl; have hcz66_4 : w65.cell? ⟨gb155, 4, none⟩ = some (.int .i64 a0_4) := (blk_cell BK155.out 4).trans rfl; have hfz66_0 := blk_frozen BK155.out 0; have hfz66_1 := blk_frozen BK155.out 1; have hfz66_2 := blk_frozen BK155.out 2; have hfz66_3 := blk_frozen BK155.out 3; have hfz66_4 := blk_frozen BK155.out 4) | ((with_reducible refine gate_callee (f := 117) rfl ?_); refine goesL_ (some 93) rfl rfl Try.func117 (by kernel_rfl) rfl #[.int .i64 a0_0, .bool false] rfl (by (try simp only [List.map_toArray, List.map_cons, List.map_nil]); first | done | rfl | (simp only [List.length_drop, List.length_take]; rfl)) ?_; (with_reducible refine (impl_isType.calls k a0_0 false true _ A59.out).mono ?_); rintro e w' ⟨rfl, ⟨nd, rfl⟩⟩; refine ⟨_, rfl, ?_⟩))
                  go_ret
                  exact ⟨by first | rfl | (simp [errW_none, errW_some] <;> rfl) | (simp [*, errW_none, errW_some] <;> rfl) | (exfalso; simp only [Bool.not_eq_true', Bool.not_eq_false', decide_eq_false_iff_not, decide_eq_true_eq, decide_eq_decide, Int.not_lt, Int.not_le] at *; omega), by repeat (first | (with_reducible first | exact HB.out | apply below_alloc | apply pw_below_drewN | apply below_drew1 | refine below_set ?_ GE155.out) | exact HB.out)⟩
              · rw [if_neg c61] at H
                have c61b0 : (a0_2 == 0) = false := beq_eq_false_iff_ne.mpr c61
                have c61b1 : (a0_2 != 0) = true := bne_iff_ne.mpr c61
                obtain rfl := Option.some.inj H
                go_enter Try.func109, Try.ntmps109
                go_wp2_with (first | ((with_reducible refine gate_dst (N := 1) rfl ?_); (try (refine gate_guard (by rfl) ?_; dsimp only)); refine box_event ?hg (N := 1) ?hd (cs := #[.int .i64 a0_0, .int .i64 a0_1, .int .i64 a0_2, .string a0_3, .int .i64 a0_4]) (t := 74) ?hr ?_; (case hd => rfl); (case hg => rfl); (case hr => first | (go_simp; done) | (go_simp; rfl)); intro gb155 hg w67 hbox hb; have n0_ := Aside0.mk (below_step (by repeat (first | (with_reducible first | exact HB.out | apply below_alloc | apply pw_below_drewN | apply below_drew1) | exact HB.out)) hb); have n1_ := Aside0.mk (hbox); have n2_ := Aside0.mk ((by rw [hg]; exact (below_size (by repeat (first | (with_reducible first | exact HB.out | apply below_alloc | apply pw_below_drewN | apply below_drew1) | exact HB.out))) : w.heap.size ≤ gb155)); have n3_ := Aside0.mk ((by rw [hg]; exact (below_size (by repeat (first | (with_reducible first | exact HB.out | apply below_alloc | apply pw_below_drewN | apply below_drew1) | exact HB.out))) : w.heap.size ≤ gb155)); clear HB; have HB := n0_; have BK155 := n1_; have GW155 := n2_; have GE155 := n3_; clear n0_ n1_ n2_ n3_; clear hb hbox hg; have hcz68_0 : w67.cell? ⟨gb155, 0, none⟩ = some (.int .i64 a0_0) := (blk_cell BK155.out 0).trans rfl; have hcz68_1 : w67.cell? ⟨gb155, 1, none⟩ = some (.int .i64 a0_1) := (blk_cell BK155.out 1).trans rfl; have hcz68_2 : w67.cell? ⟨gb155, 2, none⟩ = some (.int .i64 a0_2) := (blk_cell BK155.out 2).trans rfl; have hcz68_3 : w67.cell? ⟨gb155, 3, none⟩ = some (.string a0_3) := (blk_cell BK155.out 3).trans rfl; have hcz68_4 : w67.cell? ⟨gb155, 4, none⟩ = some (.int .i64 a0_4) := (blk_cell BK155.out 4).trans rfl; have hfz68_0 := blk_frozen BK155.out 0; have hfz68_1 := blk_frozen BK155.out 1; have hfz68_2 := blk_frozen BK155.out 2; have hfz68_3 := blk_frozen BK155.out 3; have hfz68_4 := blk_frozen BK155.out 4) | ((with_reducible refine gate_callee (f := 117) rfl ?_); refine goesL_ (some 93) rfl rfl Try.func117 (by kernel_rfl) rfl #[.int .i64 a0_0, .bool false] rfl (by (try simp only [List.map_toArray, List.map_cons, List.map_nil]); first | done | rfl | (simp only [List.length_drop, List.length_take]; rfl)) ?_; (with_reducible refine (impl_isType.calls k a0_0 false true _ A59.out).mono ?_); rintro e w' ⟨rfl, ⟨nd, rfl⟩⟩; refine ⟨_, rfl, ?_⟩))
                go_ret
                exact ⟨by first | rfl | (simp [errW_none, errW_some] <;> rfl) | (simp [*, errW_none, errW_some] <;> rfl) | (exfalso; simp only [Bool.not_eq_true', Bool.not_eq_false', decide_eq_false_iff_not, decide_eq_true_eq, decide_eq_decide, Int.not_lt, Int.not_le] at *; omega), by repeat (first | (with_reducible first | exact HB.out | apply below_alloc | apply pw_below_drewN | apply below_drew1 | refine below_set ?_ GE155.out) | exact HB.out)⟩
            · replace c60 := Bool.eq_false_iff.mpr c60
              subst c60
              have H1 : (some false) = some r := by rw [if_neg (show ¬ (false = true) by decide)] at H; exact H
              clear H
              have H := H1
              clear H1
              obtain rfl := Option.some.inj H
              go_enter Try.func109, Try.ntmps109
              go_wp2_with (first | ((with_reducible refine gate_dst (N := 1) rfl ?_); (try (refine gate_guard (by rfl) ?_; dsimp only)); refine box_event ?hg (N := 1) ?hd (cs := #[.int .i64 a0_0, .int .i64 a0_1, .int .i64 a0_2, .string a0_3, .int .i64 a0_4]) (t := 74) ?hr ?_; (case hd => rfl); (case hg => rfl); (case hr => first | (go_simp; done) | (go_simp; rfl)); intro gb155 hg w69 hbox hb; have n0_ := Aside0.mk (below_step (by repeat (first | (with_reducible first | exact HB.out | apply below_alloc | apply pw_below_drewN | apply below_drew1) | exact HB.out)) hb); have n1_ := Aside0.mk (hbox); have n2_ := Aside0.mk ((by rw [hg]; exact (below_size (by repeat (first | (with_reducible first | exact HB.out | apply below_alloc | apply pw_below_drewN | apply below_drew1) | exact HB.out))) : w.heap.size ≤ gb155)); have n3_ := Aside0.mk ((by rw [hg]; exact (below_size (by repeat (first | (with_reducible first | exact HB.out | apply below_alloc | apply pw_below_drewN | apply below_drew1) | exact HB.out))) : w.heap.size ≤ gb155)); clear HB; have HB := n0_; have BK155 := n1_; have GW155 := n2_; have GE155 := n3_; clear n0_ n1_ n2_ n3_; clear hb hbox hg; have hcz70_0 : w69.cell? ⟨gb155, 0, none⟩ = some (.int .i64 a0_0) := (blk_cell BK155.out 0).trans rfl; have hcz70_1 : w69.cell? ⟨gb155, 1, none⟩ = some (.int .i64 a0_1) := (blk_cell BK155.out 1).trans rfl; have hcz70_2 : w69.cell? ⟨gb155, 2, none⟩ = some (.int .i64 a0_2) := (blk_cell BK155.out 2).trans rfl; have hcz70_3 : w69.cell? ⟨gb155, 3, none⟩ = some (.string a0_3) := (blk_cell BK155.out 3).trans rfl; have hcz70_4 : w69.cell? ⟨gb155, 4, none⟩ = some (.int .i64 a0_4) := (blk_cell BK155.out 4).trans rfl; have hfz70_0 := blk_frozen BK155.out 0; have hfz70_1 := blk_frozen BK155.out 1; have hfz70_2 := blk_frozen BK155.out 2; have hfz70_3 := blk_frozen BK155.out 3; have hfz70_4 := blk_frozen BK155.out 4) | ((with_reducible refine gate_callee (f := 117) rfl ?_); refine goesL_ (some 93) rfl rfl Try.func117 (by kernel_rfl) rfl #[.int .i64 a0_0, .bool false] rfl (by (try simp only [List.map_toArray, List.map_cons, List.map_nil]); first | done | rfl | (simp only [List.length_drop, List.length_take]; rfl)) ?_; (with_reducible refine (impl_isType.calls k a0_0 false false _ A59.out).mono ?_); rintro e w' ⟨rfl, ⟨nd, rfl⟩⟩; refine ⟨_, rfl, ?_⟩))
              go_ret
              exact ⟨by first | rfl | (simp [errW_none, errW_some] <;> rfl) | (simp [*, errW_none, errW_some] <;> rfl) | (exfalso; simp only [Bool.not_eq_true', Bool.not_eq_false', decide_eq_false_iff_not, decide_eq_true_eq, decide_eq_decide, Int.not_lt, Int.not_le] at *; omega), by repeat (first | (with_reducible first | exact HB.out | apply below_alloc | apply pw_below_drewN | apply below_drew1 | refine below_set ?_ GE155.out) | exact HB.out)⟩

/-! ### impl_tree_measure: function 94 -/
/-- All stays but one row. -/
def Far (B : Nat) (w w1 : World) : Prop := w1.os = w.os ∧ w1.tape = w.tape ∧ w1.output = w.output ∧ w.heap.size ≤ w1.heap.size ∧ ∀ k, k < w.heap.size → k ≠ B → w1.heap[k]? = w.heap[k]?
theorem Far.refl (B : Nat) (w : World) : Far B w w := ⟨rfl, rfl, rfl, Nat.le_refl _, fun _ _ _ => rfl⟩
theorem Far.trans {B : Nat} {w w1 w2 : World} (h : Far B w w1) (k : Far B w1 w2) : Far B w w2 :=
  ⟨k.1.trans h.1, k.2.1.trans h.2.1, k.2.2.1.trans h.2.2.1, Nat.le_trans h.2.2.2.1 k.2.2.2.1, fun i hi hb => (k.2.2.2.2 i (Nat.lt_of_lt_of_le hi h.2.2.2.1) hb).trans (h.2.2.2.2 i hi hb)⟩
theorem Far.of_below {B : Nat} {w w1 : World} (h : Below w.heap.size w w1) : Far B w w1 := ⟨h.os, h.tape, h.output, h.size, fun i hi _ => h.block i hi⟩
theorem Far.below {B : Nat} {w w1 w2 : World} (h : Far B w w1) (k : Below w1.heap.size w1 w2) : Far B w w2 := h.trans (Far.of_below k)
theorem Far.set {B : Nat} {w w1 : World} (h : Far B w w1) (p : Addr) (u : Value) (hp : p.block = B ∨ w.heap.size ≤ p.block) : Far B w (w1.setCell p u) := by
  refine ⟨h.1, h.2.1, h.2.2.1, Nat.le_trans h.2.2.2.1 (by simp [World.setCell]), fun i hi hb => ?_⟩
  rw [Below.heap_setCell w1 p u i (by rcases hp with hp | hp <;> omega)]
  exact h.2.2.2.2 i hi hb
theorem Far.cell {B : Nat} {w w1 : World} (h : Far B w w1) {p : Addr} {v : Value} (hc : w.cell? p = some v) (hb : p.block ≠ B) : w1.cell? p = some v := by
  have hlt := World.block_lt_of_cell? w _ hc
  have := h.2.2.2.2 p.block hlt hb
  unfold World.cell? at hc ⊢
  rw [this]; exact hc
theorem Far.blk {B : Nat} {w w1 : World} (h : Far B w w1) {g : Nat} {o : Obj} (hg : w.heap[g]? = some o) (hb : g ≠ B) : w1.heap[g]? = some o := (h.2.2.2.2 g (blk_lt hg) hb).trans hg
theorem Far.drewN {B : Nat} {w w1 : World} (h : Far B w w1) (m : Nat) : Far B w (w1.drewN m) := h
theorem list_far {w w1 : World} {B n : Nat} {A : Option Addr} {l : List S74} (hr : Kd.C k74 w A n l) (hf : Far B w w1) (hA : ∀ ad, A = some ad → ad.block ≠ B) : Kd.C k74 w1 A n l := by
  refine ⟨hr.1, hr.2.1, fun h0 => ?_⟩
  obtain ⟨ad, e, hc⟩ := hr.2.2 h0
  refine ⟨ad, e, fun j p hj => ?_⟩
  obtain ⟨cs, hs, hK, hcell⟩ := hc j p hj
  refine ⟨cs, hs, ?_, fun i u hu => hf.cell (hcell i u hu) (by rw [add_block]; exact hA ad e)⟩
  obtain rfl := k74_open hK
  exact k74_mk w1 p
/-- A part that is not as told. -/
def badPart (l : List S74) (a nx la : Int) : Prop := ((rd_T74 l a).f0 = 9 ∧ ¬ ((rd_T74 l nx).f0 = (rd_T74 l a).f2 ∧ (rd_T74 l nx).f1 = 0)) ∨ ((rd_T74 l a).f0 = 12 ∧ ¬ (wrap64 (la + 1) ≤ (rd_T74 l nx).f1 ∧ (rd_T74 l nx).f1 ≤ 1000))
instance (l : List S74) (a nx la : Int) : Decidable (badPart l a nx la) := by unfold badPart; infer_instance
mutual
def impl_tree_measure.l0 : Nat → List S74 → Int → Int → List Int → Int → Int → Int → Option (Int × List Int)
  | 0, _, _, _, _, _, _, _ => none
  | k + 1, l, a, dp, af, nx, la, i => if i < (rd_T74 l a).f4 then (if nx ≥ (l.length : Int) then some (-1, af) else (if 0 ≤ nx then (if badPart l a nx la then some (-1, af) else ((impl_tree_measure.f k l nx (wrap64 (dp + 1)) af).bind fun t => if t.1 < 0 then some (-1, t.2) else impl_tree_measure.l0 k l a dp t.2 t.1 (rd_T74 l nx).f1 (wrap64 (i + 1)))) else none)) else (if a < (af.length : Int) then some (nx, af.set (a : Int).toNat nx) else none)
def impl_tree_measure.f : Nat → List S74 → Int → Int → List Int → Option (Int × List Int)
  | 0, _, _, _, _ => none
  | k + 1, l, a, dp, af => if a ≥ (l.length : Int) then some (-1, af) else (if dp > 12 then some (-1, af) else (if 0 ≤ a then ((impl_nodeOk.f k (rd_T74 l a).f0 (rd_T74 l a).f1 (rd_T74 l a).f2 (rd_T74 l a).f3 (rd_T74 l a).f4).bind fun t => if t = true then impl_tree_measure.l0 k l a dp af (wrap64 (a + 1)) 0 0 else some (-1, af)) else none))
end
theorem cell_list {w w1 : World} {B : Nat} {A : Option Addr} {l : List S74} (hr : Kd.C k74 w A l.length l) (hf : Far B w w1) (hA : ∀ ad, A = some ad → ad.block ≠ B) (i : Int) (h0 : 0 ≤ i) (h1 : i < (l.length : Int)) :
    ∃ ad, A = some ad ∧ w1.cell? (ad.add (i.toNat * 5)) = some (.int .i64 (rd_T74 l i).f0) ∧ w1.cell? ⟨(ad.add (i.toNat * 5)).block, (ad.add (i.toNat * 5)).off + 1, none⟩ = some (.int .i64 (rd_T74 l i).f1) ∧ w1.cell? ⟨(ad.add (i.toNat * 5)).block, (ad.add (i.toNat * 5)).off + 2, none⟩ = some (.int .i64 (rd_T74 l i).f2) ∧ w1.cell? ⟨(ad.add (i.toNat * 5)).block, (ad.add (i.toNat * 5)).off + 3, none⟩ = some (.string (rd_T74 l i).f3) ∧ w1.cell? ⟨(ad.add (i.toNat * 5)).block, (ad.add (i.toNat * 5)).off + 4, none⟩ = some (.int .i64 (rd_T74 l i).f4) := by
  obtain ⟨ad, e, x0, x1, x2, x3, x4⟩ := at_T74 hr i h0 h1
  have hb : (ad.add (i.toNat * 5)).block ≠ B := by rw [add_block]; exact hA ad e
  exact ⟨ad, e, hf.cell x0 hb, hf.cell x1 hb, hf.cell x2 hb, hf.cell x3 hb, hf.cell x4 hb⟩
theorem own_far {w w1 : World} {B n c : Nat} {xs : List Int} (h : Kd.R (Kd.int .i64) 3 w 0 (fun k => k = B) (.slice (some ⟨B, 0, none⟩) n c) xs) (hb : Below w.heap.size w w1) : Kd.R (Kd.int .i64) 3 w1 0 (fun k => k = B) (.slice (some ⟨B, 0, none⟩) n c) xs := Kd.R_below h hb
theorem own_set {w : World} {B n c : Nat} {xs : List Int} (h : Kd.R (Kd.int .i64) 3 w 0 (fun k => k = B) (.slice (some ⟨B, 0, none⟩) n c) xs) (p : Addr) (u : Value) (hp : B ≠ p.block) : Kd.R (Kd.int .i64) 3 (w.setCell p u) 0 (fun k => k = B) (.slice (some ⟨B, 0, none⟩) n c) xs := Kd.R_far h (fun k hk => by rw [hk]; exact hp) u

set_option maxHeartbeats 40000000 in
set_option maxRecDepth 100000 in
theorem impl_tree_measure.calls (k : Nat) : ∀ (g B : Nat) (A : Option Addr) (c cB : Nat) (l : List S74) (a dp : Int) (af : List Int) (r : Int) (af' : List Int) (w : World)
    (n : Nat) (hn : af.length = n) (hBs : B < w.heap.size) (hg : w.heap[g]? = some (.cells #[.slice A l.length c, .slice (some ⟨B, 0, none⟩) n cB] 81 (0, 0))) (hgB : g ≠ B) (hA : ∀ ad, A = some ad → ad.block ≠ B) (hr : Kd.C k74 w A l.length l)
    (hO : Kd.R (Kd.int .i64) 3 w 0 (fun k => k = B) (.slice (some ⟨B, 0, none⟩) n cB) af) (h : impl_tree_measure.f k l a dp af = some (r, af')),
    Calls Try.prog 94 #[.pointer (some ⟨g, 0, none⟩), .int .i64 a, .int .i64 dp] w fun e w' => e = .returned (.int .i64 r) ∧ Far B w w' ∧ af'.length = n ∧ Kd.R (Kd.int .i64) 3 w' 0 (fun k => k = B) (.slice (some ⟨B, 0, none⟩) n cB) af' := by
  induction k using Nat.strongRecOn with
  | _ k ih =>
  intro g B A c cB l a dp af r af' w n hn hBs hg hgB hA hr hO h
  cases k with
  | zero => exact absurd h (by simp [impl_tree_measure.f])
  | succ k =>
  simp only [impl_tree_measure.f] at h
  have hu74 := Try.underlying74
  have HG := Aside0.mk hg
  have HR := Aside0.mk hr
  have HO := Aside0.mk hO
  have HA := Aside0.mk hA
  have HGB := Aside0.mk hgB
  have IH := Aside0.mk ih
  have HN := Aside0.mk hn
  have HBS := Aside0.mk hBs
  clear hn hBs
  clear hr hO hA hgB ih
  have hc0 : w.cell? ⟨g, 0, none⟩ = some (.slice A l.length c) := (blk_cell HG.out 0).trans rfl
  have hc1 : w.cell? ⟨g, 1, none⟩ = some (.slice (some ⟨B, 0, none⟩) n cB) := (blk_cell HG.out 1).trans rfl
  clear hg
  by_cases c1 : a ≥ (l.length : Int)
  · rw [if_pos c1] at h
    obtain ⟨rfl, rfl⟩ := Prod.mk.inj (Option.some.inj h)
    clear h
    have c1b : decide ((l.length : Int) ≤ a) = true := decide_eq_true c1
    clear c1
    go_enter Try.func94, Try.ntmps94
    go_wp2
    go_ret
    exact ⟨rfl, Far.refl _ _, (by first | exact trivial | exact HN.out), HO.out⟩
  rw [if_neg c1] at h
  have c1b : decide ((l.length : Int) ≤ a) = false := decide_eq_false c1
  by_cases c2 : dp > 12
  · rw [if_pos c2] at h
    obtain ⟨rfl, rfl⟩ := Prod.mk.inj (Option.some.inj h)
    clear h
    have c2b : decide (12 < dp) = true := decide_eq_true c2
    clear c1 c2
    go_enter Try.func94, Try.ntmps94
    go_wp2
    go_ret
    exact ⟨rfl, Far.refl _ _, (by first | exact trivial | exact HN.out), HO.out⟩
  rw [if_neg c2] at h
  have c2b : decide (12 < dp) = false := decide_eq_false c2
  by_cases c3 : 0 ≤ a
  case neg => rw [if_neg c3] at h; cases h
  rw [if_pos c3] at h
  have c3b : decide (0 ≤ a) = true := decide_eq_true c3
  have c4 : a < (l.length : Int) := by omega
  have c4b : decide (a < (l.length : Int)) = true := decide_eq_true c4
  obtain ⟨ad, eA, x0, x1, x2, x3, x4⟩ := cell_list HR.out (Far.refl B w) HA.out a c3 c4
  subst eA
  have C3 := Aside0.mk c3
  have C4 := Aside0.mk c4
  clear c1 c2
  have c3 := eq_true c3
  have c4 := eq_true c4
  replace h := Option.bind_eq_some_iff.mp h; obtain ⟨t, ht, h⟩ := h
  have HT := Aside0.mk ht
  clear ht
  cases t with
  | false =>
    rw [if_neg (by simp)] at h
    obtain ⟨rfl, rfl⟩ := Prod.mk.inj (Option.some.inj h)
    clear h
    go_enter Try.func94, Try.ntmps94
    go_wp2_with (go_at_call 109; (with_reducible refine (impl_nodeOk.calls k _ _ _ _ _ false _ HT.out).mono ?_); rintro e w10 ⟨rfl, hb⟩; have HB := Aside0.mk hb; clear hb)
    go_ret
    exact ⟨rfl, Far.of_below HB.out, (by first | exact trivial | exact HN.out), own_far HO.out HB.out⟩
  | true =>
  rw [if_pos rfl] at h
  have H' := Aside0.mk h
  clear h
  go_enter Try.func94, Try.ntmps94
  go_wp2_with (first | (go_at_call 109; (with_reducible refine (impl_nodeOk.calls k _ _ _ _ _ true _ HT.out).mono ?_); rintro e w10 ⟨rfl, hb⟩; have HB := Aside0.mk hb; clear hb; have hd0 : w10.cell? ⟨g, 0, none⟩ = some (.slice (some ad) l.length c) := (blk_cell (blk_below HG.out HB.out) 0).trans rfl; obtain ⟨ad', eA', y0, y1, y2, y3, y4⟩ := cell_list HR.out (Far.of_below HB.out) HA.out a C3.out C4.out; obtain rfl : ad = ad' := (by injection eA'); clear eA') | ((with_reducible refine gate_dst (N := 7) rfl ?_); refine box_event ?hg (N := 7) ?hd (cs := #[.int .i64 0, .int .i64 0, .int .i64 0, .string (⟨#[]⟩ : ByteArray), .int .i64 0]) (t := 74) ?hr ?_; (case hd => rfl); (case hg => rfl); (case hr => first | (go_simp; done) | (go_simp; rfl)); intro gb hgb w14 hbox hb2; have BK0 := Aside0.mk hbox; have HB2 := Aside0.mk hb2; have HGE := Aside0.mk hgb; clear hbox hb2 hgb; have hz0 : w14.cell? ⟨gb, 0, none⟩ = some (.int .i64 0) := (blk_cell BK0.out 0).trans rfl; have hz1 : w14.cell? ⟨gb, 1, none⟩ = some (.int .i64 0) := (blk_cell BK0.out 1).trans rfl; have hz2 : w14.cell? ⟨gb, 2, none⟩ = some (.int .i64 0) := (blk_cell BK0.out 2).trans rfl; have hz3 : w14.cell? ⟨gb, 3, none⟩ = some (.string (⟨#[]⟩ : ByteArray)) := (blk_cell BK0.out 3).trans rfl; have hz4 : w14.cell? ⟨gb, 4, none⟩ = some (.int .i64 0) := (blk_cell BK0.out 4).trans rfl; have hf0 := blk_frozen BK0.out 0; have hf1 := blk_frozen BK0.out 1; have hf2 := blk_frozen BK0.out 2; have hf3 := blk_frozen BK0.out 3; have hf4 := blk_frozen BK0.out 4))
  have HGN := Aside0.mk (show gb ≠ B from by (have h1_ := HGE.out; have h2_ := HB.out.size; have h3_ := HBS.out; omega))
  go_loopg [8, 9, 44] k (fun kq v8 v9 v44 w' => ∃ (nx la i : Int) (afc : List Int), v8 = .int .i64 nx ∧ v9 = .int .i64 la ∧ v44 = .int .i64 i ∧ Aside0 (impl_tree_measure.l0 kq l a dp afc nx la i = some (r, af')) ∧ Aside0 (kq ≤ k) ∧ Aside0 (w'.heap[gb]? = some (.cells #[.int .i64 ((rd_T74 l a).f0), .int .i64 ((rd_T74 l a).f1), .int .i64 ((rd_T74 l a).f2), .string ((rd_T74 l a).f3), .int .i64 ((rd_T74 l a).f4)] 74 (0, 0))) ∧ Aside0 (Far B w w') ∧ Aside0 (afc.length = n) ∧ Aside0 (Kd.R (Kd.int .i64) 3 w' 0 (fun k => k = B) (.slice (some ⟨B, 0, none⟩) n cB) afc))
  case atStart => exact ⟨wrap64 (a + 1), 0, 0, af, (by first | rfl | (simp; done) | (simp [*]; done)), (by first | rfl | (simp; done) | (simp [*]; done)), (by first | rfl | (simp; done) | (simp [*]; done)), H', ⟨Nat.le_refl _⟩, ⟨(by refine blk_put (cs := #[.int .i64 ((rd_T74 l a).f0), .int .i64 ((rd_T74 l a).f1), .int .i64 ((rd_T74 l a).f2), .string ((rd_T74 l a).f3), .int .i64 0]) ?_ 4 _ rfl; refine blk_put (cs := #[.int .i64 ((rd_T74 l a).f0), .int .i64 ((rd_T74 l a).f1), .int .i64 ((rd_T74 l a).f2), .string (⟨#[]⟩ : ByteArray), .int .i64 0]) ?_ 3 _ rfl; refine blk_put (cs := #[.int .i64 ((rd_T74 l a).f0), .int .i64 ((rd_T74 l a).f1), .int .i64 0, .string (⟨#[]⟩ : ByteArray), .int .i64 0]) ?_ 2 _ rfl; refine blk_put (cs := #[.int .i64 ((rd_T74 l a).f0), .int .i64 0, .int .i64 0, .string (⟨#[]⟩ : ByteArray), .int .i64 0]) ?_ 1 _ rfl; refine blk_put (cs := #[.int .i64 0, .int .i64 0, .int .i64 0, .string (⟨#[]⟩ : ByteArray), .int .i64 0]) ?_ 0 _ rfl; exact BK0.out)⟩, ⟨(Far.of_below HB.out).below (by repeat (first | (with_reducible first | exact HB2.out | refine below_set ?_ (Nat.le_of_eq HGE.out.symm) | apply pw_below_drewN) | exact HB2.out))⟩, HN, ⟨own_far (own_far HO.out HB.out) (by repeat (first | (with_reducible first | exact HB2.out | refine below_set ?_ (Nat.le_of_eq HGE.out.symm) | apply pw_below_drewN) | exact HB2.out))⟩⟩
  case round =>
    clear H'
    obtain ⟨nx, la, i, afc, rfl, rfl, rfl, HQ, HK2, BK, HF, HL, HO2⟩ := hrel
    cases gk with
    | zero => exact absurd HQ.out (by simp [impl_tree_measure.l0])
    | succ k2 =>
    have h := HQ.out
    clear HQ
    simp only [impl_tree_measure.l0] at h
    have hr0 : wr.cell? ⟨g, 0, none⟩ = some (.slice (some ad) l.length c) := (blk_cell (HF.out.blk HG.out HGB.out) 0).trans rfl
    have hr1 : wr.cell? ⟨g, 1, none⟩ = some (.slice (some ⟨B, 0, none⟩) n cB) := (blk_cell (HF.out.blk HG.out HGB.out) 1).trans rfl
    have hn0 : wr.cell? ⟨gb, 0, none⟩ = some (.int .i64 (rd_T74 l a).f0) := (blk_cell BK.out 0).trans rfl
    have hn2 : wr.cell? ⟨gb, 2, none⟩ = some (.int .i64 (rd_T74 l a).f2) := (blk_cell BK.out 2).trans rfl
    by_cases ci : i < (rd_T74 l a).f4
    case neg =>
      rw [if_neg ci] at h
      by_cases ca : a < (afc.length : Int)
      case neg => rw [if_neg ca] at h; cases h
      rw [if_pos ca] at h
      obtain ⟨rfl, rfl⟩ := Prod.mk.inj (Option.some.inj h)
      clear h
      have cib : decide (i < (rd_T74 l a).f4) = false := decide_eq_false ci
      have can : a < (n : Int) := by have := HL.out; omega
      obtain ⟨hs0, hs1⟩ := Kd.R_celln 0 HO2.out a C3.out can
      have canb : decide (a < (n : Int)) = true := decide_eq_true can
      have can := eq_true can
      clear ci ca
      go_wp2
      go_ret
      exact ⟨rfl, HF.out.set _ _ (.inl rfl), (by first | exact trivial | (rw [List.length_set]; exact HL.out)), (Kd.R_putg HO2.out a nx).1⟩
    rw [if_pos ci] at h
    have cib : decide (i < (rd_T74 l a).f4) = true := decide_eq_true ci
    clear ci
    by_cases cn : nx ≥ (l.length : Int)
    case pos =>
      rw [if_pos cn] at h
      obtain ⟨rfl, rfl⟩ := Prod.mk.inj (Option.some.inj h)
      clear h
      have cnb : decide ((l.length : Int) ≤ nx) = true := decide_eq_true cn
      clear cn
      go_wp2
      go_ret
      exact ⟨rfl, HF.out, (by first | exact trivial | exact HL.out), HO2.out⟩
    rw [if_neg cn] at h
    have cnb : decide ((l.length : Int) ≤ nx) = false := decide_eq_false cn
    by_cases d3 : 0 ≤ nx
    case neg => rw [if_neg d3] at h; cases h
    rw [if_pos d3] at h
    have d3b : decide (0 ≤ nx) = true := decide_eq_true d3
    have d4 : nx < (l.length : Int) := by omega
    have d4b : decide (nx < (l.length : Int)) = true := decide_eq_true d4
    obtain ⟨ad2, eA2, z0, z1, z2, z3, z4⟩ := cell_list HR.out HF.out HA.out nx d3 d4
    obtain rfl : ad = ad2 := (by injection eA2)
    clear eA2 cn
    have d3 := eq_true d3
    have d4 := eq_true d4
    by_cases q9 : (rd_T74 l a).f0 = 9
    · have q9b : (((rd_T74 l a).f0) == (9)) = true := beq_iff_eq.mpr q9
      have q9c : (((rd_T74 l a).f0) != (9)) = false := bne_eq_false_iff_eq.mpr q9
      have q12b : (((rd_T74 l a).f0) == 12) = false := beq_eq_false_iff_ne.mpr (by omega)
      by_cases q1 : (rd_T74 l nx).f0 = (rd_T74 l a).f2
      · have q1b : (((rd_T74 l nx).f0) == ((rd_T74 l a).f2)) = true := beq_iff_eq.mpr q1
        have q1c : (((rd_T74 l nx).f0) != ((rd_T74 l a).f2)) = false := bne_eq_false_iff_eq.mpr q1
        by_cases q2 : (rd_T74 l nx).f1 = 0
        · have q2b : (((rd_T74 l nx).f1) == (0)) = true := beq_iff_eq.mpr q2
          have q2c : (((rd_T74 l nx).f1) != (0)) = false := bne_eq_false_iff_eq.mpr q2
          have hneg : ¬ badPart l a nx la := by unfold badPart; omega
          clear q9 q1 q2
          rw [if_neg (show ¬ badPart l a nx la from hneg)] at h
          replace h := Option.bind_eq_some_iff.mp h; obtain ⟨⟨t1, af2⟩, hcall, h⟩ := h
          have HC := Aside0.mk hcall
          clear hcall
          simp only at h
          by_cases ct : t1 < 0
          · rw [if_pos ct] at h
            obtain ⟨rfl, rfl⟩ := Prod.mk.inj (Option.some.inj h)
            clear h
            have ctb : decide (t1 < 0) = true := decide_eq_true ct
            clear ct
            go_wp2_with (first | ((with_reducible refine gate_dst (N := 10) rfl ?_); refine box_event ?hg (N := 10) ?hd (cs := #[.int .i64 0, .int .i64 0, .int .i64 0, .string (⟨#[]⟩ : ByteArray), .int .i64 0]) (t := 74) ?hr ?_; (case hd => rfl); (case hg => rfl); (case hr => first | (go_simp; done) | (go_simp; rfl)); intro gb2 hgb2 w23 hbox hb2; have BK2 := Aside0.mk hbox; have HB3 := Aside0.mk hb2; have HGE3 := Aside0.mk (show wr.heap.size ≤ gb2 from by rw [hgb2]; exact Nat.le_refl _); have hne1 : gb ≠ gb2 := fun e_ => absurd (blk_lt BK.out) (by rw [e_, hgb2]; exact Nat.lt_irrefl _); have hne2 : gb2 ≠ gb := fun e_ => hne1 e_.symm; clear hbox hb2 hgb2; have hq0 : w23.cell? ⟨gb2, 0, none⟩ = some (.int .i64 0) := (blk_cell BK2.out 0).trans rfl; have hq1 : w23.cell? ⟨gb2, 1, none⟩ = some (.int .i64 0) := (blk_cell BK2.out 1).trans rfl; have hq2 : w23.cell? ⟨gb2, 2, none⟩ = some (.int .i64 0) := (blk_cell BK2.out 2).trans rfl; have hq3 : w23.cell? ⟨gb2, 3, none⟩ = some (.string (⟨#[]⟩ : ByteArray)) := (blk_cell BK2.out 3).trans rfl; have hq4 : w23.cell? ⟨gb2, 4, none⟩ = some (.int .i64 0) := (blk_cell BK2.out 4).trans rfl; have hu0 := blk_frozen BK2.out 0; have hu1 := blk_frozen BK2.out 1; have hu2 := blk_frozen BK2.out 2; have hu3 := blk_frozen BK2.out 3; have hu4 := blk_frozen BK2.out 4; have hm0 : w23.cell? ⟨gb, 0, none⟩ = some (.int .i64 (rd_T74 l a).f0) := (blk_cell (blk_below BK.out HB3.out) 0).trans rfl; have hm2 : w23.cell? ⟨gb, 2, none⟩ = some (.int .i64 (rd_T74 l a).f2) := (blk_cell (blk_below BK.out HB3.out) 2).trans rfl) | (go_at_call 94; (with_reducible refine (IH.out k2 (by have := HK2.out; omega) g B (some ad) c cB l nx (wrap64 (dp + 1)) afc t1 af2 _ n HL.out ?s1 ?s2 HGB.out HA.out ?s3 ?s4 HC.out).mono ?_); (case s1 => exact Nat.lt_of_lt_of_le HBS.out (HF.out.below (by repeat (first | (with_reducible first | exact HB3.out | refine below_set ?_ HGE3.out | apply pw_below_drewN) | exact HB3.out))).2.2.2.1); (case s2 => exact (HF.out.below (by repeat (first | (with_reducible first | exact HB3.out | refine below_set ?_ HGE3.out | apply pw_below_drewN) | exact HB3.out))).blk HG.out HGB.out); (case s3 => exact list_far HR.out (HF.out.below (by repeat (first | (with_reducible first | exact HB3.out | refine below_set ?_ HGE3.out | apply pw_below_drewN) | exact HB3.out))) HA.out); (case s4 => exact own_far HO2.out (by repeat (first | (with_reducible first | exact HB3.out | refine below_set ?_ HGE3.out | apply pw_below_drewN) | exact HB3.out))); rintro e w3 ⟨rfl, hfar, hlen, hO3⟩; have HF4 := Aside0.mk ((HF.out.below (by repeat (first | (with_reducible first | exact HB3.out | refine below_set ?_ HGE3.out | apply pw_below_drewN) | exact HB3.out))).trans hfar); have BK4 := Aside0.mk (hfar.blk (blk_below BK.out (by repeat (first | (with_reducible first | exact HB3.out | refine below_set ?_ HGE3.out | apply pw_below_drewN) | exact HB3.out))) HGN.out); have HL4 := Aside0.mk hlen; have HO4 := Aside0.mk hO3; clear hfar hlen hO3))
            go_ret
            exact ⟨rfl, HF4.out, (by first | exact trivial | exact HL4.out), HO4.out⟩
          · rw [if_neg ct] at h
            have H' := Aside0.mk h
            clear h
            have ctb : decide (t1 < 0) = false := decide_eq_false ct
            clear ct
            go_wp2_with (first | ((with_reducible refine gate_dst (N := 10) rfl ?_); refine box_event ?hg (N := 10) ?hd (cs := #[.int .i64 0, .int .i64 0, .int .i64 0, .string (⟨#[]⟩ : ByteArray), .int .i64 0]) (t := 74) ?hr ?_; (case hd => rfl); (case hg => rfl); (case hr => first | (go_simp; done) | (go_simp; rfl)); intro gb2 hgb2 w23 hbox hb2; have BK2 := Aside0.mk hbox; have HB3 := Aside0.mk hb2; have HGE3 := Aside0.mk (show wr.heap.size ≤ gb2 from by rw [hgb2]; exact Nat.le_refl _); have hne1 : gb ≠ gb2 := fun e_ => absurd (blk_lt BK.out) (by rw [e_, hgb2]; exact Nat.lt_irrefl _); have hne2 : gb2 ≠ gb := fun e_ => hne1 e_.symm; clear hbox hb2 hgb2; have hq0 : w23.cell? ⟨gb2, 0, none⟩ = some (.int .i64 0) := (blk_cell BK2.out 0).trans rfl; have hq1 : w23.cell? ⟨gb2, 1, none⟩ = some (.int .i64 0) := (blk_cell BK2.out 1).trans rfl; have hq2 : w23.cell? ⟨gb2, 2, none⟩ = some (.int .i64 0) := (blk_cell BK2.out 2).trans rfl; have hq3 : w23.cell? ⟨gb2, 3, none⟩ = some (.string (⟨#[]⟩ : ByteArray)) := (blk_cell BK2.out 3).trans rfl; have hq4 : w23.cell? ⟨gb2, 4, none⟩ = some (.int .i64 0) := (blk_cell BK2.out 4).trans rfl; have hu0 := blk_frozen BK2.out 0; have hu1 := blk_frozen BK2.out 1; have hu2 := blk_frozen BK2.out 2; have hu3 := blk_frozen BK2.out 3; have hu4 := blk_frozen BK2.out 4; have hm0 : w23.cell? ⟨gb, 0, none⟩ = some (.int .i64 (rd_T74 l a).f0) := (blk_cell (blk_below BK.out HB3.out) 0).trans rfl; have hm2 : w23.cell? ⟨gb, 2, none⟩ = some (.int .i64 (rd_T74 l a).f2) := (blk_cell (blk_below BK.out HB3.out) 2).trans rfl) | (go_at_call 94; (with_reducible refine (IH.out k2 (by have := HK2.out; omega) g B (some ad) c cB l nx (wrap64 (dp + 1)) afc t1 af2 _ n HL.out ?s1 ?s2 HGB.out HA.out ?s3 ?s4 HC.out).mono ?_); (case s1 => exact Nat.lt_of_lt_of_le HBS.out (HF.out.below (by repeat (first | (with_reducible first | exact HB3.out | refine below_set ?_ HGE3.out | apply pw_below_drewN) | exact HB3.out))).2.2.2.1); (case s2 => exact (HF.out.below (by repeat (first | (with_reducible first | exact HB3.out | refine below_set ?_ HGE3.out | apply pw_below_drewN) | exact HB3.out))).blk HG.out HGB.out); (case s3 => exact list_far HR.out (HF.out.below (by repeat (first | (with_reducible first | exact HB3.out | refine below_set ?_ HGE3.out | apply pw_below_drewN) | exact HB3.out))) HA.out); (case s4 => exact own_far HO2.out (by repeat (first | (with_reducible first | exact HB3.out | refine below_set ?_ HGE3.out | apply pw_below_drewN) | exact HB3.out))); rintro e w3 ⟨rfl, hfar, hlen, hO3⟩; have HF4 := Aside0.mk ((HF.out.below (by repeat (first | (with_reducible first | exact HB3.out | refine below_set ?_ HGE3.out | apply pw_below_drewN) | exact HB3.out))).trans hfar); have BK4 := Aside0.mk (hfar.blk (blk_below BK.out (by repeat (first | (with_reducible first | exact HB3.out | refine below_set ?_ HGE3.out | apply pw_below_drewN) | exact HB3.out))) HGN.out); have HL4 := Aside0.mk hlen; have HO4 := Aside0.mk hO3; clear hfar hlen hO3))
            go_roundg k2
            case measure => omega
            case rel => exact ⟨t1, (rd_T74 l nx).f1, wrap64 (i + 1), af2, (by first | rfl | (simp; done) | (simp [*]; done)), (by first | rfl | (simp; done) | (simp [*]; done)), (by first | rfl | (simp; done) | (simp [*]; done)), H', ⟨by have := HK2.out; omega⟩, BK4, HF4, HL4, HO4⟩
        · have q2b : (((rd_T74 l nx).f1) == (0)) = false := beq_eq_false_iff_ne.mpr q2
          have q2c : (((rd_T74 l nx).f1) != (0)) = true := bne_iff_ne.mpr q2
          have hneg : badPart l a nx la := by unfold badPart; omega
          clear q9 q1 q2
          rw [if_pos (show badPart l a nx la from hneg)] at h
          obtain ⟨rfl, rfl⟩ := Prod.mk.inj (Option.some.inj h)
          clear h
          go_wp2_with (first | ((with_reducible refine gate_dst (N := 10) rfl ?_); refine box_event ?hg (N := 10) ?hd (cs := #[.int .i64 0, .int .i64 0, .int .i64 0, .string (⟨#[]⟩ : ByteArray), .int .i64 0]) (t := 74) ?hr ?_; (case hd => rfl); (case hg => rfl); (case hr => first | (go_simp; done) | (go_simp; rfl)); intro gb2 hgb2 w23 hbox hb2; have BK2 := Aside0.mk hbox; have HB3 := Aside0.mk hb2; have HGE3 := Aside0.mk (show wr.heap.size ≤ gb2 from by rw [hgb2]; exact Nat.le_refl _); have hne1 : gb ≠ gb2 := fun e_ => absurd (blk_lt BK.out) (by rw [e_, hgb2]; exact Nat.lt_irrefl _); have hne2 : gb2 ≠ gb := fun e_ => hne1 e_.symm; clear hbox hb2 hgb2; have hq0 : w23.cell? ⟨gb2, 0, none⟩ = some (.int .i64 0) := (blk_cell BK2.out 0).trans rfl; have hq1 : w23.cell? ⟨gb2, 1, none⟩ = some (.int .i64 0) := (blk_cell BK2.out 1).trans rfl; have hq2 : w23.cell? ⟨gb2, 2, none⟩ = some (.int .i64 0) := (blk_cell BK2.out 2).trans rfl; have hq3 : w23.cell? ⟨gb2, 3, none⟩ = some (.string (⟨#[]⟩ : ByteArray)) := (blk_cell BK2.out 3).trans rfl; have hq4 : w23.cell? ⟨gb2, 4, none⟩ = some (.int .i64 0) := (blk_cell BK2.out 4).trans rfl; have hu0 := blk_frozen BK2.out 0; have hu1 := blk_frozen BK2.out 1; have hu2 := blk_frozen BK2.out 2; have hu3 := blk_frozen BK2.out 3; have hu4 := blk_frozen BK2.out 4; have hm0 : w23.cell? ⟨gb, 0, none⟩ = some (.int .i64 (rd_T74 l a).f0) := (blk_cell (blk_below BK.out HB3.out) 0).trans rfl; have hm2 : w23.cell? ⟨gb, 2, none⟩ = some (.int .i64 (rd_T74 l a).f2) := (blk_cell (blk_below BK.out HB3.out) 2).trans rfl))
          go_ret
          exact ⟨rfl, HF.out.below (by repeat (first | (with_reducible first | exact HB3.out | refine below_set ?_ HGE3.out | apply pw_below_drewN) | exact HB3.out)), (by first | exact trivial | exact HL.out), own_far HO2.out (by repeat (first | (with_reducible first | exact HB3.out | refine below_set ?_ HGE3.out | apply pw_below_drewN) | exact HB3.out))⟩
      · have q1b : (((rd_T74 l nx).f0) == ((rd_T74 l a).f2)) = false := beq_eq_false_iff_ne.mpr q1
        have q1c : (((rd_T74 l nx).f0) != ((rd_T74 l a).f2)) = true := bne_iff_ne.mpr q1
        have hneg : badPart l a nx la := by unfold badPart; omega
        clear q9 q1
        rw [if_pos (show badPart l a nx la from hneg)] at h
        obtain ⟨rfl, rfl⟩ := Prod.mk.inj (Option.some.inj h)
        clear h
        go_wp2_with (first | ((with_reducible refine gate_dst (N := 10) rfl ?_); refine box_event ?hg (N := 10) ?hd (cs := #[.int .i64 0, .int .i64 0, .int .i64 0, .string (⟨#[]⟩ : ByteArray), .int .i64 0]) (t := 74) ?hr ?_; (case hd => rfl); (case hg => rfl); (case hr => first | (go_simp; done) | (go_simp; rfl)); intro gb2 hgb2 w23 hbox hb2; have BK2 := Aside0.mk hbox; have HB3 := Aside0.mk hb2; have HGE3 := Aside0.mk (show wr.heap.size ≤ gb2 from by rw [hgb2]; exact Nat.le_refl _); have hne1 : gb ≠ gb2 := fun e_ => absurd (blk_lt BK.out) (by rw [e_, hgb2]; exact Nat.lt_irrefl _); have hne2 : gb2 ≠ gb := fun e_ => hne1 e_.symm; clear hbox hb2 hgb2; have hq0 : w23.cell? ⟨gb2, 0, none⟩ = some (.int .i64 0) := (blk_cell BK2.out 0).trans rfl; have hq1 : w23.cell? ⟨gb2, 1, none⟩ = some (.int .i64 0) := (blk_cell BK2.out 1).trans rfl; have hq2 : w23.cell? ⟨gb2, 2, none⟩ = some (.int .i64 0) := (blk_cell BK2.out 2).trans rfl; have hq3 : w23.cell? ⟨gb2, 3, none⟩ = some (.string (⟨#[]⟩ : ByteArray)) := (blk_cell BK2.out 3).trans rfl; have hq4 : w23.cell? ⟨gb2, 4, none⟩ = some (.int .i64 0) := (blk_cell BK2.out 4).trans rfl; have hu0 := blk_frozen BK2.out 0; have hu1 := blk_frozen BK2.out 1; have hu2 := blk_frozen BK2.out 2; have hu3 := blk_frozen BK2.out 3; have hu4 := blk_frozen BK2.out 4; have hm0 : w23.cell? ⟨gb, 0, none⟩ = some (.int .i64 (rd_T74 l a).f0) := (blk_cell (blk_below BK.out HB3.out) 0).trans rfl; have hm2 : w23.cell? ⟨gb, 2, none⟩ = some (.int .i64 (rd_T74 l a).f2) := (blk_cell (blk_below BK.out HB3.out) 2).trans rfl))
        go_ret
        exact ⟨rfl, HF.out.below (by repeat (first | (with_reducible first | exact HB3.out | refine below_set ?_ HGE3.out | apply pw_below_drewN) | exact HB3.out)), (by first | exact trivial | exact HL.out), own_far HO2.out (by repeat (first | (with_reducible first | exact HB3.out | refine below_set ?_ HGE3.out | apply pw_below_drewN) | exact HB3.out))⟩
    · have q9b : (((rd_T74 l a).f0) == (9)) = false := beq_eq_false_iff_ne.mpr q9
      have q9c : (((rd_T74 l a).f0) != (9)) = true := bne_iff_ne.mpr q9
      by_cases q12 : (rd_T74 l a).f0 = 12
      · have q12b : (((rd_T74 l a).f0) == (12)) = true := beq_iff_eq.mpr q12
        by_cases qw : wrap64 (la + 1) ≤ (rd_T74 l nx).f1 ∧ (rd_T74 l nx).f1 ≤ 1000
        · have HWI := Aside0.mk (show impl_within.f ((rd_T74 l nx).f1) (wrap64 (la + 1)) 1000 = some true from by unfold impl_within.f; rw [if_pos qw.1, decide_eq_true qw.2])
          have hneg : ¬ badPart l a nx la := by unfold badPart; omega
          clear q9 q12 qw
          rw [if_neg (show ¬ badPart l a nx la from hneg)] at h
          replace h := Option.bind_eq_some_iff.mp h; obtain ⟨⟨t1, af2⟩, hcall, h⟩ := h
          have HC := Aside0.mk hcall
          clear hcall
          simp only at h
          by_cases ct : t1 < 0
          · rw [if_pos ct] at h
            obtain ⟨rfl, rfl⟩ := Prod.mk.inj (Option.some.inj h)
            clear h
            have ctb : decide (t1 < 0) = true := decide_eq_true ct
            clear ct
            go_wp2_with (first | ((with_reducible refine gate_dst (N := 10) rfl ?_); refine box_event ?hg (N := 10) ?hd (cs := #[.int .i64 0, .int .i64 0, .int .i64 0, .string (⟨#[]⟩ : ByteArray), .int .i64 0]) (t := 74) ?hr ?_; (case hd => rfl); (case hg => rfl); (case hr => first | (go_simp; done) | (go_simp; rfl)); intro gb2 hgb2 w23 hbox hb2; have BK2 := Aside0.mk hbox; have HB3 := Aside0.mk hb2; have HGE3 := Aside0.mk (show wr.heap.size ≤ gb2 from by rw [hgb2]; exact Nat.le_refl _); have hne1 : gb ≠ gb2 := fun e_ => absurd (blk_lt BK.out) (by rw [e_, hgb2]; exact Nat.lt_irrefl _); have hne2 : gb2 ≠ gb := fun e_ => hne1 e_.symm; clear hbox hb2 hgb2; have hq0 : w23.cell? ⟨gb2, 0, none⟩ = some (.int .i64 0) := (blk_cell BK2.out 0).trans rfl; have hq1 : w23.cell? ⟨gb2, 1, none⟩ = some (.int .i64 0) := (blk_cell BK2.out 1).trans rfl; have hq2 : w23.cell? ⟨gb2, 2, none⟩ = some (.int .i64 0) := (blk_cell BK2.out 2).trans rfl; have hq3 : w23.cell? ⟨gb2, 3, none⟩ = some (.string (⟨#[]⟩ : ByteArray)) := (blk_cell BK2.out 3).trans rfl; have hq4 : w23.cell? ⟨gb2, 4, none⟩ = some (.int .i64 0) := (blk_cell BK2.out 4).trans rfl; have hu0 := blk_frozen BK2.out 0; have hu1 := blk_frozen BK2.out 1; have hu2 := blk_frozen BK2.out 2; have hu3 := blk_frozen BK2.out 3; have hu4 := blk_frozen BK2.out 4; have hm0 : w23.cell? ⟨gb, 0, none⟩ = some (.int .i64 (rd_T74 l a).f0) := (blk_cell (blk_below BK.out HB3.out) 0).trans rfl; have hm2 : w23.cell? ⟨gb, 2, none⟩ = some (.int .i64 (rd_T74 l a).f2) := (blk_cell (blk_below BK.out HB3.out) 2).trans rfl) | (go_at_call 62; (with_reducible refine (impl_within.calls _ _ _ true _ HWI.out).mono ?_); rintro e w24 ⟨rfl, ⟨nd, rfl⟩⟩; (try first | exact ⟨rfl, _, World.drewN_drewN _ _ _⟩)) | (go_at_call 94; (with_reducible refine (IH.out k2 (by have := HK2.out; omega) g B (some ad) c cB l nx (wrap64 (dp + 1)) afc t1 af2 _ n HL.out ?s1 ?s2 HGB.out HA.out ?s3 ?s4 HC.out).mono ?_); (case s1 => exact Nat.lt_of_lt_of_le HBS.out (HF.out.below (by repeat (first | (with_reducible first | exact HB3.out | refine below_set ?_ HGE3.out | apply pw_below_drewN) | exact HB3.out))).2.2.2.1); (case s2 => exact (HF.out.below (by repeat (first | (with_reducible first | exact HB3.out | refine below_set ?_ HGE3.out | apply pw_below_drewN) | exact HB3.out))).blk HG.out HGB.out); (case s3 => exact list_far HR.out (HF.out.below (by repeat (first | (with_reducible first | exact HB3.out | refine below_set ?_ HGE3.out | apply pw_below_drewN) | exact HB3.out))) HA.out); (case s4 => exact own_far HO2.out (by repeat (first | (with_reducible first | exact HB3.out | refine below_set ?_ HGE3.out | apply pw_below_drewN) | exact HB3.out))); rintro e w3 ⟨rfl, hfar, hlen, hO3⟩; have HF4 := Aside0.mk ((HF.out.below (by repeat (first | (with_reducible first | exact HB3.out | refine below_set ?_ HGE3.out | apply pw_below_drewN) | exact HB3.out))).trans hfar); have BK4 := Aside0.mk (hfar.blk (blk_below BK.out (by repeat (first | (with_reducible first | exact HB3.out | refine below_set ?_ HGE3.out | apply pw_below_drewN) | exact HB3.out))) HGN.out); have HL4 := Aside0.mk hlen; have HO4 := Aside0.mk hO3; clear hfar hlen hO3))
            go_ret
            exact ⟨rfl, HF4.out, (by first | exact trivial | exact HL4.out), HO4.out⟩
          · rw [if_neg ct] at h
            have H' := Aside0.mk h
            clear h
            have ctb : decide (t1 < 0) = false := decide_eq_false ct
            clear ct
            go_wp2_with (first | ((with_reducible refine gate_dst (N := 10) rfl ?_); refine box_event ?hg (N := 10) ?hd (cs := #[.int .i64 0, .int .i64 0, .int .i64 0, .string (⟨#[]⟩ : ByteArray), .int .i64 0]) (t := 74) ?hr ?_; (case hd => rfl); (case hg => rfl); (case hr => first | (go_simp; done) | (go_simp; rfl)); intro gb2 hgb2 w23 hbox hb2; have BK2 := Aside0.mk hbox; have HB3 := Aside0.mk hb2; have HGE3 := Aside0.mk (show wr.heap.size ≤ gb2 from by rw [hgb2]; exact Nat.le_refl _); have hne1 : gb ≠ gb2 := fun e_ => absurd (blk_lt BK.out) (by rw [e_, hgb2]; exact Nat.lt_irrefl _); have hne2 : gb2 ≠ gb := fun e_ => hne1 e_.symm; clear hbox hb2 hgb2; have hq0 : w23.cell? ⟨gb2, 0, none⟩ = some (.int .i64 0) := (blk_cell BK2.out 0).trans rfl; have hq1 : w23.cell? ⟨gb2, 1, none⟩ = some (.int .i64 0) := (blk_cell BK2.out 1).trans rfl; have hq2 : w23.cell? ⟨gb2, 2, none⟩ = some (.int .i64 0) := (blk_cell BK2.out 2).trans rfl; have hq3 : w23.cell? ⟨gb2, 3, none⟩ = some (.string (⟨#[]⟩ : ByteArray)) := (blk_cell BK2.out 3).trans rfl; have hq4 : w23.cell? ⟨gb2, 4, none⟩ = some (.int .i64 0) := (blk_cell BK2.out 4).trans rfl; have hu0 := blk_frozen BK2.out 0; have hu1 := blk_frozen BK2.out 1; have hu2 := blk_frozen BK2.out 2; have hu3 := blk_frozen BK2.out 3; have hu4 := blk_frozen BK2.out 4; have hm0 : w23.cell? ⟨gb, 0, none⟩ = some (.int .i64 (rd_T74 l a).f0) := (blk_cell (blk_below BK.out HB3.out) 0).trans rfl; have hm2 : w23.cell? ⟨gb, 2, none⟩ = some (.int .i64 (rd_T74 l a).f2) := (blk_cell (blk_below BK.out HB3.out) 2).trans rfl) | (go_at_call 62; (with_reducible refine (impl_within.calls _ _ _ true _ HWI.out).mono ?_); rintro e w24 ⟨rfl, ⟨nd, rfl⟩⟩; (try first | exact ⟨rfl, _, World.drewN_drewN _ _ _⟩)) | (go_at_call 94; (with_reducible refine (IH.out k2 (by have := HK2.out; omega) g B (some ad) c cB l nx (wrap64 (dp + 1)) afc t1 af2 _ n HL.out ?s1 ?s2 HGB.out HA.out ?s3 ?s4 HC.out).mono ?_); (case s1 => exact Nat.lt_of_lt_of_le HBS.out (HF.out.below (by repeat (first | (with_reducible first | exact HB3.out | refine below_set ?_ HGE3.out | apply pw_below_drewN) | exact HB3.out))).2.2.2.1); (case s2 => exact (HF.out.below (by repeat (first | (with_reducible first | exact HB3.out | refine below_set ?_ HGE3.out | apply pw_below_drewN) | exact HB3.out))).blk HG.out HGB.out); (case s3 => exact list_far HR.out (HF.out.below (by repeat (first | (with_reducible first | exact HB3.out | refine below_set ?_ HGE3.out | apply pw_below_drewN) | exact HB3.out))) HA.out); (case s4 => exact own_far HO2.out (by repeat (first | (with_reducible first | exact HB3.out | refine below_set ?_ HGE3.out | apply pw_below_drewN) | exact HB3.out))); rintro e w3 ⟨rfl, hfar, hlen, hO3⟩; have HF4 := Aside0.mk ((HF.out.below (by repeat (first | (with_reducible first | exact HB3.out | refine below_set ?_ HGE3.out | apply pw_below_drewN) | exact HB3.out))).trans hfar); have BK4 := Aside0.mk (hfar.blk (blk_below BK.out (by repeat (first | (with_reducible first | exact HB3.out | refine below_set ?_ HGE3.out | apply pw_below_drewN) | exact HB3.out))) HGN.out); have HL4 := Aside0.mk hlen; have HO4 := Aside0.mk hO3; clear hfar hlen hO3))
            go_roundg k2
            case measure => omega
            case rel => exact ⟨t1, (rd_T74 l nx).f1, wrap64 (i + 1), af2, (by first | rfl | (simp; done) | (simp [*]; done)), (by first | rfl | (simp; done) | (simp [*]; done)), (by first | rfl | (simp; done) | (simp [*]; done)), H', ⟨by have := HK2.out; omega⟩, BK4, HF4, HL4, HO4⟩
        · have HWI := Aside0.mk (show impl_within.f ((rd_T74 l nx).f1) (wrap64 (la + 1)) 1000 = some false from by unfold impl_within.f; split; (rw [decide_eq_false (fun h_ => qw ⟨by omega, h_⟩)]); rfl)
          have hneg : badPart l a nx la := by unfold badPart; omega
          clear q9 q12 qw
          rw [if_pos (show badPart l a nx la from hneg)] at h
          obtain ⟨rfl, rfl⟩ := Prod.mk.inj (Option.some.inj h)
          clear h
          go_wp2_with (first | ((with_reducible refine gate_dst (N := 10) rfl ?_); refine box_event ?hg (N := 10) ?hd (cs := #[.int .i64 0, .int .i64 0, .int .i64 0, .string (⟨#[]⟩ : ByteArray), .int .i64 0]) (t := 74) ?hr ?_; (case hd => rfl); (case hg => rfl); (case hr => first | (go_simp; done) | (go_simp; rfl)); intro gb2 hgb2 w23 hbox hb2; have BK2 := Aside0.mk hbox; have HB3 := Aside0.mk hb2; have HGE3 := Aside0.mk (show wr.heap.size ≤ gb2 from by rw [hgb2]; exact Nat.le_refl _); have hne1 : gb ≠ gb2 := fun e_ => absurd (blk_lt BK.out) (by rw [e_, hgb2]; exact Nat.lt_irrefl _); have hne2 : gb2 ≠ gb := fun e_ => hne1 e_.symm; clear hbox hb2 hgb2; have hq0 : w23.cell? ⟨gb2, 0, none⟩ = some (.int .i64 0) := (blk_cell BK2.out 0).trans rfl; have hq1 : w23.cell? ⟨gb2, 1, none⟩ = some (.int .i64 0) := (blk_cell BK2.out 1).trans rfl; have hq2 : w23.cell? ⟨gb2, 2, none⟩ = some (.int .i64 0) := (blk_cell BK2.out 2).trans rfl; have hq3 : w23.cell? ⟨gb2, 3, none⟩ = some (.string (⟨#[]⟩ : ByteArray)) := (blk_cell BK2.out 3).trans rfl; have hq4 : w23.cell? ⟨gb2, 4, none⟩ = some (.int .i64 0) := (blk_cell BK2.out 4).trans rfl; have hu0 := blk_frozen BK2.out 0; have hu1 := blk_frozen BK2.out 1; have hu2 := blk_frozen BK2.out 2; have hu3 := blk_frozen BK2.out 3; have hu4 := blk_frozen BK2.out 4; have hm0 : w23.cell? ⟨gb, 0, none⟩ = some (.int .i64 (rd_T74 l a).f0) := (blk_cell (blk_below BK.out HB3.out) 0).trans rfl; have hm2 : w23.cell? ⟨gb, 2, none⟩ = some (.int .i64 (rd_T74 l a).f2) := (blk_cell (blk_below BK.out HB3.out) 2).trans rfl) | (go_at_call 62; (with_reducible refine (impl_within.calls _ _ _ false _ HWI.out).mono ?_); rintro e w24 ⟨rfl, ⟨nd, rfl⟩⟩; (try first | exact ⟨rfl, _, World.drewN_drewN _ _ _⟩)))
          go_ret
          exact ⟨rfl, HF.out.below (by repeat (first | (with_reducible first | exact HB3.out | refine below_set ?_ HGE3.out | apply pw_below_drewN) | exact HB3.out)), (by first | exact trivial | exact HL.out), own_far HO2.out (by repeat (first | (with_reducible first | exact HB3.out | refine below_set ?_ HGE3.out | apply pw_below_drewN) | exact HB3.out))⟩
      · have q12b : (((rd_T74 l a).f0) == (12)) = false := beq_eq_false_iff_ne.mpr q12
        have hneg : ¬ badPart l a nx la := by unfold badPart; omega
        clear q9 q12
        rw [if_neg (show ¬ badPart l a nx la from hneg)] at h
        replace h := Option.bind_eq_some_iff.mp h; obtain ⟨⟨t1, af2⟩, hcall, h⟩ := h
        have HC := Aside0.mk hcall
        clear hcall
        simp only at h
        by_cases ct : t1 < 0
        · rw [if_pos ct] at h
          obtain ⟨rfl, rfl⟩ := Prod.mk.inj (Option.some.inj h)
          clear h
          have ctb : decide (t1 < 0) = true := decide_eq_true ct
          clear ct
          go_wp2_with (first | ((with_reducible refine gate_dst (N := 10) rfl ?_); refine box_event ?hg (N := 10) ?hd (cs := #[.int .i64 0, .int .i64 0, .int .i64 0, .string (⟨#[]⟩ : ByteArray), .int .i64 0]) (t := 74) ?hr ?_; (case hd => rfl); (case hg => rfl); (case hr => first | (go_simp; done) | (go_simp; rfl)); intro gb2 hgb2 w23 hbox hb2; have BK2 := Aside0.mk hbox; have HB3 := Aside0.mk hb2; have HGE3 := Aside0.mk (show wr.heap.size ≤ gb2 from by rw [hgb2]; exact Nat.le_refl _); have hne1 : gb ≠ gb2 := fun e_ => absurd (blk_lt BK.out) (by rw [e_, hgb2]; exact Nat.lt_irrefl _); have hne2 : gb2 ≠ gb := fun e_ => hne1 e_.symm; clear hbox hb2 hgb2; have hq0 : w23.cell? ⟨gb2, 0, none⟩ = some (.int .i64 0) := (blk_cell BK2.out 0).trans rfl; have hq1 : w23.cell? ⟨gb2, 1, none⟩ = some (.int .i64 0) := (blk_cell BK2.out 1).trans rfl; have hq2 : w23.cell? ⟨gb2, 2, none⟩ = some (.int .i64 0) := (blk_cell BK2.out 2).trans rfl; have hq3 : w23.cell? ⟨gb2, 3, none⟩ = some (.string (⟨#[]⟩ : ByteArray)) := (blk_cell BK2.out 3).trans rfl; have hq4 : w23.cell? ⟨gb2, 4, none⟩ = some (.int .i64 0) := (blk_cell BK2.out 4).trans rfl; have hu0 := blk_frozen BK2.out 0; have hu1 := blk_frozen BK2.out 1; have hu2 := blk_frozen BK2.out 2; have hu3 := blk_frozen BK2.out 3; have hu4 := blk_frozen BK2.out 4; have hm0 : w23.cell? ⟨gb, 0, none⟩ = some (.int .i64 (rd_T74 l a).f0) := (blk_cell (blk_below BK.out HB3.out) 0).trans rfl; have hm2 : w23.cell? ⟨gb, 2, none⟩ = some (.int .i64 (rd_T74 l a).f2) := (blk_cell (blk_below BK.out HB3.out) 2).trans rfl) | (go_at_call 94; (with_reducible refine (IH.out k2 (by have := HK2.out; omega) g B (some ad) c cB l nx (wrap64 (dp + 1)) afc t1 af2 _ n HL.out ?s1 ?s2 HGB.out HA.out ?s3 ?s4 HC.out).mono ?_); (case s1 => exact Nat.lt_of_lt_of_le HBS.out (HF.out.below (by repeat (first | (with_reducible first | exact HB3.out | refine below_set ?_ HGE3.out | apply pw_below_drewN) | exact HB3.out))).2.2.2.1); (case s2 => exact (HF.out.below (by repeat (first | (with_reducible first | exact HB3.out | refine below_set ?_ HGE3.out | apply pw_below_drewN) | exact HB3.out))).blk HG.out HGB.out); (case s3 => exact list_far HR.out (HF.out.below (by repeat (first | (with_reducible first | exact HB3.out | refine below_set ?_ HGE3.out | apply pw_below_drewN) | exact HB3.out))) HA.out); (case s4 => exact own_far HO2.out (by repeat (first | (with_reducible first | exact HB3.out | refine below_set ?_ HGE3.out | apply pw_below_drewN) | exact HB3.out))); rintro e w3 ⟨rfl, hfar, hlen, hO3⟩; have HF4 := Aside0.mk ((HF.out.below (by repeat (first | (with_reducible first | exact HB3.out | refine below_set ?_ HGE3.out | apply pw_below_drewN) | exact HB3.out))).trans hfar); have BK4 := Aside0.mk (hfar.blk (blk_below BK.out (by repeat (first | (with_reducible first | exact HB3.out | refine below_set ?_ HGE3.out | apply pw_below_drewN) | exact HB3.out))) HGN.out); have HL4 := Aside0.mk hlen; have HO4 := Aside0.mk hO3; clear hfar hlen hO3))
          go_ret
          exact ⟨rfl, HF4.out, (by first | exact trivial | exact HL4.out), HO4.out⟩
        · rw [if_neg ct] at h
          have H' := Aside0.mk h
          clear h
          have ctb : decide (t1 < 0) = false := decide_eq_false ct
          clear ct
          go_wp2_with (first | ((with_reducible refine gate_dst (N := 10) rfl ?_); refine box_event ?hg (N := 10) ?hd (cs := #[.int .i64 0, .int .i64 0, .int .i64 0, .string (⟨#[]⟩ : ByteArray), .int .i64 0]) (t := 74) ?hr ?_; (case hd => rfl); (case hg => rfl); (case hr => first | (go_simp; done) | (go_simp; rfl)); intro gb2 hgb2 w23 hbox hb2; have BK2 := Aside0.mk hbox; have HB3 := Aside0.mk hb2; have HGE3 := Aside0.mk (show wr.heap.size ≤ gb2 from by rw [hgb2]; exact Nat.le_refl _); have hne1 : gb ≠ gb2 := fun e_ => absurd (blk_lt BK.out) (by rw [e_, hgb2]; exact Nat.lt_irrefl _); have hne2 : gb2 ≠ gb := fun e_ => hne1 e_.symm; clear hbox hb2 hgb2; have hq0 : w23.cell? ⟨gb2, 0, none⟩ = some (.int .i64 0) := (blk_cell BK2.out 0).trans rfl; have hq1 : w23.cell? ⟨gb2, 1, none⟩ = some (.int .i64 0) := (blk_cell BK2.out 1).trans rfl; have hq2 : w23.cell? ⟨gb2, 2, none⟩ = some (.int .i64 0) := (blk_cell BK2.out 2).trans rfl; have hq3 : w23.cell? ⟨gb2, 3, none⟩ = some (.string (⟨#[]⟩ : ByteArray)) := (blk_cell BK2.out 3).trans rfl; have hq4 : w23.cell? ⟨gb2, 4, none⟩ = some (.int .i64 0) := (blk_cell BK2.out 4).trans rfl; have hu0 := blk_frozen BK2.out 0; have hu1 := blk_frozen BK2.out 1; have hu2 := blk_frozen BK2.out 2; have hu3 := blk_frozen BK2.out 3; have hu4 := blk_frozen BK2.out 4; have hm0 : w23.cell? ⟨gb, 0, none⟩ = some (.int .i64 (rd_T74 l a).f0) := (blk_cell (blk_below BK.out HB3.out) 0).trans rfl; have hm2 : w23.cell? ⟨gb, 2, none⟩ = some (.int .i64 (rd_T74 l a).f2) := (blk_cell (blk_below BK.out HB3.out) 2).trans rfl) | (go_at_call 94; (with_reducible refine (IH.out k2 (by have := HK2.out; omega) g B (some ad) c cB l nx (wrap64 (dp + 1)) afc t1 af2 _ n HL.out ?s1 ?s2 HGB.out HA.out ?s3 ?s4 HC.out).mono ?_); (case s1 => exact Nat.lt_of_lt_of_le HBS.out (HF.out.below (by repeat (first | (with_reducible first | exact HB3.out | refine below_set ?_ HGE3.out | apply pw_below_drewN) | exact HB3.out))).2.2.2.1); (case s2 => exact (HF.out.below (by repeat (first | (with_reducible first | exact HB3.out | refine below_set ?_ HGE3.out | apply pw_below_drewN) | exact HB3.out))).blk HG.out HGB.out); (case s3 => exact list_far HR.out (HF.out.below (by repeat (first | (with_reducible first | exact HB3.out | refine below_set ?_ HGE3.out | apply pw_below_drewN) | exact HB3.out))) HA.out); (case s4 => exact own_far HO2.out (by repeat (first | (with_reducible first | exact HB3.out | refine below_set ?_ HGE3.out | apply pw_below_drewN) | exact HB3.out))); rintro e w3 ⟨rfl, hfar, hlen, hO3⟩; have HF4 := Aside0.mk ((HF.out.below (by repeat (first | (with_reducible first | exact HB3.out | refine below_set ?_ HGE3.out | apply pw_below_drewN) | exact HB3.out))).trans hfar); have BK4 := Aside0.mk (hfar.blk (blk_below BK.out (by repeat (first | (with_reducible first | exact HB3.out | refine below_set ?_ HGE3.out | apply pw_below_drewN) | exact HB3.out))) HGN.out); have HL4 := Aside0.mk hlen; have HO4 := Aside0.mk hO3; clear hfar hlen hO3))
          go_roundg k2
          case measure => omega
          case rel => exact ⟨t1, (rd_T74 l nx).f1, wrap64 (i + 1), af2, (by first | rfl | (simp; done) | (simp [*]; done)), (by first | rfl | (simp; done) | (simp [*]; done)), (by first | rfl | (simp; done) | (simp [*]; done)), H', ⟨by have := HK2.out; omega⟩, BK4, HF4, HL4, HO4⟩

theorem impl_tree_measure.mono_l : ∀ k, (∀ l a dp af, LeO (impl_tree_measure.f k l a dp af) (impl_tree_measure.f (k + 1) l a dp af)) ∧ (∀ l a dp af nx la i, LeO (impl_tree_measure.l0 k l a dp af nx la i) (impl_tree_measure.l0 (k + 1) l a dp af nx la i))
  | 0 => ⟨fun _ _ _ _ => by unfold impl_tree_measure.f; exact LeO.none _, fun _ _ _ _ _ _ _ => by unfold impl_tree_measure.l0; exact LeO.none _⟩
  | k + 1 => by
    obtain ⟨ih0, ih1⟩ := impl_tree_measure.mono_l k
    refine ⟨fun l a dp af => ?_, fun l a dp af nx la i => ?_⟩
    · unfold impl_tree_measure.f
      repeat' first
        | (with_reducible exact ih1 _ _ _ _ _ _ _)
        | (with_reducible exact impl_nodeOk.mono _ _ _ _ _ _)
        | (with_reducible exact LeO.refl _)
        | refine LeO.ite ?_ ?_
        | refine LeO.bind ?_ (fun _ => ?_)
    · unfold impl_tree_measure.l0
      repeat' first
        | (with_reducible exact ih0 _ _ _ _)
        | (with_reducible exact ih1 _ _ _ _ _ _ _)
        | (with_reducible exact LeO.refl _)
        | refine LeO.ite ?_ ?_
        | refine LeO.bind ?_ (fun _ => ?_)

/-! ### impl_treeOf: function 69 -/
def impl_treeOf.f (k : Nat) (l : List S74) : Option (Bool × List Int) := if 1 ≤ l.length ∧ l.length ≤ 1500 then (if (rd_T74 l 0).f0 = 12 then (if (rd_T74 l 0).f1 = 0 then ((impl_tree_measure.f k l 0 1 (List.replicate l.length 0)).bind fun t => if t.1 = (l.length : Int) then some (true, t.2) else some (false, [])) else some (false, [])) else some (false, [])) else some (false, [])
theorem tinfo3 : (Try.prog.info? 3).map (fun i => (i.zero, i.size, i.bytes)) = some (some (.int .i64 0), 1, 8) := by kernel_rfl
theorem below_zero (w : World) : Below 0 w w := Below.refl 0 w
theorem below_drewN_ (w : World) (m : Nat) : Below w.heap.size w (w.drewN m) := pw_below_drewN (Below.refl _ w) m
theorem below_join {w w1 w2 : World} (h : Below w.heap.size w w1) (k : Below w1.heap.size w1 w2) : Below w.heap.size w w2 := below_step h k
theorem below_of_grown {w w1 : World} (h : w.grownBy w1 none) : Below w.heap.size w w1 := ⟨h.os, h.tape, h.output, h.size, fun i hi => h.block i hi (by simp)⟩
theorem own_shape {w : World} {B : Nat} {v : Value} {xs : List Int} (h : Kd.R (Kd.int .i64) 3 w 0 (fun k => k = B) v xs) (hx : xs ≠ []) : ∃ cB, v = .slice (some ⟨B, 0, none⟩) xs.length cB := by
  obtain ⟨h0, inner, ho, hr⟩ := h
  rcases ho.2 with ⟨rfl, hn⟩ | ⟨g, cap, cur, rfl, -⟩
  · exact absurd (List.length_eq_zero_iff.mp hn) hx
  · have := h0 g rfl
    subst this
    exact ⟨cap, rfl⟩
theorem sz_of_own {w : World} {B n c : Nat} {xs : List Int} (h : Kd.R (Kd.int .i64) 3 w 0 (fun k => k = B) (.slice (some ⟨B, 0, none⟩) n c) xs) : B < w.heap.size := Kd.R_lt h B rfl
theorem sz_lt {w w1 w2 : World} {B n c : Nat} {xs : List Int} (h : Kd.R (Kd.int .i64) 3 w 0 (fun k => k = B) (.slice (some ⟨B, 0, none⟩) n c) xs) (hb : Below w.heap.size w w1) (hb2 : Below w1.heap.size w1 w2) : B < w2.heap.size := Nat.lt_of_lt_of_le (sz_of_own h) (Nat.le_trans hb.size hb2.size)
theorem ne_sz {w : World} {B n c : Nat} {xs : List Int} (h : Kd.R (Kd.int .i64) 3 w 0 (fun k => k = B) (.slice (some ⟨B, 0, none⟩) n c) xs) : w.heap.size ≠ B := Nat.ne_of_gt (sz_of_own h)
/-- What treeOf gives: a tree of its own. -/
def IsTree (w w' : World) (A : Option Addr) (c : Nat) (l : List S74) (g : Nat) (af : List Int) : Prop := ∃ B cB, w.heap.size ≤ B ∧ B < g ∧ w'.heap[g]? = some (.cells #[.slice A l.length c, .slice (some ⟨B, 0, none⟩) l.length cB] 81 (0, 0)) ∧ af.length = l.length ∧ Kd.R (Kd.int .i64) 3 w' 0 (fun k => k = B) (.slice (some ⟨B, 0, none⟩) l.length cB) af
/-- What treeOf tells. -/
def TreeOut (w : World) (A : Option Addr) (c : Nat) (l : List S74) (r : Bool × List Int) (e : Ending) (w' : World) : Prop := Below w.heap.size w w' ∧ ((r.1 = true ∧ ∃ g, e = .returned (.tuple #[.pointer (some ⟨g, 0, none⟩), .bool true]) ∧ IsTree w w' A c l g r.2) ∨ (r.1 = false ∧ e = .returned (.tuple #[.pointer none, .bool false])))
theorem cell_root {w w1 : World} {B : Nat} {A : Option Addr} {l : List S74} (hr : Kd.C k74 w A l.length l) (hf : Far B w w1) (hA : ∀ ad, A = some ad → ad.block ≠ B) (h1 : (0 : Int) < (l.length : Int)) :
    ∃ ad, A = some ad ∧ w1.cell? ad = some (.int .i64 (rd_T74 l 0).f0) ∧ w1.cell? ⟨ad.block, ad.off + 1, none⟩ = some (.int .i64 (rd_T74 l 0).f1) ∧ w1.cell? ⟨ad.block, ad.off + 2, none⟩ = some (.int .i64 (rd_T74 l 0).f2) ∧ w1.cell? ⟨ad.block, ad.off + 3, none⟩ = some (.string (rd_T74 l 0).f3) ∧ w1.cell? ⟨ad.block, ad.off + 4, none⟩ = some (.int .i64 (rd_T74 l 0).f4) := by
  obtain ⟨ad, e, x0, x1, x2, x3, x4⟩ := cell_list hr hf hA 0 (Int.le_refl 0) h1
  have e0 : ad.add ((0 : Int).toNat * 5) = ad := by simp [Addr.add]
  rw [e0] at x0 x1 x2 x3 x4
  exact ⟨ad, e, x0, x1, x2, x3, x4⟩
theorem tree_below {w w1 w2 w3 : World} {B : Nat} (h : Below w.heap.size w w1) (h2 : Below w1.heap.size w1 w2) (k : Far B w2 w3) (hB : w.heap.size ≤ B) : Below w.heap.size w w3 := by
  have j := below_join h h2
  exact ⟨k.1.trans j.os, k.2.1.trans j.tape, k.2.2.1.trans j.output, Nat.le_trans j.size k.2.2.2.1, fun i hi => (k.2.2.2.2 i (Nat.lt_of_lt_of_le hi j.size) (Nat.ne_of_lt (Nat.lt_of_lt_of_le hi hB))).trans (j.block i hi)⟩
theorem far_of_C {w : World} {A : Option Addr} {l : List S74} (hr : Kd.C k74 w A l.length l) (h0 : 0 < l.length) : ∀ ad, A = some ad → ad.block ≠ w.heap.size := by
  intro ad e hb
  obtain ⟨ad', e', x0, -⟩ := at_T74 hr 0 (Int.le_refl 0) (by omega)
  obtain rfl : ad = ad' := by rw [e] at e'; injection e'
  have := World.block_lt_of_cell? w _ x0
  rw [add_block] at this
  omega
set_option maxHeartbeats 8000000 in
set_option maxRecDepth 100000 in
theorem impl_treeOf.calls (k : Nat) (A : Option Addr) (c : Nat) (l : List S74) (r : Bool × List Int) (w : World) (hr : Kd.C k74 w A l.length l) (hc0 : l.length ≤ c) (h : impl_treeOf.f k l = some r) :
    Calls Try.prog 69 #[.slice A l.length c] w fun e w' => TreeOut w A c l r e w' := by
  unfold impl_treeOf.f at h
  have hu74 := Try.underlying74
  have HR := Aside0.mk hr
  by_cases c1 : 1 ≤ l.length ∧ l.length ≤ 1500
  case neg =>
    rw [if_neg c1] at h
    obtain rfl := Option.some.inj h
    clear h
    have HWI := Aside0.mk (show impl_within.f (l.length : Int) 1 1500 = some false from by unfold impl_within.f; split; (rw [decide_eq_false (fun h_ => c1 ⟨by omega, by omega⟩)]); rfl)
    clear hr c1
    go_enter Try.func69, Try.ntmps69
    go_wp2_with (first | (go_at_call 62; (with_reducible refine (impl_within.calls _ _ _ false _ HWI.out).mono ?_); rintro e w24 ⟨rfl, ⟨nd, rfl⟩⟩; (try first | exact ⟨rfl, _, World.drewN_drewN _ _ _⟩)))
    go_ret2
    exact ⟨below_drewN_ w _, .inr ⟨rfl, rfl⟩⟩
  rw [if_pos c1] at h
  have HWI := Aside0.mk (show impl_within.f (l.length : Int) 1 1500 = some true from by unfold impl_within.f; split; (rw [decide_eq_true (by omega)]); omega)
  have c2 := c1.2
  have c4 : (0 : Int) < (l.length : Int) := by omega
  have C4 := Aside0.mk c4
  obtain ⟨ad, eA, x0, x1, x2, x3, x4⟩ := cell_list HR.out (Far.refl w.heap.size w) (far_of_C HR.out (by omega)) 0 (Int.le_refl 0) c4
  subst eA
  have HA := Aside0.mk (far_of_C HR.out (by omega))
  clear hr
  have c4b : decide ((0 : Int) < (l.length : Int)) = true := decide_eq_true c4
  have c4 := eq_true c4
  by_cases q12 : (rd_T74 l 0).f0 = 12
  case neg =>
    rw [if_neg q12] at h
    obtain rfl := Option.some.inj h
    clear h
    have q12b : ((rd_T74 l 0).f0 == 12) = false := beq_eq_false_iff_ne.mpr q12
    have q12c : ((rd_T74 l 0).f0 != 12) = true := bne_iff_ne.mpr q12
    clear q12
    go_enter Try.func69, Try.ntmps69
    go_wp2_with (first | (go_at_call 62; (with_reducible refine (impl_within.calls _ _ _ true _ HWI.out).mono ?_); rintro e w24 ⟨rfl, ⟨nd, rfl⟩⟩; (try first | exact ⟨rfl, _, World.drewN_drewN _ _ _⟩)) | ((with_reducible refine gate_dst (N := 13) rfl ?_); refine Kd.R_make (Kd.int .i64) 0 3 rfl (N := 13) rfl 42 _ _ rfl (l.length : Int) rfl rfl Try.underlying42 (.int .i64 0) 8 tinfo3 rfl (by decide) (by omega) 0 (ok := fun k_ => k_ = (w.drewN nd).heap.size) (okp := fun _ => False) rfl (fun _ hk => hk.elim) rfl (by omega) (by have := c2; omega) (below_zero _) (Nat.zero_le _) ?_; intro v1 w1 ho hb_ hg1 hnew; clear hb_; simp only [Int.toNat_natCast] at ho; obtain ⟨cB, rfl⟩ := own_shape ho (by intro e_; rw [List.replicate_eq_nil_iff] at e_; omega); simp only [List.length_replicate] at ho; clear hnew; have HM := Aside0.mk ho; have HG1 := Aside0.mk (below_of_grown hg1); clear ho hg1) | ((with_reducible refine gate_dst (N := 15) rfl ?_); refine box_event ?hg (N := 15) ?hd (cs := #[.slice (some ad) l.length c, .slice (some ⟨(w.drewN nd).heap.size, 0, none⟩) l.length cB]) (t := 81) ?hr ?_; (case hd => rfl); (case hg => rfl); (case hr => first | (go_simp; done) | (go_simp; rfl)); intro g hg w2 hbox hb2; have HGV := Aside0.mk hg; have BG := Aside0.mk hbox; have HB1 := Aside0.mk hb2; clear hg hbox hb2; obtain ⟨ad', eA', y0, y1, y2, y3, y4⟩ := cell_root HR.out (Far.of_below (B := w.heap.size) (below_join (below_join (below_drewN_ w nd) HG1.out) HB1.out)) HA.out C4.out; obtain rfl : ad = ad' := (by injection eA'); clear eA') | ((with_reducible refine gate_dst (N := 5) rfl ?_); refine box_event ?hg (N := 5) ?hd (cs := #[.int .i64 0, .int .i64 0, .int .i64 0, .string (⟨#[]⟩ : ByteArray), .int .i64 0]) (t := 74) ?hr ?_; (case hd => rfl); (case hg => rfl); (case hr => first | (go_simp; done) | (go_simp; rfl)); intro gb hgb w14 hbox hb2; have BK0 := Aside0.mk hbox; have HB2 := Aside0.mk hb2; have HGE := Aside0.mk hgb; clear hbox hb2 hgb; have hz0 : w14.cell? ⟨gb, 0, none⟩ = some (.int .i64 0) := (blk_cell BK0.out 0).trans rfl; have hz1 : w14.cell? ⟨gb, 1, none⟩ = some (.int .i64 0) := (blk_cell BK0.out 1).trans rfl; have hz2 : w14.cell? ⟨gb, 2, none⟩ = some (.int .i64 0) := (blk_cell BK0.out 2).trans rfl; have hz3 : w14.cell? ⟨gb, 3, none⟩ = some (.string (⟨#[]⟩ : ByteArray)) := (blk_cell BK0.out 3).trans rfl; have hz4 : w14.cell? ⟨gb, 4, none⟩ = some (.int .i64 0) := (blk_cell BK0.out 4).trans rfl; have hf0 := blk_frozen BK0.out 0; have hf1 := blk_frozen BK0.out 1; have hf2 := blk_frozen BK0.out 2; have hf3 := blk_frozen BK0.out 3; have hf4 := blk_frozen BK0.out 4))
    go_ret2
    exact ⟨below_join (below_join (below_drewN_ w _) HG1.out) (below_join HB1.out (by repeat (first | exact HB2.out | apply pw_below_drewN | refine below_set ?_ (Nat.le_of_eq HGE.out.symm)))), .inr ⟨rfl, rfl⟩⟩
  rw [if_pos q12] at h
  have q12b : ((rd_T74 l 0).f0 == 12) = true := beq_iff_eq.mpr q12
  have q12c : ((rd_T74 l 0).f0 != 12) = false := bne_eq_false_iff_eq.mpr q12
  clear q12
  by_cases q0 : (rd_T74 l 0).f1 = 0
  case neg =>
    rw [if_neg q0] at h
    obtain rfl := Option.some.inj h
    clear h
    have q0b : ((rd_T74 l 0).f1 == 0) = false := beq_eq_false_iff_ne.mpr q0
    have q0c : ((rd_T74 l 0).f1 != 0) = true := bne_iff_ne.mpr q0
    clear q0
    go_enter Try.func69, Try.ntmps69
    go_wp2_with (first | (go_at_call 62; (with_reducible refine (impl_within.calls _ _ _ true _ HWI.out).mono ?_); rintro e w24 ⟨rfl, ⟨nd, rfl⟩⟩; (try first | exact ⟨rfl, _, World.drewN_drewN _ _ _⟩)) | ((with_reducible refine gate_dst (N := 13) rfl ?_); refine Kd.R_make (Kd.int .i64) 0 3 rfl (N := 13) rfl 42 _ _ rfl (l.length : Int) rfl rfl Try.underlying42 (.int .i64 0) 8 tinfo3 rfl (by decide) (by omega) 0 (ok := fun k_ => k_ = (w.drewN nd).heap.size) (okp := fun _ => False) rfl (fun _ hk => hk.elim) rfl (by omega) (by have := c2; omega) (below_zero _) (Nat.zero_le _) ?_; intro v1 w1 ho hb_ hg1 hnew; clear hb_; simp only [Int.toNat_natCast] at ho; obtain ⟨cB, rfl⟩ := own_shape ho (by intro e_; rw [List.replicate_eq_nil_iff] at e_; omega); simp only [List.length_replicate] at ho; clear hnew; have HM := Aside0.mk ho; have HG1 := Aside0.mk (below_of_grown hg1); clear ho hg1) | ((with_reducible refine gate_dst (N := 15) rfl ?_); refine box_event ?hg (N := 15) ?hd (cs := #[.slice (some ad) l.length c, .slice (some ⟨(w.drewN nd).heap.size, 0, none⟩) l.length cB]) (t := 81) ?hr ?_; (case hd => rfl); (case hg => rfl); (case hr => first | (go_simp; done) | (go_simp; rfl)); intro g hg w2 hbox hb2; have HGV := Aside0.mk hg; have BG := Aside0.mk hbox; have HB1 := Aside0.mk hb2; clear hg hbox hb2; obtain ⟨ad', eA', y0, y1, y2, y3, y4⟩ := cell_root HR.out (Far.of_below (B := w.heap.size) (below_join (below_join (below_drewN_ w nd) HG1.out) HB1.out)) HA.out C4.out; obtain rfl : ad = ad' := (by injection eA'); clear eA') | ((with_reducible refine gate_dst (N := 5) rfl ?_); refine box_event ?hg (N := 5) ?hd (cs := #[.int .i64 0, .int .i64 0, .int .i64 0, .string (⟨#[]⟩ : ByteArray), .int .i64 0]) (t := 74) ?hr ?_; (case hd => rfl); (case hg => rfl); (case hr => first | (go_simp; done) | (go_simp; rfl)); intro gb hgb w14 hbox hb2; have BK0 := Aside0.mk hbox; have HB2 := Aside0.mk hb2; have HGE := Aside0.mk hgb; clear hbox hb2 hgb; have hz0 : w14.cell? ⟨gb, 0, none⟩ = some (.int .i64 0) := (blk_cell BK0.out 0).trans rfl; have hz1 : w14.cell? ⟨gb, 1, none⟩ = some (.int .i64 0) := (blk_cell BK0.out 1).trans rfl; have hz2 : w14.cell? ⟨gb, 2, none⟩ = some (.int .i64 0) := (blk_cell BK0.out 2).trans rfl; have hz3 : w14.cell? ⟨gb, 3, none⟩ = some (.string (⟨#[]⟩ : ByteArray)) := (blk_cell BK0.out 3).trans rfl; have hz4 : w14.cell? ⟨gb, 4, none⟩ = some (.int .i64 0) := (blk_cell BK0.out 4).trans rfl; have hf0 := blk_frozen BK0.out 0; have hf1 := blk_frozen BK0.out 1; have hf2 := blk_frozen BK0.out 2; have hf3 := blk_frozen BK0.out 3; have hf4 := blk_frozen BK0.out 4))
    go_ret2
    exact ⟨below_join (below_join (below_drewN_ w _) HG1.out) (below_join HB1.out (by repeat (first | exact HB2.out | apply pw_below_drewN | refine below_set ?_ (Nat.le_of_eq HGE.out.symm)))), .inr ⟨rfl, rfl⟩⟩
  rw [if_pos q0] at h
  have q0b : ((rd_T74 l 0).f1 == 0) = true := beq_iff_eq.mpr q0
  have q0c : ((rd_T74 l 0).f1 != 0) = false := bne_eq_false_iff_eq.mpr q0
  clear q0
  replace h := Option.bind_eq_some_iff.mp h; obtain ⟨⟨t1, af2⟩, hcall, h⟩ := h
  have HC := Aside0.mk hcall
  clear hcall
  simp only at h
  by_cases ct : t1 = (l.length : Int)
  · rw [if_pos ct] at h
    obtain rfl := Option.some.inj h
    clear h
    have ctb : (t1 == (l.length : Int)) = true := beq_iff_eq.mpr ct
    have ctc : (t1 != (l.length : Int)) = false := bne_eq_false_iff_eq.mpr ct
    clear ct
    go_enter Try.func69, Try.ntmps69
    go_wp2_with (first | (go_at_call 62; (with_reducible refine (impl_within.calls _ _ _ true _ HWI.out).mono ?_); rintro e w24 ⟨rfl, ⟨nd, rfl⟩⟩; (try first | exact ⟨rfl, _, World.drewN_drewN _ _ _⟩)) | ((with_reducible refine gate_dst (N := 13) rfl ?_); refine Kd.R_make (Kd.int .i64) 0 3 rfl (N := 13) rfl 42 _ _ rfl (l.length : Int) rfl rfl Try.underlying42 (.int .i64 0) 8 tinfo3 rfl (by decide) (by omega) 0 (ok := fun k_ => k_ = (w.drewN nd).heap.size) (okp := fun _ => False) rfl (fun _ hk => hk.elim) rfl (by omega) (by have := c2; omega) (below_zero _) (Nat.zero_le _) ?_; intro v1 w1 ho hb_ hg1 hnew; clear hb_; simp only [Int.toNat_natCast] at ho; obtain ⟨cB, rfl⟩ := own_shape ho (by intro e_; rw [List.replicate_eq_nil_iff] at e_; omega); simp only [List.length_replicate] at ho; clear hnew; have HM := Aside0.mk ho; have HG1 := Aside0.mk (below_of_grown hg1); clear ho hg1) | ((with_reducible refine gate_dst (N := 15) rfl ?_); refine box_event ?hg (N := 15) ?hd (cs := #[.slice (some ad) l.length c, .slice (some ⟨(w.drewN nd).heap.size, 0, none⟩) l.length cB]) (t := 81) ?hr ?_; (case hd => rfl); (case hg => rfl); (case hr => first | (go_simp; done) | (go_simp; rfl)); intro g hg w2 hbox hb2; have HGV := Aside0.mk hg; have BG := Aside0.mk hbox; have HB1 := Aside0.mk hb2; clear hg hbox hb2; obtain ⟨ad', eA', y0, y1, y2, y3, y4⟩ := cell_root HR.out (Far.of_below (B := w.heap.size) (below_join (below_join (below_drewN_ w nd) HG1.out) HB1.out)) HA.out C4.out; obtain rfl : ad = ad' := (by injection eA'); clear eA') | ((with_reducible refine gate_dst (N := 5) rfl ?_); refine box_event ?hg (N := 5) ?hd (cs := #[.int .i64 0, .int .i64 0, .int .i64 0, .string (⟨#[]⟩ : ByteArray), .int .i64 0]) (t := 74) ?hr ?_; (case hd => rfl); (case hg => rfl); (case hr => first | (go_simp; done) | (go_simp; rfl)); intro gb hgb w14 hbox hb2; have BK0 := Aside0.mk hbox; have HB2 := Aside0.mk hb2; have HGE := Aside0.mk hgb; clear hbox hb2 hgb; have hz0 : w14.cell? ⟨gb, 0, none⟩ = some (.int .i64 0) := (blk_cell BK0.out 0).trans rfl; have hz1 : w14.cell? ⟨gb, 1, none⟩ = some (.int .i64 0) := (blk_cell BK0.out 1).trans rfl; have hz2 : w14.cell? ⟨gb, 2, none⟩ = some (.int .i64 0) := (blk_cell BK0.out 2).trans rfl; have hz3 : w14.cell? ⟨gb, 3, none⟩ = some (.string (⟨#[]⟩ : ByteArray)) := (blk_cell BK0.out 3).trans rfl; have hz4 : w14.cell? ⟨gb, 4, none⟩ = some (.int .i64 0) := (blk_cell BK0.out 4).trans rfl; have hf0 := blk_frozen BK0.out 0; have hf1 := blk_frozen BK0.out 1; have hf2 := blk_frozen BK0.out 2; have hf3 := blk_frozen BK0.out 3; have hf4 := blk_frozen BK0.out 4) | (go_at_call 94; (with_reducible refine (impl_tree_measure.calls k g (w.drewN nd).heap.size (some ad) c cB l 0 1 _ t1 af2 _ l.length (by simp) ?s1 ?s2 ?s0 ?s5 ?s3 ?s4 HC.out).mono ?_); (case s1 => exact sz_lt HM.out HB1.out (by repeat (first | exact HB2.out | apply pw_below_drewN | refine below_set ?_ (Nat.le_of_eq HGE.out.symm)))); (case s2 => exact blk_below BG.out (by repeat (first | exact HB2.out | apply pw_below_drewN | refine below_set ?_ (Nat.le_of_eq HGE.out.symm)))); (case s0 => rw [HGV.out]; exact ne_sz HM.out); (case s5 => exact HA.out); (case s3 => exact list_far HR.out (Far.of_below (below_join (below_join (below_drewN_ w nd) HG1.out) (below_join HB1.out (by repeat (first | exact HB2.out | apply pw_below_drewN | refine below_set ?_ (Nat.le_of_eq HGE.out.symm)))))) HA.out); (case s4 => exact own_far (own_far HM.out HB1.out) (by repeat (first | exact HB2.out | apply pw_below_drewN | refine below_set ?_ (Nat.le_of_eq HGE.out.symm)))); rintro e w3 ⟨rfl, hfar, hlen, hO3⟩; have HF3 := Aside0.mk (Far.trans (Far.of_below (by repeat (first | exact HB2.out | apply pw_below_drewN | refine below_set ?_ (Nat.le_of_eq HGE.out.symm)))) hfar); have HL3 := Aside0.mk hlen; have HO3 := Aside0.mk hO3; clear hfar hlen hO3))
    go_ret2
    exact ⟨tree_below (below_join (below_drewN_ w _) HG1.out) HB1.out HF3.out (Nat.le_refl _), .inl ⟨rfl, g, rfl, _, cB, Nat.le_refl _, (by rw [HGV.out]; exact sz_of_own HM.out), HF3.out.blk BG.out (by rw [HGV.out]; exact ne_sz HM.out), HL3.out, HO3.out⟩⟩
  · rw [if_neg ct] at h
    obtain rfl := Option.some.inj h
    clear h
    have ctb : (t1 == (l.length : Int)) = false := beq_eq_false_iff_ne.mpr ct
    have ctc : (t1 != (l.length : Int)) = true := bne_iff_ne.mpr ct
    clear ct
    go_enter Try.func69, Try.ntmps69
    go_wp2_with (first | (go_at_call 62; (with_reducible refine (impl_within.calls _ _ _ true _ HWI.out).mono ?_); rintro e w24 ⟨rfl, ⟨nd, rfl⟩⟩; (try first | exact ⟨rfl, _, World.drewN_drewN _ _ _⟩)) | ((with_reducible refine gate_dst (N := 13) rfl ?_); refine Kd.R_make (Kd.int .i64) 0 3 rfl (N := 13) rfl 42 _ _ rfl (l.length : Int) rfl rfl Try.underlying42 (.int .i64 0) 8 tinfo3 rfl (by decide) (by omega) 0 (ok := fun k_ => k_ = (w.drewN nd).heap.size) (okp := fun _ => False) rfl (fun _ hk => hk.elim) rfl (by omega) (by have := c2; omega) (below_zero _) (Nat.zero_le _) ?_; intro v1 w1 ho hb_ hg1 hnew; clear hb_; simp only [Int.toNat_natCast] at ho; obtain ⟨cB, rfl⟩ := own_shape ho (by intro e_; rw [List.replicate_eq_nil_iff] at e_; omega); simp only [List.length_replicate] at ho; clear hnew; have HM := Aside0.mk ho; have HG1 := Aside0.mk (below_of_grown hg1); clear ho hg1) | ((with_reducible refine gate_dst (N := 15) rfl ?_); refine box_event ?hg (N := 15) ?hd (cs := #[.slice (some ad) l.length c, .slice (some ⟨(w.drewN nd).heap.size, 0, none⟩) l.length cB]) (t := 81) ?hr ?_; (case hd => rfl); (case hg => rfl); (case hr => first | (go_simp; done) | (go_simp; rfl)); intro g hg w2 hbox hb2; have HGV := Aside0.mk hg; have BG := Aside0.mk hbox; have HB1 := Aside0.mk hb2; clear hg hbox hb2; obtain ⟨ad', eA', y0, y1, y2, y3, y4⟩ := cell_root HR.out (Far.of_below (B := w.heap.size) (below_join (below_join (below_drewN_ w nd) HG1.out) HB1.out)) HA.out C4.out; obtain rfl : ad = ad' := (by injection eA'); clear eA') | ((with_reducible refine gate_dst (N := 5) rfl ?_); refine box_event ?hg (N := 5) ?hd (cs := #[.int .i64 0, .int .i64 0, .int .i64 0, .string (⟨#[]⟩ : ByteArray), .int .i64 0]) (t := 74) ?hr ?_; (case hd => rfl); (case hg => rfl); (case hr => first | (go_simp; done) | (go_simp; rfl)); intro gb hgb w14 hbox hb2; have BK0 := Aside0.mk hbox; have HB2 := Aside0.mk hb2; have HGE := Aside0.mk hgb; clear hbox hb2 hgb; have hz0 : w14.cell? ⟨gb, 0, none⟩ = some (.int .i64 0) := (blk_cell BK0.out 0).trans rfl; have hz1 : w14.cell? ⟨gb, 1, none⟩ = some (.int .i64 0) := (blk_cell BK0.out 1).trans rfl; have hz2 : w14.cell? ⟨gb, 2, none⟩ = some (.int .i64 0) := (blk_cell BK0.out 2).trans rfl; have hz3 : w14.cell? ⟨gb, 3, none⟩ = some (.string (⟨#[]⟩ : ByteArray)) := (blk_cell BK0.out 3).trans rfl; have hz4 : w14.cell? ⟨gb, 4, none⟩ = some (.int .i64 0) := (blk_cell BK0.out 4).trans rfl; have hf0 := blk_frozen BK0.out 0; have hf1 := blk_frozen BK0.out 1; have hf2 := blk_frozen BK0.out 2; have hf3 := blk_frozen BK0.out 3; have hf4 := blk_frozen BK0.out 4) | (go_at_call 94; (with_reducible refine (impl_tree_measure.calls k g (w.drewN nd).heap.size (some ad) c cB l 0 1 _ t1 af2 _ l.length (by simp) ?s1 ?s2 ?s0 ?s5 ?s3 ?s4 HC.out).mono ?_); (case s1 => exact sz_lt HM.out HB1.out (by repeat (first | exact HB2.out | apply pw_below_drewN | refine below_set ?_ (Nat.le_of_eq HGE.out.symm)))); (case s2 => exact blk_below BG.out (by repeat (first | exact HB2.out | apply pw_below_drewN | refine below_set ?_ (Nat.le_of_eq HGE.out.symm)))); (case s0 => rw [HGV.out]; exact ne_sz HM.out); (case s5 => exact HA.out); (case s3 => exact list_far HR.out (Far.of_below (below_join (below_join (below_drewN_ w nd) HG1.out) (below_join HB1.out (by repeat (first | exact HB2.out | apply pw_below_drewN | refine below_set ?_ (Nat.le_of_eq HGE.out.symm)))))) HA.out); (case s4 => exact own_far (own_far HM.out HB1.out) (by repeat (first | exact HB2.out | apply pw_below_drewN | refine below_set ?_ (Nat.le_of_eq HGE.out.symm)))); rintro e w3 ⟨rfl, hfar, hlen, hO3⟩; have HF3 := Aside0.mk (Far.trans (Far.of_below (by repeat (first | exact HB2.out | apply pw_below_drewN | refine below_set ?_ (Nat.le_of_eq HGE.out.symm)))) hfar); have HL3 := Aside0.mk hlen; have HO3 := Aside0.mk hO3; clear hfar hlen hO3))
    go_ret2
    exact ⟨tree_below (below_join (below_drewN_ w _) HG1.out) HB1.out HF3.out (Nat.le_refl _), .inr ⟨rfl, rfl⟩⟩
theorem impl_treeOf.mono : ∀ l k, LeO (impl_treeOf.f k l) (impl_treeOf.f (k + 1) l) := by
  intro l k
  unfold impl_treeOf.f
  repeat' first
    | (with_reducible exact (impl_tree_measure.mono_l _).1 _ _ _ _)
    | (with_reducible exact LeO.refl _)
    | refine LeO.ite ?_ ?_
    | refine LeO.bind ?_ (fun _ => ?_)
theorem TreeOut.yes {w w' : World} {A : Option Addr} {c : Nat} {l : List S74} {af : List Int} {e : Ending} (h : TreeOut w A c l (true, af) e w') : ∃ g, e = .returned (.tuple #[.pointer (some ⟨g, 0, none⟩), .bool true]) ∧ Aside0 (IsTree w w' A c l g af) ∧ Aside0 (Below w.heap.size w w') := by
  obtain ⟨hb, h⟩ := h
  rcases h with ⟨_, g, he, ht⟩ | ⟨hf, _⟩
  · exact ⟨g, he, ⟨ht⟩, ⟨hb⟩⟩
  · simp at hf
theorem TreeOut.no {w w' : World} {A : Option Addr} {c : Nat} {l : List S74} {af : List Int} {e : Ending} (h : TreeOut w A c l (false, af) e w') : e = .returned (.tuple #[.pointer none, .bool false]) ∧ Aside0 (Below w.heap.size w w') := by
  obtain ⟨hb, h⟩ := h
  rcases h with ⟨hf, _⟩ | ⟨_, he⟩
  · simp at hf
  · exact ⟨he, ⟨hb⟩⟩

end Go.Proofs.Ytjbghmdbceekiaa.PFnExactTreeTextOf
