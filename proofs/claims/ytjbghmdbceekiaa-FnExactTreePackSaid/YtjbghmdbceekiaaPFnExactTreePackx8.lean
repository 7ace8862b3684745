-- Written by a program of this seat's prover (wip/myprint.sh) over the loaded functions.
import Derived.Test.YtjbghmdbceekiaaPFnExactTreePackx0
import Derived.Test.YtjbghmdbceekiaaPFnExactTreePackx7
namespace Go.Proofs.Ytjbghmdbceekiaa.PFnExactTreePack
open Go.RowKit Go.Proofs.YtjbghmdbceekiaaW.PrintWords Go.Proofs.YtjbghmdbceekiaaW.PrintLast Go.Proofs.YtjbghmdbceekiaaW.PrintMore
attribute [local go_sem] max2_int min2_int max_two min_two max_three min_three max_four min_four   -- for this text's walks alone
set_option linter.unusedVariables false
set_option linter.unusedSimpArgs false

def Far (B : Nat) (w w1 : World) : Prop := w1.os = w.os ∧ w1.tape = w.tape ∧ w1.output = w.output ∧ w.heap.size ≤ w1.heap.size ∧ ∀ k, k < w.heap.size → k ≠ B → w1.heap[k]? = w.heap[k]?
theorem Far.refl (B : Nat) (w : World) : Far B w w := ⟨rfl, rfl, rfl, Nat.le_refl _, fun _ _ _ => rfl⟩
theorem Far.trans {B : Nat} {w w1 w2 : World} (h : Far B w w1) (k : Far B w1 w2) : Far B w w2 :=
 ⟨k.1.trans h.1, k.2.1.trans h.2.1, k.2.2.1.trans h.2.2.1, Nat.le_trans h.2.2.2.1 k.2.2.2.1, fun i hi hb => (k.2.2.2.2 i (Nat.lt_of_lt_of_le hi h.2.2.2.1) hb).trans (h.2.2.2.2 i hi hb)⟩
theorem Far.of_below {B : Nat} {w w1 : World} (h : Below w.heap.size w w1) : Far B w w1 := ⟨h.os, h.tape, h.output, h.size, fun i hi _ => h.block i hi⟩
theorem Far.below {B : Nat} {w w1 w2 : World} (h : Far B w w1) (k : Below w1.heap.size w1 w2) : Far B w w2 := h.trans (Far.of_below k)
theorem Far.set {B : Nat} {w w1 : World} (h : Far B w w1) (p : Addr) (u : Value) (hp : p.block = B ∨ w.heap.size ≤ p.block) : Far B w (w1.setCell p u) := by
 refine ⟨h.1, h.2.1, h.2.2.1, Nat.le_trans h.2.2.2.1 (by simp [World.setCell]), fun i hi hb => ?_⟩
 rw [Below.heap_setCell w1 p u i (by rcases hp with hp|hp <;> omega)]
 exact h.2.2.2.2 i hi hb
theorem Far.cell {B : Nat} {w w1 : World} (h : Far B w w1) {p : Addr} {v : Value} (hc : w.cell? p = some v) (hb : p.block ≠ B) : w1.cell? p = some v := by
 have hlt := World.block_lt_of_cell? w _ hc
 have := h.2.2.2.2 p.block hlt hb
 unfold World.cell? at hc ⊢
 rw [this];exact hc
theorem Far.blk {B : Nat} {w w1 : World} (h : Far B w w1) {g : Nat} {o : Obj} (hg : w.heap[g]? = some o) (hb : g ≠ B) : w1.heap[g]? = some o := (h.2.2.2.2 g (blk_lt hg) hb).trans hg
theorem Far.drewN {B : Nat} {w w1 : World} (h : Far B w w1) (m : Nat) : Far B w (w1.drewN m) := h
theorem list_far {w w1 : World} {B n : Nat} {A : Option Addr} {l : List S74} (hr : Kd.C k74 w A n l) (hf : Far B w w1) (hA : ∀ ad, A = some ad → ad.block ≠ B) : Kd.C k74 w1 A n l := by
 refine ⟨hr.1, hr.2.1, fun h0 => ?_⟩
 obtain ⟨ad, e, hc⟩ := hr.2.2 h0
 refine ⟨ad, e, fun j p hj => ?_⟩
 obtain ⟨cs, hs, hK, hcell⟩ := hc j p hj
 refine ⟨cs, hs, ?_, fun i u hu => hf.cell (hcell i u hu) (by rw [add_block];exact hA ad e)⟩
 obtain rfl := k74_open hK
 exact k74_mk w1 p
def badPart (l : List S74) (a nx la : Int) : Prop := ((rd_T74 l a).f0 = 9 ∧ ¬ ((rd_T74 l nx).f0 = (rd_T74 l a).f2 ∧ (rd_T74 l nx).f1 = 0)) ∨ ((rd_T74 l a).f0 = 12 ∧ ¬ (wrap64 (la + 1) ≤ (rd_T74 l nx).f1 ∧ (rd_T74 l nx).f1 ≤ 1000))
instance (l : List S74) (a nx la : Int) : Decidable (badPart l a nx la) := by unfold badPart; infer_instance
mutual
def impl_tree_measure.l0 : Nat → List S74 → Int → Int → List Int → Int → Int → Int → Option (Int × List Int)
 | 0, _, _, _, _, _, _, _ => none
 | k + 1, l, a, dp, af, nx, la, i => if i < (rd_T74 l a).f4 then (if nx ≥ (l.length : Int) then some (-1, af) else (if 0 ≤ nx then (if badPart l a nx la then some (-1, af) else ((impl_tree_measure.f k l nx (wrap64 (dp + 1)) af).bind fun t => if t.1 < 0 then some (-1, t.2) else impl_tree_measure.l0 k l a dp t.2 t.1 (rd_T74 l nx).f1 (wrap64 (i + 1)))) else none)) else (if a < (af.length : Int) then some (nx, af.set (a : Int).toNat nx) else none)
def impl_tree_measure.f : Nat → List S74 → Int → Int → List Int → Option (Int × List Int)
 | 0, _, _, _, _ => none
 | k + 1, l, a, dp, af => if a ≥ (l.length : Int) then some (-1, af) else (if dp > 12 then some (-1, af) else (if 0 ≤ a then ((impl_nodeOk.f k (rd_T74 l a).f0 (rd_T74 l a).f1 (rd_T74 l a).f2 (rd_T74 l a).f3 (rd_T74 l a).f4).bind fun t => if t = true then impl_tree_measure.l0 k l a dp af (wrap64 (a + 1)) 0 0 else some (-1, af)) else none))
end
theorem cell_list {w w1 : World} {B : Nat} {A : Option Addr} {l : List S74} (hr : Kd.C k74 w A l.length l) (hf : Far B w w1) (hA : ∀ ad, A = some ad → ad.block ≠ B) (i : Int) (h0 : 0 ≤ i) (h1 : i < (l.length : Int)) :
  ∃ ad, A = some ad ∧ w1.cell? (ad.add (i.toNat * 5)) = some (.int .i64 (rd_T74 l i).f0) ∧ w1.cell? ⟨(ad.add (i.toNat * 5)).block, (ad.add (i.toNat * 5)).off + 1, none⟩ = some (.int .i64 (rd_T74 l i).f1) ∧ w1.cell? ⟨(ad.add (i.toNat * 5)).block, (ad.add (i.toNat * 5)).off + 2, none⟩ = some (.int .i64 (rd_T74 l i).f2) ∧ w1.cell? ⟨(ad.add (i.toNat * 5)).block, (ad.add (i.toNat * 5)).off + 3, none⟩ = some (.string (rd_T74 l i).f3) ∧ w1.cell? ⟨(ad.add (i.toNat * 5)).block, (ad.add (i.toNat * 5)).off + 4, none⟩ = some (.int .i64 (rd_T74 l i).f4) := by
 obtain ⟨ad, e, x0, x1, x2, x3, x4⟩ := at_T74 hr i h0 h1
 have hb : (ad.add (i.toNat * 5)).block ≠ B := by rw [add_block];exact hA ad e
 exact ⟨ad, e, hf.cell x0 hb, hf.cell x1 hb, hf.cell x2 hb, hf.cell x3 hb, hf.cell x4 hb⟩
theorem own_far {w w1 : World} {B n c : Nat} {xs : List Int} (h : Kd.R (Kd.int .i64) 3 w 0 (fun k => k = B) (.slice (some ⟨B, 0, none⟩) n c) xs) (hb : Below w.heap.size w w1) : Kd.R (Kd.int .i64) 3 w1 0 (fun k => k = B) (.slice (some ⟨B, 0, none⟩) n c) xs := Kd.R_below h hb
set_option maxHeartbeats 40000000 in
set_option maxRecDepth 100000 in
theorem impl_tree_measure.calls (k : Nat) : ∀ (g B : Nat) (A : Option Addr) (c cB : Nat) (l : List S74) (a dp : Int) (af : List Int) (r : Int) (af' : List Int) (w : World)
  (n : Nat) (hn : af.length = n) (hBs : B < w.heap.size) (hg : w.heap[g]? = some (.cells #[.slice A l.length c, .slice (some ⟨B, 0, none⟩) n cB] 81 (0, 0))) (hgB : g ≠ B) (hA : ∀ ad, A = some ad → ad.block ≠ B) (hr : Kd.C k74 w A l.length l)
  (hO : Kd.R (Kd.int .i64) 3 w 0 (fun k => k = B) (.slice (some ⟨B, 0, none⟩) n cB) af) (h : impl_tree_measure.f k l a dp af = some (r, af')),
  Calls Try.prog 94 #[.pointer (some ⟨g, 0, none⟩), .int .i64 a, .int .i64 dp] w fun e w' => e = .returned (.int .i64 r) ∧ Far B w w' ∧ af'.length = n ∧ Kd.R (Kd.int .i64) 3 w' 0 (fun k => k = B) (.slice (some ⟨B, 0, none⟩) n cB) af' := by
 induction k using Nat.strongRecOn with
 | _ k ih =>
 intro g B A c cB l a dp af r af' w n hn hBs hg hgB hA hr hO h
 cases k with
 | zero => exact absurd h (by simp [impl_tree_measure.f])
 | succ k =>
 simp only [impl_tree_measure.f] at h
 have hu74 := Try.underlying74
 have HG := Aside0.mk hg
 have HR := Aside0.mk hr
 have HO := Aside0.mk hO
 have HA := Aside0.mk hA
 have HGB := Aside0.mk hgB
 have IH := Aside0.mk ih
 have HN := Aside0.mk hn
 have HBS := Aside0.mk hBs
 clear hn hBs
 clear hr hO hA hgB ih
 have hc0 : w.cell? ⟨g, 0, none⟩ = some (.slice A l.length c) := (blk_cell HG.out 0).trans rfl
 have hc1 : w.cell? ⟨g, 1, none⟩ = some (.slice (some ⟨B, 0, none⟩) n cB) := (blk_cell HG.out 1).trans rfl
 clear hg
 by_cases c1 : a ≥ (l.length : Int)
 ·rw [if_pos c1] at h
  obtain ⟨rfl, rfl⟩ := Prod.mk.inj (Option.some.inj h)
  clear h
  have c1b : decide ((l.length : Int) ≤ a) = true := decide_eq_true c1
  clear c1
  go_enter Try.func94, Try.ntmps94
  go_wp2
  go_ret
  exact ⟨rfl, Far.refl _ _, (by first|exact trivial|exact HN.out), HO.out⟩
 rw [if_neg c1] at h
 have c1b : decide ((l.length : Int) ≤ a) = false := decide_eq_false c1
 by_cases c2 : dp > 12
 ·rw [if_pos c2] at h
  obtain ⟨rfl, rfl⟩ := Prod.mk.inj (Option.some.inj h)
  clear h
  have c2b : decide (12 < dp) = true := decide_eq_true c2
  clear c1 c2
  go_enter Try.func94, Try.ntmps94
  go_wp2
  go_ret
  exact ⟨rfl, Far.refl _ _, (by first|exact trivial|exact HN.out), HO.out⟩
 rw [if_neg c2] at h
 have c2b : decide (12 < dp) = false := decide_eq_false c2
 by_cases c3 : 0 ≤ a
 case neg => rw [if_neg c3] at h;cases h
 rw [if_pos c3] at h
 have c3b : decide (0 ≤ a) = true := decide_eq_true c3
 have c4 : a < (l.length : Int) := by omega
 have c4b : decide (a < (l.length : Int)) = true := decide_eq_true c4
 obtain ⟨ad, eA, x0, x1, x2, x3, x4⟩ := cell_list HR.out (Far.refl B w) HA.out a c3 c4
 subst eA
 have C3 := Aside0.mk c3
 have C4 := Aside0.mk c4
 clear c1 c2
 have c3 := eq_true c3
 have c4 := eq_true c4
 replace h := Option.bind_eq_some_iff.mp h;obtain ⟨t, ht, h⟩ := h
 have HT := Aside0.mk ht
 clear ht
 cases t with
 | false =>
  rw [if_neg (by simp)] at h
  obtain ⟨rfl, rfl⟩ := Prod.mk.inj (Option.some.inj h)
  clear h
  go_enter Try.func94, Try.ntmps94
  go_wp2_with (go_at_call 109;(with_reducible refine (impl_nodeOk.calls k _ _ _ _ _ false _ HT.out).mono ?_);rintro e w10 ⟨rfl, hb⟩;have HB := Aside0.mk hb;clear hb)
  go_ret
  exact ⟨rfl, Far.of_below HB.out, (by first|exact trivial|exact HN.out), own_far HO.out HB.out⟩
 | true =>
 rw [if_pos rfl] at h
 have H' := Aside0.mk h
 clear h
 go_enter Try.func94, Try.ntmps94
 go_wp2_with (first|(go_at_call 109;(with_reducible refine (impl_nodeOk.calls k _ _ _ _ _ true _ HT.out).mono ?_);rintro e w10 ⟨rfl, hb⟩;have HB := Aside0.mk hb;clear hb;have hd0 : w10.cell? ⟨g, 0, none⟩ = some (.slice (some ad) l.length c) := (blk_cell (blk_below HG.out HB.out) 0).trans rfl;obtain ⟨ad', eA', y0, y1, y2, y3, y4⟩ := cell_list HR.out (Far.of_below HB.out) HA.out a C3.out C4.out;obtain rfl : ad = ad' := (by injection eA');clear eA')|((with_reducible refine gate_dst (N := 7) rfl ?_);refine box_event ?hg (N := 7) ?hd (cs := #[.int .i64 0, .int .i64 0, .int .i64 0, .string (⟨#[]⟩ : ByteArray), .int .i64 0]) (t := 74) ?hr ?_;(case hd => rfl);(case hg => rfl);(case hr => first|(go_simp;done)|(go_simp;rfl));intro gb hgb w14 hbox hb2;have BK0 := Aside0.mk hbox;have HB2 := Aside0.mk hb2;have HGE := Aside0.mk hgb;clear hbox hb2 hgb;have hz0 : w14.cell? ⟨gb, 0, none⟩ = some (.int .i64 0) := (blk_cell BK0.out 0).trans rfl;have hz1 : w14.cell? ⟨gb, 1, none⟩ = some (.int .i64 0) := (blk_cell BK0.out 1).trans rfl;have hz2 : w14.cell? ⟨gb, 2, none⟩ = some (.int .i64 0) := (blk_cell BK0.out 2).trans rfl;have hz3 : w14.cell? ⟨gb, 3, none⟩ = some (.string (⟨#[]⟩ : ByteArray)) := (blk_cell BK0.out 3).trans rfl;have hz4 : w14.cell? ⟨gb, 4, none⟩ = some (.int .i64 0) := (blk_cell BK0.out 4).trans rfl;have hf0 := blk_frozen BK0.out 0;have hf1 := blk_frozen BK0.out 1;have hf2 := blk_frozen BK0.out 2;have hf3 := blk_frozen BK0.out 3;have hf4 := blk_frozen BK0.out 4))
 have HGN := Aside0.mk (show gb ≠ B from by (have h1_ := HGE.out;have h2_ := HB.out.size;have h3_ := HBS.out;omega))
 go_loopg [8, 9, 44] k (fun kq v8 v9 v44 w' => ∃ (nx la i : Int) (afc : List Int), v8 = .int .i64 nx ∧ v9 = .int .i64 la ∧ v44 = .int .i64 i ∧ Aside0 (impl_tree_measure.l0 kq l a dp afc nx la i = some (r, af')) ∧ Aside0 (kq ≤ k) ∧ Aside0 (w'.heap[gb]? = some (.cells #[.int .i64 ((rd_T74 l a).f0), .int .i64 ((rd_T74 l a).f1), .int .i64 ((rd_T74 l a).f2), .string ((rd_T74 l a).f3), .int .i64 ((rd_T74 l a).f4)] 74 (0, 0))) ∧ Aside0 (Far B w w') ∧ Aside0 (afc.length = n) ∧ Aside0 (Kd.R (Kd.int .i64) 3 w' 0 (fun k => k = B) (.slice (some ⟨B, 0, none⟩) n cB) afc))
 case atStart => exact ⟨wrap64 (a + 1), 0, 0, af, (by first|rfl|(simp;done)|(simp [*];done)), (by first|rfl|(simp;done)|(simp [*];done)), (by first|rfl|(simp;done)|(simp [*];done)), H', ⟨Nat.le_refl _⟩, ⟨(by refine blk_put (cs := #[.int .i64 ((rd_T74 l a).f0), .int .i64 ((rd_T74 l a).f1), .int .i64 ((rd_T74 l a).f2), .string ((rd_T74 l a).f3), .int .i64 0]) ?_ 4 _ rfl;refine blk_put (cs := #[.int .i64 ((rd_T74 l a).f0), .int .i64 ((rd_T74 l a).f1), .int .i64 ((rd_T74 l a).f2), .string (⟨#[]⟩ : ByteArray), .int .i64 0]) ?_ 3 _ rfl;refine blk_put (cs := #[.int .i64 ((rd_T74 l a).f0), .int .i64 ((rd_T74 l a).f1), .int .i64 0, .string (⟨#[]⟩ : ByteArray), .int .i64 0]) ?_ 2 _ rfl;refine blk_put (cs := #[.int .i64 ((rd_T74 l a).f0), .int .i64 0, .int .i64 0, .string (⟨#[]⟩ : ByteArray), .int .i64 0]) ?_ 1 _ rfl;refine blk_put (cs := #[.int .i64 0, .int .i64 0, .int .i64 0, .string (⟨#[]⟩ : ByteArray), .int .i64 0]) ?_ 0 _ rfl;exact BK0.out)⟩, ⟨(Far.of_below HB.out).below (by repeat (first|(with_reducible first|exact HB2.out|refine below_set ?_ (Nat.le_of_eq HGE.out.symm)|apply pw_below_drewN)|exact HB2.out))⟩, HN, ⟨own_far (own_far HO.out HB.out) (by repeat (first|(with_reducible first|exact HB2.out|refine below_set ?_ (Nat.le_of_eq HGE.out.symm)|apply pw_below_drewN)|exact HB2.out))⟩⟩
 case round =>
  clear H'
  obtain ⟨nx, la, i, afc, rfl, rfl, rfl, HQ, HK2, BK, HF, HL, HO2⟩ := hrel
  cases gk with
  | zero => exact absurd HQ.out (by simp [impl_tree_measure.l0])
  | succ k2 =>
  have h := HQ.out
  clear HQ
  simp only [impl_tree_measure.l0] at h
  have hr0 : wr.cell? ⟨g, 0, none⟩ = some (.slice (some ad) l.length c) := (blk_cell (HF.out.blk HG.out HGB.out) 0).trans rfl
  have hr1 : wr.cell? ⟨g, 1, none⟩ = some (.slice (some ⟨B, 0, none⟩) n cB) := (blk_cell (HF.out.blk HG.out HGB.out) 1).trans rfl
  have hn0 : wr.cell? ⟨gb, 0, none⟩ = some (.int .i64 (rd_T74 l a).f0) := (blk_cell BK.out 0).trans rfl
  have hn2 : wr.cell? ⟨gb, 2, none⟩ = some (.int .i64 (rd_T74 l a).f2) := (blk_cell BK.out 2).trans rfl
  by_cases ci : i < (rd_T74 l a).f4
  case neg =>
   rw [if_neg ci] at h
   by_cases ca : a < (afc.length : Int)
   case neg => rw [if_neg ca] at h;cases h
   rw [if_pos ca] at h
   obtain ⟨rfl, rfl⟩ := Prod.mk.inj (Option.some.inj h)
   clear h
   have cib : decide (i < (rd_T74 l a).f4) = false := decide_eq_false ci
   have can : a < (n : Int) := by have := HL.out;omega
   obtain ⟨hs0, hs1⟩ := Kd.R_celln 0 HO2.out a C3.out can
   have canb : decide (a < (n : Int)) = true := decide_eq_true can
   have can := eq_true can
   clear ci ca
   go_wp2
   go_ret
   exact ⟨rfl, HF.out.set _ _ (.inl rfl), (by first|exact trivial|(rw [List.length_set];exact HL.out)), (Kd.R_putg HO2.out a nx).1⟩
  rw [if_pos ci] at h
  have cib : decide (i < (rd_T74 l a).f4) = true := decide_eq_true ci
  clear ci
  by_cases cn : nx ≥ (l.length : Int)
  case pos =>
   rw [if_pos cn] at h
   obtain ⟨rfl, rfl⟩ := Prod.mk.inj (Option.some.inj h)
   clear h
   have cnb : decide ((l.length : Int) ≤ nx) = true := decide_eq_true cn
   clear cn
   go_wp2
   go_ret
   exact ⟨rfl, HF.out, (by first|exact trivial|exact HL.out), HO2.out⟩
  rw [if_neg cn] at h
  have cnb : decide ((l.length : Int) ≤ nx) = false := decide_eq_false cn
  by_cases d3 : 0 ≤ nx
  case neg => rw [if_neg d3] at h;cases h
  rw [if_pos d3] at h
  have d3b : decide (0 ≤ nx) = true := decide_eq_true d3
  have d4 : nx < (l.length : Int) := by omega
  have d4b : decide (nx < (l.length : Int)) = true := decide_eq_true d4
  obtain ⟨ad2, eA2, z0, z1, z2, z3, z4⟩ := cell_list HR.out HF.out HA.out nx d3 d4
  obtain rfl : ad = ad2 := (by injection eA2)
  clear eA2 cn
  have d3 := eq_true d3
  have d4 := eq_true d4
  by_cases q9 : (rd_T74 l a).f0 = 9
  ·have q9b : (((rd_T74 l a).f0) == (9)) = true := beq_iff_eq.mpr q9
   have q9c : (((rd_T74 l a).f0) != (9)) = false := bne_eq_false_iff_eq.mpr q9
   have q12b : (((rd_T74 l a).f0) == 12) = false := beq_eq_false_iff_ne.mpr (by omega)
   by_cases q1 : (rd_T74 l nx).f0 = (rd_T74 l a).f2
   ·have q1b : (((rd_T74 l nx).f0) == ((rd_T74 l a).f2)) = true := beq_iff_eq.mpr q1
    have q1c : (((rd_T74 l nx).f0) != ((rd_T74 l a).f2)) = false := bne_eq_false_iff_eq.mpr q1
    by_cases q2 : (rd_T74 l nx).f1 = 0
    ·have q2b : (((rd_T74 l nx).f1) == (0)) = true := beq_iff_eq.mpr q2
     have q2c : (((rd_T74 l nx).f1) != (0)) = false := bne_eq_false_iff_eq.mpr q2
     have hneg : ¬ badPart l a nx la := by unfold badPart;omega
     clear q9 q1 q2
     rw [if_neg (show ¬ badPart l a nx la from hneg)] at h
     replace h := Option.bind_eq_some_iff.mp h;obtain ⟨⟨t1, af2⟩, hcall, h⟩ := h
     have HC := Aside0.mk hcall
     clear hcall
     simp only at h
     by_cases ct : t1 < 0
     ·rw [if_pos ct] at h
      obtain ⟨rfl, rfl⟩ := Prod.mk.inj (Option.some.inj h)
      clear h
      have ctb : decide (t1 < 0) = true := decide_eq_true ct
      clear ct
      go_wp2_with (first|((with_reducible refine gate_dst (N := 10) rfl ?_);refine box_event ?hg (N := 10) ?hd (cs := #[.int .i64 0, .int .i64 0, .int .i64 0, .string (⟨#[]⟩ : ByteArray), .int .i64 0]) (t := 74) ?hr ?_;(case hd => rfl);(case hg => rfl);(case hr => first|(go_simp;done)|(go_simp;rfl));intro gb2 hgb2 w23 hbox hb2;have BK2 := Aside0.mk hbox;have HB3 := Aside0.mk hb2;have HGE3 := Aside0.mk (show wr.heap.size ≤ gb2 from by rw [hgb2];exact Nat.le_refl _);have hne1 : gb ≠ gb2 := fun e_ => absurd (blk_lt BK.out) (by rw [e_, hgb2];exact Nat.lt_irrefl _);have hne2 : gb2 ≠ gb := fun e_ => hne1 e_.symm;clear hbox hb2 hgb2;have hq0 : w23.cell? ⟨gb2, 0, none⟩ = some (.int .i64 0) := (blk_cell BK2.out 0).trans rfl;have hq1 : w23.cell? ⟨gb2, 1, none⟩ = some (.int .i64 0) := (blk_cell BK2.out 1).trans rfl;have hq2 : w23.cell? ⟨gb2, 2, none⟩ = some (.int .i64 0) := (blk_cell BK2.out 2).trans rfl;have hq3 : w23.cell? ⟨gb2, 3, none⟩ = some (.string (⟨#[]⟩ : ByteArray)) := (blk_cell BK2.out 3).trans rfl;have hq4 : w23.cell? ⟨gb2, 4, none⟩ = some (.int .i64 0) := (blk_cell BK2.out 4).trans rfl;have hu0 := blk_frozen BK2.out 0;have hu1 := blk_frozen BK2.out 1;have hu2 := blk_frozen BK2.out 2;have hu3 := blk_frozen BK2.out 3;have hu4 := blk_frozen BK2.out 4;have hm0 : w23.cell? ⟨gb, 0, none⟩ = some (.int .i64 (rd_T74 l a).f0) := (blk_cell (blk_below BK.out HB3.out) 0).trans rfl;have hm2 : w23.cell? ⟨gb, 2, none⟩ = some (.int .i64 (rd_T74 l a).f2) := (blk_cell (blk_below BK.out HB3.out) 2).trans rfl)|(go_at_call 94;(with_reducible refine (IH.out k2 (by have := HK2.out;omega) g B (some ad) c cB l nx (wrap64 (dp + 1)) afc t1 af2 _ n HL.out ?s1 ?s2 HGB.out HA.out ?s3 ?s4 HC.out).mono ?_);(case s1 => exact Nat.lt_of_lt_of_le HBS.out (HF.out.below (by repeat (first|(with_reducible first|exact HB3.out|refine below_set ?_ HGE3.out|apply pw_below_drewN)|exact HB3.out))).2.2.2.1);(case s2 => exact (HF.out.below (by repeat (first|(with_reducible first|exact HB3.out|refine below_set ?_ HGE3.out|apply pw_below_drewN)|exact HB3.out))).blk HG.out HGB.out);(case s3 => exact list_far HR.out (HF.out.below (by repeat (first|(with_reducible first|exact HB3.out|refine below_set ?_ HGE3.out|apply pw_below_drewN)|exact HB3.out))) HA.out);(case s4 => exact own_far HO2.out (by repeat (first|(with_reducible first|exact HB3.out|refine below_set ?_ HGE3.out|apply pw_below_drewN)|exact HB3.out)));rintro e w3 ⟨rfl, hfar, hlen, hO3⟩;have HF4 := Aside0.mk ((HF.out.below (by repeat (first|(with_reducible first|exact HB3.out|refine below_set ?_ HGE3.out|apply pw_below_drewN)|exact HB3.out))).trans hfar);have BK4 := Aside0.mk (hfar.blk (blk_below BK.out (by repeat (first|(with_reducible first|exact HB3.out|refine below_set ?_ HGE3.out|apply pw_below_drewN)|exact HB3.out))) HGN.out);have HL4 := Aside0.mk hlen;have HO4 := Aside0.mk hO3;clear hfar hlen hO3))
      go_ret
      exact ⟨rfl, HF4.out, (by first|exact trivial|exact HL4.out), HO4.out⟩
     ·rw [if_neg ct] at h
      have H' := Aside0.mk h
      clear h
      have ctb : decide (t1 < 0) = false := decide_eq_false ct
      clear ct
      go_wp2_with (first|((with_reducible refine gate_dst (N := 10) rfl ?_);refine box_event ?hg (N := 10) ?hd (cs := #[.int .i64 0, .int .i64 0, .int .i64 0, .string (⟨#[]⟩ : ByteArray), .int .i64 0]) (t := 74) ?hr ?_;(case hd => rfl);(case hg => rfl);(case hr => first|(go_simp;done)|(go_simp;rfl));intro gb2 hgb2 w23 hbox hb2;have BK2 := Aside0.mk hbox;have HB3 := Aside0.mk hb2;have HGE3 := Aside0.mk (show wr.heap.size ≤ gb2 from by rw [hgb2];exact Nat.le_refl _);have hne1 : gb ≠ gb2 := fun e_ => absurd (blk_lt BK.out) (by rw [e_, hgb2];exact Nat.lt_irrefl _);have hne2 : gb2 ≠ gb := fun e_ => hne1 e_.symm;clear hbox hb2 hgb2;have hq0 : w23.cell? ⟨gb2, 0, none⟩ = some (.int .i64 0) := (blk_cell BK2.out 0).trans rfl;have hq1 : w23.cell? ⟨gb2, 1, none⟩ = some (.int .i64 0) := (blk_cell BK2.out 1).trans rfl;have hq2 : w23.cell? ⟨gb2, 2, none⟩ = some (.int .i64 0) := (blk_cell BK2.out 2).trans rfl;have hq3 : w23.cell? ⟨gb2, 3, none⟩ = some (.string (⟨#[]⟩ : ByteArray)) := (blk_cell BK2.out 3).trans rfl;have hq4 : w23.cell? ⟨gb2, 4, none⟩ = some (.int .i64 0) := (blk_cell BK2.out 4).trans rfl;have hu0 := blk_frozen BK2.out 0;have hu1 := blk_frozen BK2.out 1;have hu2 := blk_frozen BK2.out 2;have hu3 := blk_frozen BK2.out 3;have hu4 := blk_frozen BK2.out 4;have hm0 : w23.cell? ⟨gb, 0, none⟩ = some (.int .i64 (rd_T74 l a).f0) := (blk_cell (blk_below BK.out HB3.out) 0).trans rfl;have hm2 : w23.cell? ⟨gb, 2, none⟩ = some (.int .i64 (rd_T74 l a).f2) := (blk_cell (blk_below BK.out HB3.out) 2).trans rfl)|(go_at_call 94;(with_reducible refine (IH.out k2 (by have := HK2.out;omega) g B (some ad) c cB l nx (wrap64 (dp + 1)) afc t1 af2 _ n HL.out ?s1 ?s2 HGB.out HA.out ?s3 ?s4 HC.out).mono ?_);(case s1 => exact Nat.lt_of_lt_of_le HBS.out (HF.out.below (by repeat (first|(with_reducible first|exact HB3.out|refine below_set ?_ HGE3.out|apply pw_below_drewN)|exact HB3.out))).2.2.2.1);(case s2 => exact (HF.out.below (by repeat (first|(with_reducible first|exact HB3.out|refine below_set ?_ HGE3.out|apply pw_below_drewN)|exact HB3.out))).blk HG.out HGB.out);(case s3 => exact list_far HR.out (HF.out.below (by repeat (first|(with_reducible first|exact HB3.out|refine below_set ?_ HGE3.out|apply pw_below_drewN)|exact HB3.out))) HA.out);(case s4 => exact own_far HO2.out (by repeat (first|(with_reducible first|exact HB3.out|refine below_set ?_ HGE3.out|apply pw_below_drewN)|exact HB3.out)));rintro e w3 ⟨rfl, hfar, hlen, hO3⟩;have HF4 := Aside0.mk ((HF.out.below (by repeat (first|(with_reducible first|exact HB3.out|refine below_set ?_ HGE3.out|apply pw_below_drewN)|exact HB3.out))).trans hfar);have BK4 := Aside0.mk (hfar.blk (blk_below BK.out (by repeat (first|(with_reducible first|exact HB3.out|refine below_set ?_ HGE3.out|apply pw_below_drewN)|exact HB3.out))) HGN.out);have HL4 := Aside0.mk hlen;have HO4 := Aside0.mk hO3;clear hfar hlen hO3))
      go_roundg k2
      case measure => omega
      case rel => exact ⟨t1, (rd_T74 l nx).f1, wrap64 (i + 1), af2, (by first|rfl|(simp;done)|(simp [*];done)), (by first|rfl|(simp;done)|(simp [*];done)), (by first|rfl|(simp;done)|(simp [*];done)), H', ⟨by have := HK2.out;omega⟩, BK4, HF4, HL4, HO4⟩
    ·have q2b : (((rd_T74 l nx).f1) == (0)) = false := beq_eq_false_iff_ne.mpr q2
     have q2c : (((rd_T74 l nx).f1) != (0)) = true := bne_iff_ne.mpr q2
     have hneg : badPart l a nx la := by unfold badPart;omega
     clear q9 q1 q2
     rw [if_pos (show badPart l a nx la from hneg)] at h
     obtain ⟨rfl, rfl⟩ := Prod.mk.inj (Option.some.inj h)
     clear h
     go_wp2_with (first|((with_reducible refine gate_dst (N := 10) rfl ?_);refine box_event ?hg (N := 10) ?hd (cs := #[.int .i64 0, .int .i64 0, .int .i64 0, .string (⟨#[]⟩ : ByteArray), .int .i64 0]) (t := 74) ?hr ?_;(case hd => rfl);(case hg => rfl);(case hr => first|(go_simp;done)|(go_simp;rfl));intro gb2 hgb2 w23 hbox hb2;have BK2 := Aside0.mk hbox;have HB3 := Aside0.mk hb2;have HGE3 := Aside0.mk (show wr.heap.size ≤ gb2 from by rw [hgb2];exact Nat.le_refl _);have hne1 : gb ≠ gb2 := fun e_ => absurd (blk_lt BK.out) (by rw [e_, hgb2];exact Nat.lt_irrefl _);have hne2 : gb2 ≠ gb := fun e_ => hne1 e_.symm;clear hbox hb2 hgb2;have hq0 : w23.cell? ⟨gb2, 0, none⟩ = some (.int .i64 0) := (blk_cell BK2.out 0).trans rfl;have hq1 : w23.cell? ⟨gb2, 1, none⟩ = some (.int .i64 0) := (blk_cell BK2.out 1).trans rfl;have hq2 : w23.cell? ⟨gb2, 2, none⟩ = some (.int .i64 0) := (blk_cell BK2.out 2).trans rfl;have hq3 : w23.cell? ⟨gb2, 3, none⟩ = some (.string (⟨#[]⟩ : ByteArray)) := (blk_cell BK2.out 3).trans rfl;have hq4 : w23.cell? ⟨gb2, 4, none⟩ = some (.int .i64 0) := (blk_cell BK2.out 4).trans rfl;have hu0 := blk_frozen BK2.out 0;have hu1 := blk_frozen BK2.out 1;have hu2 := blk_frozen BK2.out 2;have hu3 := blk_frozen BK2.out 3;have hu4 := blk_frozen BK2.out 4;have hm0 : w23.cell? ⟨gb, 0, none⟩ = some (.int .i64 (rd_T74 l a).f0) := (blk_cell (blk_below BK.out HB3.out) 0).trans rfl;have hm2 : w23.cell? ⟨gb, 2, none⟩ = some (.int .i64 (rd_T74 l a).f2) := (blk_cell (blk_below BK.out HB3.out) 2).trans rfl))
     go_ret
     exact ⟨rfl, HF.out.below (by repeat (first|(with_reducible first|exact HB3.out|refine below_set ?_ HGE3.out|apply pw_below_drewN)|exact HB3.out)), (by first|exact trivial|exact HL.out), own_far HO2.out (by repeat (first|(with_reducible first|exact HB3.out|refine below_set ?_ HGE3.out|apply pw_below_drewN)|exact HB3.out))⟩
   ·have q1b : (((rd_T74 l nx).f0) == ((rd_T74 l a).f2)) = false := beq_eq_false_iff_ne.mpr q1
    have q1c : (((rd_T74 l nx).f0) != ((rd_T74 l a).f2)) = true := bne_iff_ne.mpr q1
    have hneg : badPart l a nx la := by unfold badPart;omega
    clear q9 q1
    rw [if_pos (show badPart l a nx la from hneg)] at h
    obtain ⟨rfl, rfl⟩ := Prod.mk.inj (Option.some.inj h)
    clear h
    go_wp2_with (first|((with_reducible refine gate_dst (N := 10) rfl ?_);refine box_event ?hg (N := 10) ?hd (cs := #[.int .i64 0, .int .i64 0, .int .i64 0, .string (⟨#[]⟩ : ByteArray), .int .i64 0]) (t := 74) ?hr ?_;(case hd => rfl);(case hg => rfl);(case hr => first|(go_simp;done)|(go_simp;rfl));intro gb2 hgb2 w23 hbox hb2;have BK2 := Aside0.mk hbox;have HB3 := Aside0.mk hb2;have HGE3 := Aside0.mk (show wr.heap.size ≤ gb2 from by rw [hgb2];exact Nat.le_refl _);have hne1 : gb ≠ gb2 := fun e_ => absurd (blk_lt BK.out) (by rw [e_, hgb2];exact Nat.lt_irrefl _);have hne2 : gb2 ≠ gb := fun e_ => hne1 e_.symm;clear hbox hb2 hgb2;have hq0 : w23.cell? ⟨gb2, 0, none⟩ = some (.int .i64 0) := (blk_cell BK2.out 0).trans rfl;have hq1 : w23.cell? ⟨gb2, 1, none⟩ = some (.int .i64 0) := (blk_cell BK2.out 1).trans rfl;have hq2 : w23.cell? ⟨gb2, 2, none⟩ = some (.int .i64 0) := (blk_cell BK2.out 2).trans rfl;have hq3 : w23.cell? ⟨gb2, 3, none⟩ = some (.string (⟨#[]⟩ : ByteArray)) := (blk_cell BK2.out 3).trans rfl;have hq4 : w23.cell? ⟨gb2, 4, none⟩ = some (.int .i64 0) := (blk_cell BK2.out 4).trans rfl;have hu0 := blk_frozen BK2.out 0;have hu1 := blk_frozen BK2.out 1;have hu2 := blk_frozen BK2.out 2;have hu3 := blk_frozen BK2.out 3;have hu4 := blk_frozen BK2.out 4;have hm0 : w23.cell? ⟨gb, 0, none⟩ = some (.int .i64 (rd_T74 l a).f0) := (blk_cell (blk_below BK.out HB3.out) 0).trans rfl;have hm2 : w23.cell? ⟨gb, 2, none⟩ = some (.int .i64 (rd_T74 l a).f2) := (blk_cell (blk_below BK.out HB3.out) 2).trans rfl))
    go_ret
    exact ⟨rfl, HF.out.below (by repeat (first|(with_reducible first|exact HB3.out|refine below_set ?_ HGE3.out|apply pw_below_drewN)|exact HB3.out)), (by first|exact trivial|exact HL.out), own_far HO2.out (by repeat (first|(with_reducible first|exact HB3.out|refine below_set ?_ HGE3.out|apply pw_below_drewN)|exact HB3.out))⟩
  ·have q9b : (((rd_T74 l a).f0) == (9)) = false := beq_eq_false_iff_ne.mpr q9
   have q9c : (((rd_T74 l a).f0) != (9)) = true := bne_iff_ne.mpr q9
   by_cases q12 : (rd_T74 l a).f0 = 12
   ·have q12b : (((rd_T74 l a).f0) == (12)) = true := beq_iff_eq.mpr q12
    by_cases qw : wrap64 (la + 1) ≤ (rd_T74 l nx).f1 ∧ (rd_T74 l nx).f1 ≤ 1000
    ·have HWI := Aside0.mk (show impl_within.f ((rd_T74 l nx).f1) (wrap64 (la + 1)) 1000 = some true from by unfold impl_within.f;rw [if_pos qw.1, decide_eq_true qw.2])
     have hneg : ¬ badPart l a nx la := by unfold badPart;omega
     clear q9 q12 qw
     rw [if_neg (show ¬ badPart l a nx la from hneg)] at h
     replace h := Option.bind_eq_some_iff.mp h;obtain ⟨⟨t1, af2⟩, hcall, h⟩ := h
     have HC := Aside0.mk hcall
     clear hcall
     simp only at h
     by_cases ct : t1 < 0
     ·rw [if_pos ct] at h
      obtain ⟨rfl, rfl⟩ := Prod.mk.inj (Option.some.inj h)
      clear h
      have ctb : decide (t1 < 0) = true := decide_eq_true ct
      clear ct
      go_wp2_with (first|((with_reducible refine gate_dst (N := 10) rfl ?_);refine box_event ?hg (N := 10) ?hd (cs := #[.int .i64 0, .int .i64 0, .int .i64 0, .string (⟨#[]⟩ : ByteArray), .int .i64 0]) (t := 74) ?hr ?_;(case hd => rfl);(case hg => rfl);(case hr => first|(go_simp;done)|(go_simp;rfl));intro gb2 hgb2 w23 hbox hb2;have BK2 := Aside0.mk hbox;have HB3 := Aside0.mk hb2;have HGE3 := Aside0.mk (show wr.heap.size ≤ gb2 from by rw [hgb2];exact Nat.le_refl _);have hne1 : gb ≠ gb2 := fun e_ => absurd (blk_lt BK.out) (by rw [e_, hgb2];exact Nat.lt_irrefl _);have hne2 : gb2 ≠ gb := fun e_ => hne1 e_.symm;clear hbox hb2 hgb2;have hq0 : w23.cell? ⟨gb2, 0, none⟩ = some (.int .i64 0) := (blk_cell BK2.out 0).trans rfl;have hq1 : w23.cell? ⟨gb2, 1, none⟩ = some (.int .i64 0) := (blk_cell BK2.out 1).trans rfl;have hq2 : w23.cell? ⟨gb2, 2, none⟩ = some (.int .i64 0) := (blk_cell BK2.out 2).trans rfl;have hq3 : w23.cell? ⟨gb2, 3, none⟩ = some (.string (⟨#[]⟩ : ByteArray)) := (blk_cell BK2.out 3).trans rfl;have hq4 : w23.cell? ⟨gb2, 4, none⟩ = some (.int .i64 0) := (blk_cell BK2.out 4).trans rfl;have hu0 := blk_frozen BK2.out 0;have hu1 := blk_frozen BK2.out 1;have hu2 := blk_frozen BK2.out 2;have hu3 := blk_frozen BK2.out 3;have hu4 := blk_frozen BK2.out 4;have hm0 : w23.cell? ⟨gb, 0, none⟩ = some (.int .i64 (rd_T74 l a).f0) := (blk_cell (blk_below BK.out HB3.out) 0).trans rfl;have hm2 : w23.cell? ⟨gb, 2, none⟩ = some (.int .i64 (rd_T74 l a).f2) := (blk_cell (blk_below BK.out HB3.out) 2).trans rfl)|(go_at_call 62;(with_reducible refine (impl_within.calls _ _ _ true _ HWI.out).mono ?_);rintro e w24 ⟨rfl, ⟨nd, rfl⟩⟩;(try first|exact ⟨rfl, _, World.drewN_drewN _ _ _⟩))|(go_at_call 94;(with_reducible refine (IH.out k2 (by have := HK2.out;omega) g B (some ad) c cB l nx (wrap64 (dp + 1)) afc t1 af2 _ n HL.out ?s1 ?s2 HGB.out HA.out ?s3 ?s4 HC.out).mono ?_);(case s1 => exact Nat.lt_of_lt_of_le HBS.out (HF.out.below (by repeat (first|(with_reducible first|exact HB3.out|refine below_set ?_ HGE3.out|apply pw_below_drewN)|exact HB3.out))).2.2.2.1);(case s2 => exact (HF.out.below (by repeat (first|(with_reducible first|exact HB3.out|refine below_set ?_ HGE3.out|apply pw_below_drewN)|exact HB3.out))).blk HG.out HGB.out);(case s3 => exact list_far HR.out (HF.out.below (by repeat (first|(with_reducible first|exact HB3.out|refine below_set ?_ HGE3.out|apply pw_below_drewN)|exact HB3.out))) HA.out);(case s4 => exact own_far HO2.out (by repeat (first|(with_reducible first|exact HB3.out|refine below_set ?_ HGE3.out|apply pw_below_drewN)|exact HB3.out)));rintro e w3 ⟨rfl, hfar, hlen, hO3⟩;have HF4 := Aside0.mk ((HF.out.below (by repeat (first|(with_reducible first|exact HB3.out|refine below_set ?_ HGE3.out|apply pw_below_drewN)|exact HB3.out))).trans hfar);have BK4 := Aside0.mk (hfar.blk (blk_below BK.out (by repeat (first|(with_reducible first|exact HB3.out|refine below_set ?_ HGE3.out|apply pw_below_drewN)|exact HB3.out))) HGN.out);have HL4 := Aside0.mk hlen;have HO4 := Aside0.mk hO3;clear hfar hlen hO3))
      go_ret
      exact ⟨rfl, HF4.out, (by first|exact trivial|exact HL4.out), HO4.out⟩
     ·rw [if_neg ct] at h
      have H' := Aside0.mk h
      clear h
      have ctb : decide (t1 < 0) = false := decide_eq_false ct
      clear ct
      go_wp2_with (first|((with_reducible refine gate_dst (N := 10) rfl ?_);refine box_event ?hg (N := 10) ?hd (cs := #[.int .i64 0, .int .i64 0, .int .i64 0, .string (⟨#[]⟩ : ByteArray), .int .i64 0]) (t := 74) ?hr ?_;(case hd => rfl);(case hg => rfl);(case hr => first|(go_simp;done)|(go_simp;rfl));intro gb2 hgb2 w23 hbox hb2;have BK2 := Aside0.mk hbox;have HB3 := Aside0.mk hb2;have HGE3 := Aside0.mk (show wr.heap.size ≤ gb2 from by rw [hgb2];exact Nat.le_refl _);have hne1 : gb ≠ gb2 := fun e_ => absurd (blk_lt BK.out) (by rw [e_, hgb2];exact Nat.lt_irrefl _);have hne2 : gb2 ≠ gb := fun e_ => hne1 e_.symm;clear hbox hb2 hgb2;have hq0 : w23.cell? ⟨gb2, 0, none⟩ = some (.int .i64 0) := (blk_cell BK2.out 0).trans rfl;have hq1 : w23.cell? ⟨gb2, 1, none⟩ = some (.int .i64 0) := (blk_cell BK2.out 1).trans rfl;have hq2 : w23.cell? ⟨gb2, 2, none⟩ = some (.int .i64 0) := (blk_cell BK2.out 2).trans rfl;have hq3 : w23.cell? ⟨gb2, 3, none⟩ = some (.string (⟨#[]⟩ : ByteArray)) := (blk_cell BK2.out 3).trans rfl;have hq4 : w23.cell? ⟨gb2, 4, none⟩ = some (.int .i64 0) := (blk_cell BK2.out 4).trans rfl;have hu0 := blk_frozen BK2.out 0;have hu1 := blk_frozen BK2.out 1;have hu2 := blk_frozen BK2.out 2;have hu3 := blk_frozen BK2.out 3;have hu4 := blk_frozen BK2.out 4;have hm0 : w23.cell? ⟨gb, 0, none⟩ = some (.int .i64 (rd_T74 l a).f0) := (blk_cell (blk_below BK.out HB3.out) 0).trans rfl;have hm2 : w23.cell? ⟨gb, 2, none⟩ = some (.int .i64 (rd_T74 l a).f2) := (blk_cell (blk_below BK.out HB3.out) 2).trans rfl)|(go_at_call 62;(with_reducible refine (impl_within.calls _ _ _ true _ HWI.out).mono ?_);rintro e w24 ⟨rfl, ⟨nd, rfl⟩⟩;(try first|exact ⟨rfl, _, World.drewN_drewN _ _ _⟩))|(go_at_call 94;(with_reducible refine (IH.out k2 (by have := HK2.out;omega) g B (some ad) c cB l nx (wrap64 (dp + 1)) afc t1 af2 _ n HL.out ?s1 ?s2 HGB.out HA.out ?s3 ?s4 HC.out).mono ?_);(case s1 => exact Nat.lt_of_lt_of_le HBS.out (HF.out.below (by repeat (first|(with_reducible first|exact HB3.out|refine below_set ?_ HGE3.out|apply pw_below_drewN)|exact HB3.out))).2.2.2.1);(case s2 => exact (HF.out.below (by repeat (first|(with_reducible first|exact HB3.out|refine below_set ?_ HGE3.out|apply pw_below_drewN)|exact HB3.out))).blk HG.out HGB.out);(case s3 => exact list_far HR.out (HF.out.below (by repeat (first|(with_reducible first|exact HB3.out|refine below_set ?_ HGE3.out|apply pw_below_drewN)|exact HB3.out))) HA.out);(case s4 => exact own_far HO2.out (by repeat (first|(with_reducible first|exact HB3.out|refine below_set ?_ HGE3.out|apply pw_below_drewN)|exact HB3.out)));rintro e w3 ⟨rfl, hfar, hlen, hO3⟩;have HF4 := Aside0.mk ((HF.out.below (by repeat (first|(with_reducible first|exact HB3.out|refine below_set ?_ HGE3.out|apply pw_below_drewN)|exact HB3.out))).trans hfar);have BK4 := Aside0.mk (hfar.blk (blk_below BK.out (by repeat (first|(with_reducible first|exact HB3.out|refine below_set ?_ HGE3.out|apply pw_below_drewN)|exact HB3.out))) HGN.out);have HL4 := Aside0.mk hlen;have HO4 := Aside0.mk hO3;clear hfar hlen hO3))
      go_roundg k2
      case measure => omega
      case rel => exact ⟨t1, (rd_T74 l nx).f1, wrap64 (i + 1), af2, (by first|rfl|(simp;done)|(simp [*];done)), (by first|rfl|(simp;done)|(simp [*];done)), (by first|rfl|(simp;done)|(simp [*];done)), H', ⟨by have := HK2.out;omega⟩, BK4, HF4, HL4, HO4⟩
    ·have HWI := Aside0.mk (show impl_within.f ((rd_T74 l nx).f1) (wrap64 (la + 1)) 1000 = some false from by unfold impl_within.f;split;(rw [decide_eq_false (fun h_ => qw ⟨by omega, h_⟩)]);rfl)
     have hneg : badPart l a nx la := by unfold badPart;omega
     clear q9 q12 qw
     rw [if_pos (show badPart l a nx la from hneg)] at h
     obtain ⟨rfl, rfl⟩ := Prod.mk.inj (Option.some.inj h)
     clear h
     go_wp2_with (first|((with_reducible refine gate_dst (N := 10) rfl ?_);refine box_event ?hg (N := 10) ?hd (cs := #[.int .i64 0, .int .i64 0, .int .i64 0, .string (⟨#[]⟩ : ByteArray), .int .i64 0]) (t := 74) ?hr ?_;(case hd => rfl);(case hg => rfl);(case hr => first|(go_simp;done)|(go_simp;rfl));intro gb2 hgb2 w23 hbox hb2;have BK2 := Aside0.mk hbox;have HB3 := Aside0.mk hb2;have HGE3 := Aside0.mk (show wr.heap.size ≤ gb2 from by rw [hgb2];exact Nat.le_refl _);have hne1 : gb ≠ gb2 := fun e_ => absurd (blk_lt BK.out) (by rw [e_, hgb2];exact Nat.lt_irrefl _);have hne2 : gb2 ≠ gb := fun e_ => hne1 e_.symm;clear hbox hb2 hgb2;have hq0 : w23.cell? ⟨gb2, 0, none⟩ = some (.int .i64 0) := (blk_cell BK2.out 0).trans rfl;have hq1 : w23.cell? ⟨gb2, 1, none⟩ = some (.int .i64 0) := (blk_cell BK2.out 1).trans rfl;have hq2 : w23.cell? ⟨gb2, 2, none⟩ = some (.int .i64 0) := (blk_cell BK2.out 2).trans rfl;have hq3 : w23.cell? ⟨gb2, 3, none⟩ = some (.string (⟨#[]⟩ : ByteArray)) := (blk_cell BK2.out 3).trans rfl;have hq4 : w23.cell? ⟨gb2, 4, none⟩ = some (.int .i64 0) := (blk_cell BK2.out 4).trans rfl;have hu0 := blk_frozen BK2.out 0;have hu1 := blk_frozen BK2.out 1;have hu2 := blk_frozen BK2.out 2;have hu3 := blk_frozen BK2.out 3;have hu4 := blk_frozen BK2.out 4;have hm0 : w23.cell? ⟨gb, 0, none⟩ = some (.int .i64 (rd_T74 l a).f0) := (blk_cell (blk_below BK.out HB3.out) 0).trans rfl;have hm2 : w23.cell? ⟨gb, 2, none⟩ = some (.int .i64 (rd_T74 l a).f2) := (blk_cell (blk_below BK.out HB3.out) 2).trans rfl)|(go_at_call 62;(with_reducible refine (impl_within.calls _ _ _ false _ HWI.out).mono ?_);rintro e w24 ⟨rfl, ⟨nd, rfl⟩⟩;(try first|exact ⟨rfl, _, World.drewN_drewN _ _ _⟩)))
     go_ret
     exact ⟨rfl, HF.out.below (by repeat (first|(with_reducible first|exact HB3.out|refine below_set ?_ HGE3.out|apply pw_below_drewN)|exact HB3.out)), (by first|exact trivial|exact HL.out), own_far HO2.out (by repeat (first|(with_reducible first|exact HB3.out|refine below_set ?_ HGE3.out|apply pw_below_drewN)|exact HB3.out))⟩
   ·have q12b : (((rd_T74 l a).f0) == (12)) = false := beq_eq_false_iff_ne.mpr q12
    have hneg : ¬ badPart l a nx la := by unfold badPart;omega
    clear q9 q12
    rw [if_neg (show ¬ badPart l a nx la from hneg)] at h
    replace h := Option.bind_eq_some_iff.mp h;obtain ⟨⟨t1, af2⟩, hcall, h⟩ := h
    have HC := Aside0.mk hcall
    clear hcall
    simp only at h
    by_cases ct : t1 < 0
    ·rw [if_pos ct] at h
     obtain ⟨rfl, rfl⟩ := Prod.mk.inj (Option.some.inj h)
     clear h
     have ctb : decide (t1 < 0) = true := decide_eq_true ct
     clear ct
     go_wp2_with (first|((with_reducible refine gate_dst (N := 10) rfl ?_);refine box_event ?hg (N := 10) ?hd (cs := #[.int .i64 0, .int .i64 0, .int .i64 0, .string (⟨#[]⟩ : ByteArray), .int .i64 0]) (t := 74) ?hr ?_;(case hd => rfl);(case hg => rfl);(case hr => first|(go_simp;done)|(go_simp;rfl));intro gb2 hgb2 w23 hbox hb2;have BK2 := Aside0.mk hbox;have HB3 := Aside0.mk hb2;have HGE3 := Aside0.mk (show wr.heap.size ≤ gb2 from by rw [hgb2];exact Nat.le_refl _);have hne1 : gb ≠ gb2 := fun e_ => absurd (blk_lt BK.out) (by rw [e_, hgb2];exact Nat.lt_irrefl _);have hne2 : gb2 ≠ gb := fun e_ => hne1 e_.symm;clear hbox hb2 hgb2;have hq0 : w23.cell? ⟨gb2, 0, none⟩ = some (.int .i64 0) := (blk_cell BK2.out 0).trans rfl;have hq1 : w23.cell? ⟨gb2, 1, none⟩ = some (.int .i64 0) := (blk_cell BK2.out 1).trans rfl;have hq2 : w23.cell? ⟨gb2, 2, none⟩ = some (.int .i64 0) := (blk_cell BK2.out 2).trans rfl;have hq3 : w23.cell? ⟨gb2, 3, none⟩ = some (.string (⟨#[]⟩ : ByteArray)) := (blk_cell BK2.out 3).trans rfl;have hq4 : w23.cell? ⟨gb2, 4, none⟩ = some (.int .i64 0) := (blk_cell BK2.out 4).trans rfl;have hu0 := blk_frozen BK2.out 0;have hu1 := blk_frozen BK2.out 1;have hu2 := blk_frozen BK2.out 2;have hu3 := blk_frozen BK2.out 3;have hu4 := blk_frozen BK2.out 4;have hm0 : w23.cell? ⟨gb, 0, none⟩ = some (.int .i64 (rd_T74 l a).f0) := (blk_cell (blk_below BK.out HB3.out) 0).trans rfl;have hm2 : w23.cell? ⟨gb, 2, none⟩ = some (.int .i64 (rd_T74 l a).f2) := (blk_cell (blk_below BK.out HB3.out) 2).trans rfl)|(go_at_call 94;(with_reducible refine (IH.out k2 (by have := HK2.out;omega) g B (some ad) c cB l nx (wrap64 (dp + 1)) afc t1 af2 _ n HL.out ?s1 ?s2 HGB.out HA.out ?s3 ?s4 HC.out).mono ?_);(case s1 => exact Nat.lt_of_lt_of_le HBS.out (HF.out.below (by repeat (first|(with_reducible first|exact HB3.out|refine below_set ?_ HGE3.out|apply pw_below_drewN)|exact HB3.out))).2.2.2.1);(case s2 => exact (HF.out.below (by repeat (first|(with_reducible first|exact HB3.out|refine below_set ?_ HGE3.out|apply pw_below_drewN)|exact HB3.out))).blk HG.out HGB.out);(case s3 => exact list_far HR.out (HF.out.below (by repeat (first|(with_reducible first|exact HB3.out|refine below_set ?_ HGE3.out|apply pw_below_drewN)|exact HB3.out))) HA.out);(case s4 => exact own_far HO2.out (by repeat (first|(with_reducible first|exact HB3.out|refine below_set ?_ HGE3.out|apply pw_below_drewN)|exact HB3.out)));rintro e w3 ⟨rfl, hfar, hlen, hO3⟩;have HF4 := Aside0.mk ((HF.out.below (by repeat (first|(with_reducible first|exact HB3.out|refine below_set ?_ HGE3.out|apply pw_below_drewN)|exact HB3.out))).trans hfar);have BK4 := Aside0.mk (hfar.blk (blk_below BK.out (by repeat (first|(with_reducible first|exact HB3.out|refine below_set ?_ HGE3.out|apply pw_below_drewN)|exact HB3.out))) HGN.out);have HL4 := Aside0.mk hlen;have HO4 := Aside0.mk hO3;clear hfar hlen hO3))
     go_ret
     exact ⟨rfl, HF4.out, (by first|exact trivial|exact HL4.out), HO4.out⟩
    ·rw [if_neg ct] at h
     have H' := Aside0.mk h
     clear h
     have ctb : decide (t1 < 0) = false := decide_eq_false ct
     clear ct
     go_wp2_with (first|((with_reducible refine gate_dst (N := 10) rfl ?_);refine box_event ?hg (N := 10) ?hd (cs := #[.int .i64 0, .int .i64 0, .int .i64 0, .string (⟨#[]⟩ : ByteArray), .int .i64 0]) (t := 74) ?hr ?_;(case hd => rfl);(case hg => rfl);(case hr => first|(go_simp;done)|(go_simp;rfl));intro gb2 hgb2 w23 hbox hb2;have BK2 := Aside0.mk hbox;have HB3 := Aside0.mk hb2;have HGE3 := Aside0.mk (show wr.heap.size ≤ gb2 from by rw [hgb2];exact Nat.le_refl _);have hne1 : gb ≠ gb2 := fun e_ => absurd (blk_lt BK.out) (by rw [e_, hgb2];exact Nat.lt_irrefl _);have hne2 : gb2 ≠ gb := fun e_ => hne1 e_.symm;clear hbox hb2 hgb2;have hq0 : w23.cell? ⟨gb2, 0, none⟩ = some (.int .i64 0) := (blk_cell BK2.out 0).trans rfl;have hq1 : w23.cell? ⟨gb2, 1, none⟩ = some (.int .i64 0) := (blk_cell BK2.out 1).trans rfl;have hq2 : w23.cell? ⟨gb2, 2, none⟩ = some (.int .i64 0) := (blk_cell BK2.out 2).trans rfl;have hq3 : w23.cell? ⟨gb2, 3, none⟩ = some (.string (⟨#[]⟩ : ByteArray)) := (blk_cell BK2.out 3).trans rfl;have hq4 : w23.cell? ⟨gb2, 4, none⟩ = some (.int .i64 0) := (blk_cell BK2.out 4).trans rfl;have hu0 := blk_frozen BK2.out 0;have hu1 := blk_frozen BK2.out 1;have hu2 := blk_frozen BK2.out 2;have hu3 := blk_frozen BK2.out 3;have hu4 := blk_frozen BK2.out 4;have hm0 : w23.cell? ⟨gb, 0, none⟩ = some (.int .i64 (rd_T74 l a).f0) := (blk_cell (blk_below BK.out HB3.out) 0).trans rfl;have hm2 : w23.cell? ⟨gb, 2, none⟩ = some (.int .i64 (rd_T74 l a).f2) := (blk_cell (blk_below BK.out HB3.out) 2).trans rfl)|(go_at_call 94;(with_reducible refine (IH.out k2 (by have := HK2.out;omega) g B (some ad) c cB l nx (wrap64 (dp + 1)) afc t1 af2 _ n HL.out ?s1 ?s2 HGB.out HA.out ?s3 ?s4 HC.out).mono ?_);(case s1 => exact Nat.lt_of_lt_of_le HBS.out (HF.out.below (by repeat (first|(with_reducible first|exact HB3.out|refine below_set ?_ HGE3.out|apply pw_below_drewN)|exact HB3.out))).2.2.2.1);(case s2 => exact (HF.out.below (by repeat (first|(with_reducible first|exact HB3.out|refine below_set ?_ HGE3.out|apply pw_below_drewN)|exact HB3.out))).blk HG.out HGB.out);(case s3 => exact list_far HR.out (HF.out.below (by repeat (first|(with_reducible first|exact HB3.out|refine below_set ?_ HGE3.out|apply pw_below_drewN)|exact HB3.out))) HA.out);(case s4 => exact own_far HO2.out (by repeat (first|(with_reducible first|exact HB3.out|refine below_set ?_ HGE3.out|apply pw_below_drewN)|exact HB3.out)));rintro e w3 ⟨rfl, hfar, hlen, hO3⟩;have HF4 := Aside0.mk ((HF.out.below (by repeat (first|(with_reducible first|exact HB3.out|refine below_set ?_ HGE3.out|apply pw_below_drewN)|exact HB3.out))).trans hfar);have BK4 := Aside0.mk (hfar.blk (blk_below BK.out (by repeat (first|(with_reducible first|exact HB3.out|refine below_set ?_ HGE3.out|apply pw_below_drewN)|exact HB3.out))) HGN.out);have HL4 := Aside0.mk hlen;have HO4 := Aside0.mk hO3;clear hfar hlen hO3))
     go_roundg k2
     case measure => omega
     case rel => exact ⟨t1, (rd_T74 l nx).f1, wrap64 (i + 1), af2, (by first|rfl|(simp;done)|(simp [*];done)), (by first|rfl|(simp;done)|(simp [*];done)), (by first|rfl|(simp;done)|(simp [*];done)), H', ⟨by have := HK2.out;omega⟩, BK4, HF4, HL4, HO4⟩

theorem impl_tree_measure.mono_l : ∀ k, (∀ l a dp af, LeO (impl_tree_measure.f k l a dp af) (impl_tree_measure.f (k + 1) l a dp af)) ∧ (∀ l a dp af nx la i, LeO (impl_tree_measure.l0 k l a dp af nx la i) (impl_tree_measure.l0 (k + 1) l a dp af nx la i))
 | 0 => ⟨fun _ _ _ _ => by unfold impl_tree_measure.f;exact LeO.none _, fun _ _ _ _ _ _ _ => by unfold impl_tree_measure.l0;exact LeO.none _⟩
 | k + 1 => by
  obtain ⟨ih0, ih1⟩ := impl_tree_measure.mono_l k
  refine ⟨fun l a dp af => ?_, fun l a dp af nx la i => ?_⟩
  ·unfold impl_tree_measure.f
   repeat' first
    |(with_reducible exact ih1 _ _ _ _ _ _ _)
    |(with_reducible exact impl_nodeOk.mono _ _ _ _ _ _)
    |(with_reducible exact LeO.refl _)
    | refine LeO.ite ?_ ?_
    | refine LeO.bind ?_ (fun _ => ?_)
  ·unfold impl_tree_measure.l0
   repeat' first
    |(with_reducible exact ih0 _ _ _ _)
    |(with_reducible exact ih1 _ _ _ _ _ _ _)
    |(with_reducible exact LeO.refl _)
    | refine LeO.ite ?_ ?_
    | refine LeO.bind ?_ (fun _ => ?_)

def impl_treeOf.f (k : Nat) (l : List S74) : Option (Bool × List Int) := if 1 ≤ l.length ∧ l.length ≤ 1500 then (if (rd_T74 l 0).f0 = 12 then (if (rd_T74 l 0).f1 = 0 then ((impl_tree_measure.f k l 0 1 (List.replicate l.length 0)).bind fun t => if t.1 = (l.length : Int) then some (true, t.2) else some (false, [])) else some (false, [])) else some (false, [])) else some (false, [])
theorem tinfo3 : (Try.prog.info? 3).map (fun i => (i.zero, i.size, i.bytes)) = some (some (.int .i64 0), 1, 8) := by kernel_rfl
theorem below_zero (w : World) : Below 0 w w := Below.refl 0 w
theorem below_drewN_ (w : World) (m : Nat) : Below w.heap.size w (w.drewN m) := pw_below_drewN (Below.refl _ w) m
theorem below_join {w w1 w2 : World} (h : Below w.heap.size w w1) (k : Below w1.heap.size w1 w2) : Below w.heap.size w w2 := below_step h k
theorem below_of_grown {w w1 : World} (h : w.grownBy w1 none) : Below w.heap.size w w1 := ⟨h.os, h.tape, h.output, h.size, fun i hi => h.block i hi (by simp)⟩
theorem own_shape {w : World} {B : Nat} {v : Value} {xs : List Int} (h : Kd.R (Kd.int .i64) 3 w 0 (fun k => k = B) v xs) (hx : xs ≠ []) : ∃ cB, v = .slice (some ⟨B, 0, none⟩) xs.length cB := by
 obtain ⟨h0, inner, ho, hr⟩ := h
 rcases ho.2 with ⟨rfl, hn⟩ | ⟨g, cap, cur, rfl, -⟩
 ·exact absurd (List.length_eq_zero_iff.mp hn) hx
 ·have := h0 g rfl
  subst this
  exact ⟨cap, rfl⟩
theorem sz_of_own {w : World} {B n c : Nat} {xs : List Int} (h : Kd.R (Kd.int .i64) 3 w 0 (fun k => k = B) (.slice (some ⟨B, 0, none⟩) n c) xs) : B < w.heap.size := Kd.R_lt h B rfl
theorem sz_lt {w w1 w2 : World} {B n c : Nat} {xs : List Int} (h : Kd.R (Kd.int .i64) 3 w 0 (fun k => k = B) (.slice (some ⟨B, 0, none⟩) n c) xs) (hb : Below w.heap.size w w1) (hb2 : Below w1.heap.size w1 w2) : B < w2.heap.size := Nat.lt_of_lt_of_le (sz_of_own h) (Nat.le_trans hb.size hb2.size)
theorem ne_sz {w : World} {B n c : Nat} {xs : List Int} (h : Kd.R (Kd.int .i64) 3 w 0 (fun k => k = B) (.slice (some ⟨B, 0, none⟩) n c) xs) : w.heap.size ≠ B := Nat.ne_of_gt (sz_of_own h)
def IsTree (w w' : World) (A : Option Addr) (c : Nat) (l : List S74) (g : Nat) (af : List Int) : Prop := ∃ B cB, w.heap.size ≤ B ∧ B < g ∧ w'.heap[g]? = some (.cells #[.slice A l.length c, .slice (some ⟨B, 0, none⟩) l.length cB] 81 (0, 0)) ∧ af.length = l.length ∧ Kd.R (Kd.int .i64) 3 w' 0 (fun k => k = B) (.slice (some ⟨B, 0, none⟩) l.length cB) af
def TreeOut (w : World) (A : Option Addr) (c : Nat) (l : List S74) (r : Bool × List Int) (e : Ending) (w' : World) : Prop := Below w.heap.size w w' ∧ ((r.1 = true ∧ ∃ g, e = .returned (.tuple #[.pointer (some ⟨g, 0, none⟩), .bool true]) ∧ IsTree w w' A c l g r.2) ∨ (r.1 = false ∧ e = .returned (.tuple #[.pointer none, .bool false])))
theorem cell_root {w w1 : World} {B : Nat} {A : Option Addr} {l : List S74} (hr : Kd.C k74 w A l.length l) (hf : Far B w w1) (hA : ∀ ad, A = some ad → ad.block ≠ B) (h1 : (0 : Int) < (l.length : Int)) :
  ∃ ad, A = some ad ∧ w1.cell? ad = some (.int .i64 (rd_T74 l 0).f0) ∧ w1.cell? ⟨ad.block, ad.off + 1, none⟩ = some (.int .i64 (rd_T74 l 0).f1) ∧ w1.cell? ⟨ad.block, ad.off + 2, none⟩ = some (.int .i64 (rd_T74 l 0).f2) ∧ w1.cell? ⟨ad.block, ad.off + 3, none⟩ = some (.string (rd_T74 l 0).f3) ∧ w1.cell? ⟨ad.block, ad.off + 4, none⟩ = some (.int .i64 (rd_T74 l 0).f4) := by
 obtain ⟨ad, e, x0, x1, x2, x3, x4⟩ := cell_list hr hf hA 0 (Int.le_refl 0) h1
 have e0 : ad.add ((0 : Int).toNat * 5) = ad := by simp [Addr.add]
 rw [e0] at x0 x1 x2 x3 x4
 exact ⟨ad, e, x0, x1, x2, x3, x4⟩
theorem tree_below {w w1 w2 w3 : World} {B : Nat} (h : Below w.heap.size w w1) (h2 : Below w1.heap.size w1 w2) (k : Far B w2 w3) (hB : w.heap.size ≤ B) : Below w.heap.size w w3 := by
 have j := below_join h h2
 exact ⟨k.1.trans j.os, k.2.1.trans j.tape, k.2.2.1.trans j.output, Nat.le_trans j.size k.2.2.2.1, fun i hi => (k.2.2.2.2 i (Nat.lt_of_lt_of_le hi j.size) (Nat.ne_of_lt (Nat.lt_of_lt_of_le hi hB))).trans (j.block i hi)⟩
theorem far_of_C {w : World} {A : Option Addr} {l : List S74} (hr : Kd.C k74 w A l.length l) (h0 : 0 < l.length) : ∀ ad, A = some ad → ad.block ≠ w.heap.size := by
 intro ad e hb
 obtain ⟨ad', e', x0, -⟩ := at_T74 hr 0 (Int.le_refl 0) (by omega)
 obtain rfl : ad = ad' := by rw [e] at e';injection e'
 have := World.block_lt_of_cell? w _ x0
 rw [add_block] at this
 omega
set_option maxHeartbeats 8000000 in
set_option maxRecDepth 100000 in
theorem impl_treeOf.calls (k : Nat) (A : Option Addr) (c : Nat) (l : List S74) (r : Bool × List Int) (w : World) (hr : Kd.C k74 w A l.length l) (hc0 : l.length ≤ c) (h : impl_treeOf.f k l = some r) :
  Calls Try.prog 69 #[.slice A l.length c] w fun e w' => TreeOut w A c l r e w' := by
 unfold impl_treeOf.f at h
 have hu74 := Try.underlying74
 have HR := Aside0.mk hr
 by_cases c1 : 1 ≤ l.length ∧ l.length ≤ 1500
 case neg =>
  rw [if_neg c1] at h
  obtain rfl := Option.some.inj h
  clear h
  have HWI := Aside0.mk (show impl_within.f (l.length : Int) 1 1500 = some false from by unfold impl_within.f;split;(rw [decide_eq_false (fun h_ => c1 ⟨by omega, by omega⟩)]);rfl)
  clear hr c1
  go_enter Try.func69, Try.ntmps69
  go_wp2_with (first|(go_at_call 62;(with_reducible refine (impl_within.calls _ _ _ false _ HWI.out).mono ?_);rintro e w24 ⟨rfl, ⟨nd, rfl⟩⟩;(try first|exact ⟨rfl, _, World.drewN_drewN _ _ _⟩)))
  go_ret2
  exact ⟨below_drewN_ w _, .inr ⟨rfl, rfl⟩⟩
 rw [if_pos c1] at h
 have HWI := Aside0.mk (show impl_within.f (l.length : Int) 1 1500 = some true from by unfold impl_within.f;split;(rw [decide_eq_true (by omega)]);omega)
 have c2 := c1.2
 have c4 : (0 : Int) < (l.length : Int) := by omega
 have C4 := Aside0.mk c4
 obtain ⟨ad, eA, x0, x1, x2, x3, x4⟩ := cell_list HR.out (Far.refl w.heap.size w) (far_of_C HR.out (by omega)) 0 (Int.le_refl 0) c4
 subst eA
 have HA := Aside0.mk (far_of_C HR.out (by omega))
 clear hr
 have c4b : decide ((0 : Int) < (l.length : Int)) = true := decide_eq_true c4
 have c4 := eq_true c4
 by_cases q12 : (rd_T74 l 0).f0 = 12
 case neg =>
  rw [if_neg q12] at h
  obtain rfl := Option.some.inj h
  clear h
  have q12b : ((rd_T74 l 0).f0 == 12) = false := beq_eq_false_iff_ne.mpr q12
  have q12c : ((rd_T74 l 0).f0 != 12) = true := bne_iff_ne.mpr q12
  clear q12
  go_enter Try.func69, Try.ntmps69
  go_wp2_with (first|(go_at_call 62;(with_reducible refine (impl_within.calls _ _ _ true _ HWI.out).mono ?_);rintro e w24 ⟨rfl, ⟨nd, rfl⟩⟩;(try first|exact ⟨rfl, _, World.drewN_drewN _ _ _⟩))|((with_reducible refine gate_dst (N := 13) rfl ?_);refine Kd.R_make (Kd.int .i64) 0 3 rfl (N := 13) rfl 42 _ _ rfl (l.length : Int) rfl rfl Try.underlying42 (.int .i64 0) 8 tinfo3 rfl (by decide) (by omega) 0 (ok := fun k_ => k_ = (w.drewN nd).heap.size) (okp := fun _ => False) rfl (fun _ hk => hk.elim) rfl (by omega) (by have := c2;omega) (below_zero _) (Nat.zero_le _) ?_;intro v1 w1 ho hb_ hg1 hnew;clear hb_;simp only [Int.toNat_natCast] at ho;obtain ⟨cB, rfl⟩ := own_shape ho (by intro e_;rw [List.replicate_eq_nil_iff] at e_;omega);simp only [List.length_replicate] at ho;clear hnew;have HM := Aside0.mk ho;have HG1 := Aside0.mk (below_of_grown hg1);clear ho hg1)|((with_reducible refine gate_dst (N := 15) rfl ?_);refine box_event ?hg (N := 15) ?hd (cs := #[.slice (some ad) l.length c, .slice (some ⟨(w.drewN nd).heap.size, 0, none⟩) l.length cB]) (t := 81) ?hr ?_;(case hd => rfl);(case hg => rfl);(case hr => first|(go_simp;done)|(go_simp;rfl));intro g hg w2 hbox hb2;have HGV := Aside0.mk hg;have BG := Aside0.mk hbox;have HB1 := Aside0.mk hb2;clear hg hbox hb2;obtain ⟨ad', eA', y0, y1, y2, y3, y4⟩ := cell_root HR.out (Far.of_below (B := w.heap.size) (below_join (below_join (below_drewN_ w nd) HG1.out) HB1.out)) HA.out C4.out;obtain rfl : ad = ad' := (by injection eA');clear eA')|((with_reducible refine gate_dst (N := 5) rfl ?_);refine box_event ?hg (N := 5) ?hd (cs := #[.int .i64 0, .int .i64 0, .int .i64 0, .string (⟨#[]⟩ : ByteArray), .int .i64 0]) (t := 74) ?hr ?_;(case hd => rfl);(case hg => rfl);(case hr => first|(go_simp;done)|(go_simp;rfl));intro gb hgb w14 hbox hb2;have BK0 := Aside0.mk hbox;have HB2 := Aside0.mk hb2;have HGE := Aside0.mk hgb;clear hbox hb2 hgb;have hz0 : w14.cell? ⟨gb, 0, none⟩ = some (.int .i64 0) := (blk_cell BK0.out 0).trans rfl;have hz1 : w14.cell? ⟨gb, 1, none⟩ = some (.int .i64 0) := (blk_cell BK0.out 1).trans rfl;have hz2 : w14.cell? ⟨gb, 2, none⟩ = some (.int .i64 0) := (blk_cell BK0.out 2).trans rfl;have hz3 : w14.cell? ⟨gb, 3, none⟩ = some (.string (⟨#[]⟩ : ByteArray)) := (blk_cell BK0.out 3).trans rfl;have hz4 : w14.cell? ⟨gb, 4, none⟩ = some (.int .i64 0) := (blk_cell BK0.out 4).trans rfl;have hf0 := blk_frozen BK0.out 0;have hf1 := blk_frozen BK0.out 1;have hf2 := blk_frozen BK0.out 2;have hf3 := blk_frozen BK0.out 3;have hf4 := blk_frozen BK0.out 4))
  go_ret2
  exact ⟨below_join (below_join (below_drewN_ w _) HG1.out) (below_join HB1.out (by repeat (first|exact HB2.out|apply pw_below_drewN|refine below_set ?_ (Nat.le_of_eq HGE.out.symm)))), .inr ⟨rfl, rfl⟩⟩
 rw [if_pos q12] at h
 have q12b : ((rd_T74 l 0).f0 == 12) = true := beq_iff_eq.mpr q12
 have q12c : ((rd_T74 l 0).f0 != 12) = false := bne_eq_false_iff_eq.mpr q12
 clear q12
 by_cases q0 : (rd_T74 l 0).f1 = 0
 case neg =>
  rw [if_neg q0] at h
  obtain rfl := Option.some.inj h
  clear h
  have q0b : ((rd_T74 l 0).f1 == 0) = false := beq_eq_false_iff_ne.mpr q0
  have q0c : ((rd_T74 l 0).f1 != 0) = true := bne_iff_ne.mpr q0
  clear q0
  go_enter Try.func69, Try.ntmps69
  go_wp2_with (first|(go_at_call 62;(with_reducible refine (impl_within.calls _ _ _ true _ HWI.out).mono ?_);rintro e w24 ⟨rfl, ⟨nd, rfl⟩⟩;(try first|exact ⟨rfl, _, World.drewN_drewN _ _ _⟩))|((with_reducible refine gate_dst (N := 13) rfl ?_);refine Kd.R_make (Kd.int .i64) 0 3 rfl (N := 13) rfl 42 _ _ rfl (l.length : Int) rfl rfl Try.underlying42 (.int .i64 0) 8 tinfo3 rfl (by decide) (by omega) 0 (ok := fun k_ => k_ = (w.drewN nd).heap.size) (okp := fun _ => False) rfl (fun _ hk => hk.elim) rfl (by omega) (by have := c2;omega) (below_zero _) (Nat.zero_le _) ?_;intro v1 w1 ho hb_ hg1 hnew;clear hb_;simp only [Int.toNat_natCast] at ho;obtain ⟨cB, rfl⟩ := own_shape ho (by intro e_;rw [List.replicate_eq_nil_iff] at e_;omega);simp only [List.length_replicate] at ho;clear hnew;have HM := Aside0.mk ho;have HG1 := Aside0.mk (below_of_grown hg1);clear ho hg1)|((with_reducible refine gate_dst (N := 15) rfl ?_);refine box_event ?hg (N := 15) ?hd (cs := #[.slice (some ad) l.length c, .slice (some ⟨(w.drewN nd).heap.size, 0, none⟩) l.length cB]) (t := 81) ?hr ?_;(case hd => rfl);(case hg => rfl);(case hr => first|(go_simp;done)|(go_simp;rfl));intro g hg w2 hbox hb2;have HGV := Aside0.mk hg;have BG := Aside0.mk hbox;have HB1 := Aside0.mk hb2;clear hg hbox hb2;obtain ⟨ad', eA', y0, y1, y2, y3, y4⟩ := cell_root HR.out (Far.of_below (B := w.heap.size) (below_join (below_join (below_drewN_ w nd) HG1.out) HB1.out)) HA.out C4.out;obtain rfl : ad = ad' := (by injection eA');clear eA')|((with_reducible refine gate_dst (N := 5) rfl ?_);refine box_event ?hg (N := 5) ?hd (cs := #[.int .i64 0, .int .i64 0, .int .i64 0, .string (⟨#[]⟩ : ByteArray), .int .i64 0]) (t := 74) ?hr ?_;(case hd => rfl);(case hg => rfl);(case hr => first|(go_simp;done)|(go_simp;rfl));intro gb hgb w14 hbox hb2;have BK0 := Aside0.mk hbox;have HB2 := Aside0.mk hb2;have HGE := Aside0.mk hgb;clear hbox hb2 hgb;have hz0 : w14.cell? ⟨gb, 0, none⟩ = some (.int .i64 0) := (blk_cell BK0.out 0).trans rfl;have hz1 : w14.cell? ⟨gb, 1, none⟩ = some (.int .i64 0) := (blk_cell BK0.out 1).trans rfl;have hz2 : w14.cell? ⟨gb, 2, none⟩ = some (.int .i64 0) := (blk_cell BK0.out 2).trans rfl;have hz3 : w14.cell? ⟨gb, 3, none⟩ = some (.string (⟨#[]⟩ : ByteArray)) := (blk_cell BK0.out 3).trans rfl;have hz4 : w14.cell? ⟨gb, 4, none⟩ = some (.int .i64 0) := (blk_cell BK0.out 4).trans rfl;have hf0 := blk_frozen BK0.out 0;have hf1 := blk_frozen BK0.out 1;have hf2 := blk_frozen BK0.out 2;have hf3 := blk_frozen BK0.out 3;have hf4 := blk_frozen BK0.out 4))
  go_ret2
  exact ⟨below_join (below_join (below_drewN_ w _) HG1.out) (below_join HB1.out (by repeat (first|exact HB2.out|apply pw_below_drewN|refine below_set ?_ (Nat.le_of_eq HGE.out.symm)))), .inr ⟨rfl, rfl⟩⟩
 rw [if_pos q0] at h
 have q0b : ((rd_T74 l 0).f1 == 0) = true := beq_iff_eq.mpr q0
 have q0c : ((rd_T74 l 0).f1 != 0) = false := bne_eq_false_iff_eq.mpr q0
 clear q0
 replace h := Option.bind_eq_some_iff.mp h;obtain ⟨⟨t1, af2⟩, hcall, h⟩ := h
 have HC := Aside0.mk hcall
 clear hcall
 simp only at h
 by_cases ct : t1 = (l.length : Int)
 ·rw [if_pos ct] at h
  obtain rfl := Option.some.inj h
  clear h
  have ctb : (t1 == (l.length : Int)) = true := beq_iff_eq.mpr ct
  have ctc : (t1 != (l.length : Int)) = false := bne_eq_false_iff_eq.mpr ct
  clear ct
  go_enter Try.func69, Try.ntmps69
  go_wp2_with (first|(go_at_call 62;(with_reducible refine (impl_within.calls _ _ _ true _ HWI.out).mono ?_);rintro e w24 ⟨rfl, ⟨nd, rfl⟩⟩;(try first|exact ⟨rfl, _, World.drewN_drewN _ _ _⟩))|((with_reducible refine gate_dst (N := 13) rfl ?_);refine Kd.R_make (Kd.int .i64) 0 3 rfl (N := 13) rfl 42 _ _ rfl (l.length : Int) rfl rfl Try.underlying42 (.int .i64 0) 8 tinfo3 rfl (by decide) (by omega) 0 (ok := fun k_ => k_ = (w.drewN nd).heap.size) (okp := fun _ => False) rfl (fun _ hk => hk.elim) rfl (by omega) (by have := c2;omega) (below_zero _) (Nat.zero_le _) ?_;intro v1 w1 ho hb_ hg1 hnew;clear hb_;simp only [Int.toNat_natCast] at ho;obtain ⟨cB, rfl⟩ := own_shape ho (by intro e_;rw [List.replicate_eq_nil_iff] at e_;omega);simp only [List.length_replicate] at ho;clear hnew;have HM := Aside0.mk ho;have HG1 := Aside0.mk (below_of_grown hg1);clear ho hg1)|((with_reducible refine gate_dst (N := 15) rfl ?_);refine box_event ?hg (N := 15) ?hd (cs := #[.slice (some ad) l.length c, .slice (some ⟨(w.drewN nd).heap.size, 0, none⟩) l.length cB]) (t := 81) ?hr ?_;(case hd => rfl);(case hg => rfl);(case hr => first|(go_simp;done)|(go_simp;rfl));intro g hg w2 hbox hb2;have HGV := Aside0.mk hg;have BG := Aside0.mk hbox;have HB1 := Aside0.mk hb2;clear hg hbox hb2;obtain ⟨ad', eA', y0, y1, y2, y3, y4⟩ := cell_root HR.out (Far.of_below (B := w.heap.size) (below_join (below_join (below_drewN_ w nd) HG1.out) HB1.out)) HA.out C4.out;obtain rfl : ad = ad' := (by injection eA');clear eA')|((with_reducible refine gate_dst (N := 5) rfl ?_);refine box_event ?hg (N := 5) ?hd (cs := #[.int .i64 0, .int .i64 0, .int .i64 0, .string (⟨#[]⟩ : ByteArray), .int .i64 0]) (t := 74) ?hr ?_;(case hd => rfl);(case hg => rfl);(case hr => first|(go_simp;done)|(go_simp;rfl));intro gb hgb w14 hbox hb2;have BK0 := Aside0.mk hbox;have HB2 := Aside0.mk hb2;have HGE := Aside0.mk hgb;clear hbox hb2 hgb;have hz0 : w14.cell? ⟨gb, 0, none⟩ = some (.int .i64 0) := (blk_cell BK0.out 0).trans rfl;have hz1 : w14.cell? ⟨gb, 1, none⟩ = some (.int .i64 0) := (blk_cell BK0.out 1).trans rfl;have hz2 : w14.cell? ⟨gb, 2, none⟩ = some (.int .i64 0) := (blk_cell BK0.out 2).trans rfl;have hz3 : w14.cell? ⟨gb, 3, none⟩ = some (.string (⟨#[]⟩ : ByteArray)) := (blk_cell BK0.out 3).trans rfl;have hz4 : w14.cell? ⟨gb, 4, none⟩ = some (.int .i64 0) := (blk_cell BK0.out 4).trans rfl;have hf0 := blk_frozen BK0.out 0;have hf1 := blk_frozen BK0.out 1;have hf2 := blk_frozen BK0.out 2;have hf3 := blk_frozen BK0.out 3;have hf4 := blk_frozen BK0.out 4)|(go_at_call 94;(with_reducible refine (impl_tree_measure.calls k g (w.drewN nd).heap.size (some ad) c cB l 0 1 _ t1 af2 _ l.length (by simp) ?s1 ?s2 ?s0 ?s5 ?s3 ?s4 HC.out).mono ?_);(case s1 => exact sz_lt HM.out HB1.out (by repeat (first|exact HB2.out|apply pw_below_drewN|refine below_set ?_ (Nat.le_of_eq HGE.out.symm))));(case s2 => exact blk_below BG.out (by repeat (first|exact HB2.out|apply pw_below_drewN|refine below_set ?_ (Nat.le_of_eq HGE.out.symm))));(case s0 => rw [HGV.out];exact ne_sz HM.out);(case s5 => exact HA.out);(case s3 => exact list_far HR.out (Far.of_below (below_join (below_join (below_drewN_ w nd) HG1.out) (below_join HB1.out (by repeat (first|exact HB2.out|apply pw_below_drewN|refine below_set ?_ (Nat.le_of_eq HGE.out.symm)))))) HA.out);(case s4 => exact own_far (own_far HM.out HB1.out) (by repeat (first|exact HB2.out|apply pw_below_drewN|refine below_set ?_ (Nat.le_of_eq HGE.out.symm))));rintro e w3 ⟨rfl, hfar, hlen, hO3⟩;have HF3 := Aside0.mk (Far.trans (Far.of_below (by repeat (first|exact HB2.out|apply pw_below_drewN|refine below_set ?_ (Nat.le_of_eq HGE.out.symm)))) hfar);have HL3 := Aside0.mk hlen;have HO3 := Aside0.mk hO3;clear hfar hlen hO3))
  go_ret2
  exact ⟨tree_below (below_join (below_drewN_ w _) HG1.out) HB1.out HF3.out (Nat.le_refl _), .inl ⟨rfl, g, rfl, _, cB, Nat.le_refl _, (by rw [HGV.out];exact sz_of_own HM.out), HF3.out.blk BG.out (by rw [HGV.out];exact ne_sz HM.out), HL3.out, HO3.out⟩⟩
 ·rw [if_neg ct] at h
  obtain rfl := Option.some.inj h
  clear h
  have ctb : (t1 == (l.length : Int)) = false := beq_eq_false_iff_ne.mpr ct
  have ctc : (t1 != (l.length : Int)) = true := bne_iff_ne.mpr ct
  clear ct
  go_enter Try.func69, Try.ntmps69
  go_wp2_with (first|(go_at_call 62;(with_reducible refine (impl_within.calls _ _ _ true _ HWI.out).mono ?_);rintro e w24 ⟨rfl, ⟨nd, rfl⟩⟩;(try first|exact ⟨rfl, _, World.drewN_drewN _ _ _⟩))|((with_reducible refine gate_dst (N := 13) rfl ?_);refine Kd.R_make (Kd.int .i64) 0 3 rfl (N := 13) rfl 42 _ _ rfl (l.length : Int) rfl rfl Try.underlying42 (.int .i64 0) 8 tinfo3 rfl (by decide) (by omega) 0 (ok := fun k_ => k_ = (w.drewN nd).heap.size) (okp := fun _ => False) rfl (fun _ hk => hk.elim) rfl (by omega) (by have := c2;omega) (below_zero _) (Nat.zero_le _) ?_;intro v1 w1 ho hb_ hg1 hnew;clear hb_;simp only [Int.toNat_natCast] at ho;obtain ⟨cB, rfl⟩ := own_shape ho (by intro e_;rw [List.replicate_eq_nil_iff] at e_;omega);simp only [List.length_replicate] at ho;clear hnew;have HM := Aside0.mk ho;have HG1 := Aside0.mk (below_of_grown hg1);clear ho hg1)|((with_reducible refine gate_dst (N := 15) rfl ?_);refine box_event ?hg (N := 15) ?hd (cs := #[.slice (some ad) l.length c, .slice (some ⟨(w.drewN nd).heap.size, 0, none⟩) l.length cB]) (t := 81) ?hr ?_;(case hd => rfl);(case hg => rfl);(case hr => first|(go_simp;done)|(go_simp;rfl));intro g hg w2 hbox hb2;have HGV := Aside0.mk hg;have BG := Aside0.mk hbox;have HB1 := Aside0.mk hb2;clear hg hbox hb2;obtain ⟨ad', eA', y0, y1, y2, y3, y4⟩ := cell_root HR.out (Far.of_below (B := w.heap.size) (below_join (below_join (below_drewN_ w nd) HG1.out) HB1.out)) HA.out C4.out;obtain rfl : ad = ad' := (by injection eA');clear eA')|((with_reducible refine gate_dst (N := 5) rfl ?_);refine box_event ?hg (N := 5) ?hd (cs := #[.int .i64 0, .int .i64 0, .int .i64 0, .string (⟨#[]⟩ : ByteArray), .int .i64 0]) (t := 74) ?hr ?_;(case hd => rfl);(case hg => rfl);(case hr => first|(go_simp;done)|(go_simp;rfl));intro gb hgb w14 hbox hb2;have BK0 := Aside0.mk hbox;have HB2 := Aside0.mk hb2;have HGE := Aside0.mk hgb;clear hbox hb2 hgb;have hz0 : w14.cell? ⟨gb, 0, none⟩ = some (.int .i64 0) := (blk_cell BK0.out 0).trans rfl;have hz1 : w14.cell? ⟨gb, 1, none⟩ = some (.int .i64 0) := (blk_cell BK0.out 1).trans rfl;have hz2 : w14.cell? ⟨gb, 2, none⟩ = some (.int .i64 0) := (blk_cell BK0.out 2).trans rfl;have hz3 : w14.cell? ⟨gb, 3, none⟩ = some (.string (⟨#[]⟩ : ByteArray)) := (blk_cell BK0.out 3).trans rfl;have hz4 : w14.cell? ⟨gb, 4, none⟩ = some (.int .i64 0) := (blk_cell BK0.out 4).trans rfl;have hf0 := blk_frozen BK0.out 0;have hf1 := blk_frozen BK0.out 1;have hf2 := blk_frozen BK0.out 2;have hf3 := blk_frozen BK0.out 3;have hf4 := blk_frozen BK0.out 4)|(go_at_call 94;(with_reducible refine (impl_tree_measure.calls k g (w.drewN nd).heap.size (some ad) c cB l 0 1 _ t1 af2 _ l.length (by simp) ?s1 ?s2 ?s0 ?s5 ?s3 ?s4 HC.out).mono ?_);(case s1 => exact sz_lt HM.out HB1.out (by repeat (first|exact HB2.out|apply pw_below_drewN|refine below_set ?_ (Nat.le_of_eq HGE.out.symm))));(case s2 => exact blk_below BG.out (by repeat (first|exact HB2.out|apply pw_below_drewN|refine below_set ?_ (Nat.le_of_eq HGE.out.symm))));(case s0 => rw [HGV.out];exact ne_sz HM.out);(case s5 => exact HA.out);(case s3 => exact list_far HR.out (Far.of_below (below_join (below_join (below_drewN_ w nd) HG1.out) (below_join HB1.out (by repeat (first|exact HB2.out|apply pw_below_drewN|refine below_set ?_ (Nat.le_of_eq HGE.out.symm)))))) HA.out);(case s4 => exact own_far (own_far HM.out HB1.out) (by repeat (first|exact HB2.out|apply pw_below_drewN|refine below_set ?_ (Nat.le_of_eq HGE.out.symm))));rintro e w3 ⟨rfl, hfar, hlen, hO3⟩;have HF3 := Aside0.mk (Far.trans (Far.of_below (by repeat (first|exact HB2.out|apply pw_below_drewN|refine below_set ?_ (Nat.le_of_eq HGE.out.symm)))) hfar);have HL3 := Aside0.mk hlen;have HO3 := Aside0.mk hO3;clear hfar hlen hO3))
  go_ret2
  exact ⟨tree_below (below_join (below_drewN_ w _) HG1.out) HB1.out HF3.out (Nat.le_refl _), .inr ⟨rfl, rfl⟩⟩
theorem impl_treeOf.mono : ∀ l k, LeO (impl_treeOf.f k l) (impl_treeOf.f (k + 1) l) := by
 intro l k
 unfold impl_treeOf.f
 repeat' first
  |(with_reducible exact (impl_tree_measure.mono_l _).1 _ _ _ _)
  |(with_reducible exact LeO.refl _)
  | refine LeO.ite ?_ ?_
  | refine LeO.bind ?_ (fun _ => ?_)
theorem TreeOut.yes {w w' : World} {A : Option Addr} {c : Nat} {l : List S74} {af : List Int} {e : Ending} (h : TreeOut w A c l (true, af) e w') : ∃ g, e = .returned (.tuple #[.pointer (some ⟨g, 0, none⟩), .bool true]) ∧ Aside0 (IsTree w w' A c l g af) ∧ Aside0 (Below w.heap.size w w') := by
 obtain ⟨hb, h⟩ := h
 rcases h with ⟨_, g, he, ht⟩ | ⟨hf, _⟩
 ·exact ⟨g, he, ⟨ht⟩, ⟨hb⟩⟩
 ·simp at hf
theorem TreeOut.no {w w' : World} {A : Option Addr} {c : Nat} {l : List S74} {af : List Int} {e : Ending} (h : TreeOut w A c l (false, af) e w') : e = .returned (.tuple #[.pointer none, .bool false]) ∧ Aside0 (Below w.heap.size w w') := by
 obtain ⟨hb, h⟩ := h
 rcases h with ⟨hf, _⟩ | ⟨_, he⟩
 ·simp at hf
 ·exact ⟨he, ⟨hb⟩⟩

def impl_UvarPut.l0 : Nat → Int → List Int → Option (List Int)
 | 0, _, _ => none
 | k + 1, x3, x4 => if x3 > 127 then (if x4.length < 140737488355328 then (impl_UvarPut.l0 k (x3 / 128) (x4 ++ [(Go.bits .or .u64 (Go.bits .and .u64 x3 127) 128) % 256])) else (none)) else (if x4.length < 140737488355328 then (some (x4 ++ [(x3) % 256])) else (none))
def impl_UvarPut.f (k : Nat) (a0 : Int) : Option (List Int) := impl_UvarPut.l0 k (IntKind.u64.wrap (a0)) (([] : List Int))
theorem impl_UvarPut.mono_l : ∀ k, (∀ y0 y1, LeO (impl_UvarPut.l0 k y0 y1) (impl_UvarPut.l0 (k + 1) y0 y1))
 | 0 => fun _ _ r h => by simp [impl_UvarPut.l0] at h
 | k + 1 => by
  have ih0 := impl_UvarPut.mono_l k
  ·intro y0 y1
   unfold impl_UvarPut.l0
   repeat' first
   |(with_reducible exact ih0 _ _)
   |(with_reducible exact LeO.refl _)
   |(with_reducible exact LeO.none _)
   |(with_reducible refine LeO.ite ?_ ?_)
   |(with_reducible refine LeO.bind ?_ (fun _ => ?_))
   | exact ih0 _ _
   | exact LeO.none _
   | refine LeO.ite ?_ ?_
   | refine LeO.bind ?_ (fun _ => ?_)
theorem impl_UvarPut.mono : ∀ a0 k, LeO (impl_UvarPut.f k a0) (impl_UvarPut.f (k + 1) a0) := by
 intro a0 k
 have ih0 := impl_UvarPut.mono_l k
 unfold impl_UvarPut.f
 repeat' first
   |(with_reducible exact ih0 _ _)
   |(with_reducible exact LeO.refl _)
   |(with_reducible exact LeO.none _)
   |(with_reducible refine LeO.ite ?_ ?_)
   |(with_reducible refine LeO.bind ?_ (fun _ => ?_))
   | exact ih0 _ _
   | exact LeO.none _
   | refine LeO.ite ?_ ?_
   | refine LeO.bind ?_ (fun _ => ?_)
set_option maxHeartbeats 8000000 in
set_option maxRecDepth 100000 in
theorem impl_UvarPut.calls (k : Nat) (a0 : Int) (r : List Int) (w : World) (h : impl_UvarPut.f k a0 = some r) :
  Calls Try.prog 104 #[.int .i64 a0] w fun e w' => ∃ v0_ : Value, e = .returned (v0_) ∧ Kd.R (Kd.int .u8) 5 w' w.heap.size (fun _ => True) v0_ r ∧ Below w.heap.size w w' := by
 have HB := Aside0.mk (Below.refl w.heap.size w)
 have H : (impl_UvarPut.l0 k (IntKind.u64.wrap (a0)) (([] : List Int))) = some r := h
 clear h
 obtain ⟨y244, hy244⟩ : ∃ y_ : List Int, y_ = (([] : List Int)) := ⟨_, rfl⟩
 replace H : (impl_UvarPut.l0 k (IntKind.u64.wrap (a0)) y244) = some r := by first|(rw [hy244];with_reducible exact H)|(have H2_ := (Option.bind_some _ _).symm.trans H;rw [hy244];with_reducible exact H2_)|(have H2_ := (Option.bind_some _ _).symm.trans H;with_reducible exact H2_)|with_reducible exact H|(rw [hy244];exact H)|exact H
 have Ny244 := Aside0.mk hy244
 clear hy244
 have H' := Aside0.mk H
 clear H
 go_enter Try.func104, Try.ntmps104
 go_wp2_with (first|((with_reducible refine gate_dst (N := 7) rfl ?_);refine Kd.R_lit (Kd.int .u8) _ 5 ?hg (N := 7) ?hd (xs := ([] : List Int)) (inner := []) (ok := fun _ => True) (okp := fun _ => True) ?hr ?hp (fun _ hk => hk) trivial (Below.refl _ _) (Nat.le_refl _) (by simp) ?_;(case hd => rfl);(case hg => rfl);(case hr => first|(go_simp;done)|(go_simp;rfl));(case hp => exact (Reps.none _ _));intro v245 w2 ho3 hb hg_ hnew_;clear hg_ hnew_;(first|rw [← Ny244.out] at ho3|(simp only [Int.reduceToNat] at ho3;rw [← Ny244.out] at ho3));have n0_ := Aside0.mk (Kd.R_lower ho3 (below_size (by repeat (first|(with_reducible first|exact HB.out|apply below_alloc|apply pw_below_drewN|apply below_drew1)|exact HB.out))));have n1_ := Aside0.mk (below_step (by repeat (first|(with_reducible first|exact HB.out|apply below_alloc|apply pw_below_drewN|apply below_drew1)|exact HB.out)) hb);clear HB;have HO246 := n0_;have HB := n1_;clear n0_ n1_;clear hb ho3))
 go_loopg [3, 4] k (fun kq v3 v4 w' => ∃ (x3_1 : Int) (x4_1 : List Int), v3 = .int .u64 x3_1 ∧ Aside0 (impl_UvarPut.l0 kq x3_1 x4_1 = some r) ∧ Aside0 (kq ≤ k) ∧ Aside0 (Kd.R (Kd.int .u8) 5 w' w.heap.size (fun _ => True) v4 x4_1) ∧ Aside0 (Below w.heap.size w w'))
 case atStart => exact ⟨(IntKind.u64.wrap (a0)), (y244), (by first|rfl|(simp;done)|(simp [*];done)), H', ⟨Nat.le_refl _⟩, ⟨by (with_reducible repeat (first|apply Kd.R_alloc|apply Kd.R_drewN|apply Kd.R_drew));exact HO246.out⟩, ⟨by repeat (first|(with_reducible first|exact HB.out|apply below_alloc|apply pw_below_drewN|apply below_drew1)|exact HB.out)⟩⟩
 case round =>
  clear H'
  try clear c1
  try clear p2
  obtain ⟨x3_1, x4_1, rfl, HA, HK1, HO_4, HB⟩ := hrel
  cases gk with
  | zero => exact absurd HA.out (by simp [impl_UvarPut.l0])
  | succ k1 =>
   have H := HA.out
   clear HA
   simp only [impl_UvarPut.l0] at H
   by_cases c4 : x3_1 > 127
   ·rw [if_pos c4] at H
    have c4b0 : decide (127 < x3_1) = true := decide_eq_true c4
    clear c4
    by_cases c5 : x4_1.length < 140737488355328
    ·rw [if_pos c5] at H
     have LMc5 := Aside0.mk c5
     clear c5
     obtain ⟨y247, hy247⟩ : ∃ y_ : List Int, y_ = (x4_1 ++ [(Go.bits .or .u64 (Go.bits .and .u64 x3_1 127) 128) % 256]) := ⟨_, rfl⟩
     replace H : (impl_UvarPut.l0 k1 (x3_1 / 128) y247) = some r := by first|(rw [hy247];with_reducible exact H)|(have H2_ := (Option.bind_some _ _).symm.trans H;rw [hy247];with_reducible exact H2_)|(have H2_ := (Option.bind_some _ _).symm.trans H;with_reducible exact H2_)|with_reducible exact H|(rw [hy247];exact H)|exact H
     have Ny247 := Aside0.mk hy247
     clear hy247
     have H' := Aside0.mk H
     clear H
     go_wp2_with (first|((with_reducible refine gate_builtin (b := .append) (xs := #[.tmp 10, .tmp 15]) rfl ?_);at_builtin;refine Kd.R_append (Kd.int .u8) (w0 := w) w.heap.size rfl (.tmp 10) (.tmp 15) 50 5 (.int .u8 0) 1 rfl Try.underlying50 info5 rfl (by decide) (by omega) u4 x4_1 ((Go.bits .or .u64 (Go.bits .and .u64 x3_1 127) 128) % 256) [.int .u8 ((Go.bits .or .u64 (Go.bits .and .u64 x3_1 127) 128) % 256)] (fun _ => True) (fun _ => False) rfl rfl ?aP (fun _ hk => hk.elim) ?aF ?aO ?aB ?aS ?aL ?_;(case aP => exact rfl);(case aB => exact (by repeat (first|(with_reducible first|exact HB.out|apply below_alloc|apply pw_below_drewN|apply below_drew1)|exact HB.out)));(case aF => exact (fun _ _ => trivial));(case aO => exact (by (with_reducible repeat (first|apply Kd.R_alloc|apply Kd.R_drewN|apply Kd.R_drew));exact HO_4.out));(case aS => exact (below_size (by repeat (first|(with_reducible first|exact HB.out|apply below_alloc|apply pw_below_drewN|apply below_drew1)|exact HB.out))));(case aL => have := LMc5.out;omega);intro v248 w6 ho hb hg hat;rw [← Ny247.out] at ho;have n0_ := Aside0.mk (hb);have n1_ := Aside0.mk (ho);clear HB;clear HO_4;have HB := n0_;have HO249 := n1_;clear n0_ n1_;clear ho hb hg hat))
     go_roundg k1
     case measure => have := HK1.out;omega
     case rel => exact ⟨(x3_1 / 128), (y247), (by first|rfl|(simp;done)|(simp [*];done)), H', ⟨by have := HK1.out;omega⟩, ⟨by (with_reducible repeat (first|apply Kd.R_alloc|apply Kd.R_drewN|apply Kd.R_drew));exact HO249.out⟩, ⟨by repeat (first|(with_reducible first|exact HB.out|apply below_alloc|apply pw_below_drewN|apply below_drew1)|exact HB.out)⟩⟩
    ·rw [if_neg c5] at H
     exact absurd H (by simp)
   ·rw [if_neg c4] at H
    have c4b0 : decide (127 < x3_1) = false := decide_eq_false c4
    clear c4
    by_cases c7 : x4_1.length < 140737488355328
    ·rw [if_pos c7] at H
     have LMc7 := Aside0.mk c7
     clear c7
     obtain ⟨y250, hy250⟩ : ∃ y_ : List Int, y_ = (x4_1 ++ [(x3_1) % 256]) := ⟨_, rfl⟩
     replace H : (some y250) = some r := by first|(rw [hy250];with_reducible exact H)|(have H2_ := (Option.bind_some _ _).symm.trans H;rw [hy250];with_reducible exact H2_)|(have H2_ := (Option.bind_some _ _).symm.trans H;with_reducible exact H2_)|with_reducible exact H|(rw [hy250];exact H)|exact H
     have Ny250 := Aside0.mk hy250
     clear hy250
     obtain rfl := Option.some.inj H
     go_wp2_with (first|((with_reducible refine gate_builtin (b := .append) (xs := #[.tmp 19, .tmp 22]) rfl ?_);at_builtin;refine Kd.R_append (Kd.int .u8) (w0 := w) w.heap.size rfl (.tmp 19) (.tmp 22) 50 5 (.int .u8 0) 1 rfl Try.underlying50 info5 rfl (by decide) (by omega) u4 x4_1 ((x3_1) % 256) [.int .u8 ((x3_1) % 256)] (fun _ => True) (fun _ => False) rfl rfl ?aP (fun _ hk => hk.elim) ?aF ?aO ?aB ?aS ?aL ?_;(case aP => exact rfl);(case aB => exact (by repeat (first|(with_reducible first|exact HB.out|apply below_alloc|apply pw_below_drewN|apply below_drew1)|exact HB.out)));(case aF => exact (fun _ _ => trivial));(case aO => exact (by (with_reducible repeat (first|apply Kd.R_alloc|apply Kd.R_drewN|apply Kd.R_drew));exact HO_4.out));(case aS => exact (below_size (by repeat (first|(with_reducible first|exact HB.out|apply below_alloc|apply pw_below_drewN|apply below_drew1)|exact HB.out))));(case aL => have := LMc7.out;omega);intro v251 w8 ho hb hg hat;rw [← Ny250.out] at ho;have n0_ := Aside0.mk (hb);have n1_ := Aside0.mk (ho);clear HB;clear HO_4;have HB := n0_;have HO252 := n1_;clear n0_ n1_;clear ho hb hg hat))
     go_ret
     exact ⟨_, by first|rfl|(simp [errW_none, errW_some] <;> rfl)|(simp [*, errW_none, errW_some] <;> rfl)|(exfalso;simp only [Bool.not_eq_true', Bool.not_eq_false', decide_eq_false_iff_not, decide_eq_true_eq, decide_eq_decide, Int.not_lt, Int.not_le] at *;omega), by (with_reducible repeat (first|apply Kd.R_alloc|apply Kd.R_drewN|apply Kd.R_drew));exact HO252.out, by repeat (first|(with_reducible first|exact HB.out|apply below_alloc|apply pw_below_drewN|apply below_drew1)|exact HB.out)⟩
    ·rw [if_neg c7] at H
     exact absurd H (by simp)

def impl_Zig.f (a0 : Int) : Option (Int) := some (Go.bits .xor .i64 (wrap64 (a0 * 2)) (a0 / 9223372036854775808))
set_option maxHeartbeats 8000000 in
set_option maxRecDepth 100000 in
theorem impl_Zig.calls (a0 : Int) (r : Int) (w : World) (h : impl_Zig.f a0 = some r) :
  Calls Try.prog 114 #[.int .i64 a0] w fun e w' => e = .returned (.int .i64 r) ∧ Drawn0 w w' := by
 have H : (some (Go.bits .xor .i64 (wrap64 (a0 * 2)) (a0 / 9223372036854775808))) = some r := h
 clear h
 obtain rfl := Option.some.inj H
 go_enter Try.func114, Try.ntmps114
 go_wp2
 go_ret
 exact ⟨by first|rfl|(simp;done)|(simp [*];done), by repeat (first|exact Drawn0.refl _|apply Drawn0.step)⟩

def impl_ZigPut.f (k : Nat) (a0 : Int) : Option (List Int) := (impl_Zig.f a0).bind fun t253 => ((impl_UvarPut.f k t253).bind fun t254 => (some t254))
theorem impl_ZigPut.mono : ∀ a0 k, LeO (impl_ZigPut.f k a0) (impl_ZigPut.f (k + 1) a0) := by
 intro a0 k
 unfold impl_ZigPut.f
 repeat' first
   |(with_reducible exact impl_UvarPut.mono _ _)
   |(with_reducible exact LeO.refl _)
   |(with_reducible exact LeO.none _)
   |(with_reducible refine LeO.ite ?_ ?_)
   |(with_reducible refine LeO.bind ?_ (fun _ => ?_))
   | exact impl_UvarPut.mono _ _
   | exact LeO.none _
   | refine LeO.ite ?_ ?_
   | refine LeO.bind ?_ (fun _ => ?_)
set_option maxHeartbeats 8000000 in
set_option maxRecDepth 100000 in
theorem impl_ZigPut.calls (k : Nat) (a0 : Int) (r : List Int) (w : World) (h : impl_ZigPut.f k a0 = some r) :
  Calls Try.prog 103 #[.int .i64 a0] w fun e w' => ∃ v0_ : Value, e = .returned (v0_) ∧ Kd.R (Kd.int .u8) 5 w' w.heap.size (fun _ => True) v0_ r ∧ Below w.heap.size w w' := by
 have HB := Aside0.mk (Below.refl w.heap.size w)
 have H : ((impl_Zig.f a0).bind fun t253 => ((impl_UvarPut.f k t253).bind fun t254 => (some t254))) = some r := h
 clear h
 replace H := Option.bind_eq_some_iff.mp H
 obtain ⟨t253, A20, H⟩ := H
 replace H : ((impl_UvarPut.f k t253).bind fun t254 => (some t254)) = some r := H
 have A2 := Aside0.mk A20
 clear A20
 replace H := Option.bind_eq_some_iff.mp H
 obtain ⟨t254, A30, H⟩ := H
 replace H : (some t254) = some r := H
 have A3 := Aside0.mk A30
 clear A30
 obtain rfl := Option.some.inj H
 go_enter Try.func103, Try.ntmps103
 go_wp2_with (first|((with_reducible refine gate_callee (f := 114) rfl ?_);refine goesL_ (some 4) rfl rfl Try.func114 (by kernel_rfl) rfl #[.int .i64 a0] rfl (by (try simp only [List.map_toArray, List.map_cons, List.map_nil]);first|done|rfl|(simp only [List.length_drop, List.length_take];rfl)) ?_;(with_reducible refine (impl_Zig.calls a0 t253 _ A2.out).mono ?_);rintro e w' ⟨rfl, ⟨nd, rfl⟩⟩;refine ⟨_, rfl, ?_⟩)|((with_reducible refine gate_callee (f := 104) rfl ?_);refine goesL_ (some 5) rfl rfl Try.func104 (by kernel_rfl) rfl #[.int .i64 t253] rfl (by (try simp only [List.map_toArray, List.map_cons, List.map_nil]);first|done|rfl|(simp only [List.length_drop, List.length_take];rfl)) ?_;(with_reducible refine (impl_UvarPut.calls k t253 t254 _ A3.out).mono ?_);rintro e w4 ⟨v255, rfl, ho0, hb⟩;refine ⟨_, rfl, ?_⟩;have n0_ := Aside0.mk (Kd.R_lower ho0 (below_size (by repeat (first|(with_reducible first|exact HB.out|apply below_alloc|apply pw_below_drewN|apply below_drew1)|exact HB.out))));have n1_ := Aside0.mk (below_step (by repeat (first|(with_reducible first|exact HB.out|apply below_alloc|apply pw_below_drewN|apply below_drew1)|exact HB.out)) hb);clear HB;have HO256 := n0_;have HB := n1_;clear n0_ n1_;(try clear hb);(try clear hb2);(try clear hk);(try clear hi);(try clear ho0)))
 go_ret
 exact ⟨_, by first|rfl|(simp [errW_none, errW_some] <;> rfl)|(simp [*, errW_none, errW_some] <;> rfl)|(exfalso;simp only [Bool.not_eq_true', Bool.not_eq_false', decide_eq_false_iff_not, decide_eq_true_eq, decide_eq_decide, Int.not_lt, Int.not_le] at *;omega), by (with_reducible repeat (first|apply Kd.R_alloc|apply Kd.R_drewN|apply Kd.R_drew));exact HO256.out, by repeat (first|(with_reducible first|exact HB.out|apply below_alloc|apply pw_below_drewN|apply below_drew1)|exact HB.out)⟩

end Go.Proofs.Ytjbghmdbceekiaa.PFnExactTreePack
