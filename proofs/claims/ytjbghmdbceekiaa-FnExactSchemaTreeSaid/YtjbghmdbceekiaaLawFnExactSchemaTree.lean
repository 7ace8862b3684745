/- The row of the law FnExactSchemaTree: for all arguments the call returns true; no condition. -/
import Derived.Test.YtjbghmdbceekiaaRows
import Derived.Test.YtjbghmdbceekiaaPFnExactSchemaTreex9
import Derived.Test.YtjbghmdbceekiaaPureFnExactSchemaTree
import Derived.Test.YtjbghmdbceekiaaWSized
import Derived.WalkKit
import Derived.ProofKit
import Derived.OpenShut
import Derived.ShutString
import Derived.ChangeOld
import Derived.Below
import Derived.SizedLaws
import Derived.ChangeSame
import Derived.Deep.Slices
namespace Go.Proofs.Ytjbghmdbceekiaa.fnExactSchemaTree
open Go.ChangeShapes Go.WideShapes Go.ChangeAt Go.RowKit Go.Deep Go.Proofs.YtjbghmdbceekiaaW Go.Proofs.YtjbghmdbceekiaaW.PrintWords Go.Proofs.Ytjbghmdbceekiaa.PFnExactSchemaTree
open Go.ChangeMaps (open_string shut_string)
set_option linter.unusedVariables false
set_option linter.unusedSimpArgs false
theorem own : ownKnob Try.prog.godebug = none := by kernel_rfl
theorem laidOut : laidOutB Try.prog = true := by kernel_rfl
theorem cellsI : Try.prog.cellsOf 3 = 1 := by kernel_rfl
theorem cellsS : Try.prog.cellsOf 9 = 1 := by kernel_rfl
theorem cellsC : Try.prog.cellsOf 66 = 4 := by kernel_rfl
theorem bytesC : 24 ≤ Try.prog.bytesOf 66 := by decide +kernel
theorem lenC (cs : List Value) (h : cs.length = 4) : ∃ c0 c1 c2 c3 : Value, cs = [c0, c1, c2, c3] := by
 match cs, h with
 | [c0, c1, c2, c3], _ => exact ⟨c0, c1, c2, c3, rfl⟩
theorem oneC {H : Type} {enc : TypeId × Value → H} {W : World} {base : Nat} {spare : Nat → Bool} {held : Bool} {fuel : Nat} {cs : List Value} {x : DataW H × List MemPlace} (h : DataW.trod enc Try.prog W base spare held fuel 66 cs = some x) :
  ∃ y : S66, cs = [.string y.f0, .int .i64 y.f1, .int .i64 y.f2, .int .i64 y.f3] ∧ y.f0.size ≤ maxLen ∧ (Lit.int .i64 y.f1).wf = true ∧ (Lit.int .i64 y.f2).wf = true ∧ (Lit.int .i64 y.f3).wf = true := by
 obtain ⟨xs, n, _, _, hlen, hxl, hf⟩ := DataW.trod_struct Try.underlying66 h
 have hxl' : xs.length = 4 := hxl
 obtain ⟨c0, c1, c2, c3, rfl⟩ := lenC cs (hlen.trans cellsC)
 ·skip
  have f0 : DataW.trod enc Try.prog W base spare held n 9 ((List.drop 0 [c0, c1, c2, c3]).take (Try.prog.cellsOf 9)) = xs[0]? := hf 0 _ rfl
  rw [cellsS] at f0
  have f1 : DataW.trod enc Try.prog W base spare held n 3 ((List.drop 1 [c0, c1, c2, c3]).take (Try.prog.cellsOf 3)) = xs[1]? := hf 1 _ rfl
  rw [cellsI] at f1
  have f2 : DataW.trod enc Try.prog W base spare held n 3 ((List.drop 2 [c0, c1, c2, c3]).take (Try.prog.cellsOf 3)) = xs[2]? := hf 2 _ rfl
  rw [cellsI] at f2
  have f3 : DataW.trod enc Try.prog W base spare held n 3 ((List.drop 3 [c0, c1, c2, c3]).take (Try.prog.cellsOf 3)) = xs[3]? := hf 3 _ rfl
  rw [cellsI] at f3
  obtain ⟨s0, e0, _, w0⟩ := DataW.trod_string Try.underlying9 (f0.trans (List.getElem?_eq_getElem (by omega)))
  simp only [List.drop_succ_cons, List.drop_zero, List.take_succ_cons, List.take_zero, List.cons.injEq, and_true] at e0
  subst e0
  obtain ⟨s1, e1, _, w1⟩ := DataW.trod_int Try.underlying3 (f1.trans (List.getElem?_eq_getElem (by omega)))
  simp only [List.drop_succ_cons, List.drop_zero, List.take_succ_cons, List.take_zero, List.cons.injEq, and_true] at e1
  subst e1
  obtain ⟨s2, e2, _, w2⟩ := DataW.trod_int Try.underlying3 (f2.trans (List.getElem?_eq_getElem (by omega)))
  simp only [List.drop_succ_cons, List.drop_zero, List.take_succ_cons, List.take_zero, List.cons.injEq, and_true] at e2
  subst e2
  obtain ⟨s3, e3, _, w3⟩ := DataW.trod_int Try.underlying3 (f3.trans (List.getElem?_eq_getElem (by omega)))
  simp only [List.drop_succ_cons, List.drop_zero, List.take_succ_cons, List.take_zero, List.cons.injEq, and_true] at e3
  subst e3
  exact ⟨⟨s0, s1, s2, s3⟩, rfl, w0, w1, w2, w3⟩
theorem rowC {H : Type} {enc : TypeId × Value → H} {W : World} {base : Nat} {spare : Nat → Bool} {held : Bool} {a : Option Addr} {len cap : Nat} {d : DataW H} {ps : List MemPlace} {ts : List TypeId} {ds : List (DataW H)} {j : Nat}
  (hsz : (DataW.weightsEach Try.prog ts ds).all (· ≤ reachBytes) = true) (ht : ts[j]? = some 22) (hd : ds[j]? = some d) (h : DataW.Trod enc Try.prog W base spare held 22 (.slice a len cap) d ps) :
  ∃ l : List S66, l.length = len ∧ len ≤ cap ∧ Kd.C k66 W a len l ∧ len * Try.prog.bytesOf 66 ≤ reachBytes ∧ ∀ y ∈ l, y.f0.size ≤ maxLen ∧ (Lit.int .i64 y.f1).wf = true ∧ (Lit.int .i64 y.f2).wf = true ∧ (Lit.int .i64 y.f3).wf = true := by
 obtain ⟨fuel, hf⟩ := h
 rcases open_slice Try.underlying22 hf with ⟨hcs, hx⟩ | ⟨x, l, c, m, n, D, Pl, hcs, _, hl, hm, hmm, hx, hi⟩
 ·simp [Value.cells] at hcs
  obtain ⟨rfl, rfl, rfl⟩ := hcs
  exact ⟨[], rfl, Nat.le_refl _, ⟨rfl, by decide, fun h => absurd h (by decide)⟩, by omega, fun y hy => by cases hy⟩
 ·simp [Value.cells] at hcs
  obtain ⟨rfl, rfl, rfl⟩ := hcs
  have hlm : len ≤ m := by rw [hmm]; split; exact hl; exact Nat.le_refl _
  have hE : ∀ i : Nat, i < len → ∃ y : S66, (W.cells? base (x.add (i * 4)) 4 = some [.string y.f0, .int .i64 y.f1, .int .i64 y.f2, .int .i64 y.f3]) ∧ y.f0.size ≤ maxLen ∧ (Lit.int .i64 y.f1).wf = true ∧ (Lit.int .i64 y.f2).wf = true ∧ (Lit.int .i64 y.f3).wf = true := by
   intro i him
   obtain ⟨cs', hc, ht'⟩ := hi i (by omega)
   obtain ⟨y, rfl, hy⟩ := oneC ht'
   rw [cellsC] at hc
   exact ⟨y, hc, hy⟩
  have hch : ∃ g : Nat → S66, ∀ i, i < len → (W.cells? base (x.add (i * 4)) 4 = some [.string (g i).f0, .int .i64 (g i).f1, .int .i64 (g i).f2, .int .i64 (g i).f3]) ∧ (g i).f0.size ≤ maxLen ∧ (Lit.int .i64 (g i).f1).wf = true ∧ (Lit.int .i64 (g i).f2).wf = true ∧ (Lit.int .i64 (g i).f3).wf = true := by
   refine ⟨fun i => if h : i < len then Classical.choose (hE i h) else z66, fun i hi => ?_⟩
   simp only [dif_pos hi]
   exact Classical.choose_spec (hE i hi)
  obtain ⟨g, hg⟩ := hch
  have hz := sized_slice hsz ht (show ds[j]? = some (.slice ((List.range len).map D) ((List.range (m - len)).map fun j => D (len + j))) from by rw [hd, (Prod.mk.inj hx).1]) Try.underlying22
  have hmaxl : maxLen = 9223372036854775807 := by decide
  refine ⟨(List.range len).map g, by simp, hl, ⟨by simp, by omega, fun hpos => ⟨x, rfl, fun i y hy => ?_⟩⟩, Nat.le_trans (Nat.mul_le_mul_right _ (by simp)) hz, fun y hy => ?_⟩
  ·have hil : i < len := by have := (List.getElem?_eq_some_iff.1 hy).1; simpa using this
   have hy' : y = g i := by simpa [hil] using hy.symm
   subst hy'
   obtain ⟨_, hcl, hat⟩ := World.cells?_some (hg i hil).1
   refine ⟨_, rfl, k66_mk W (g i), fun q u hu => ?_⟩
   have hq := (List.getElem?_eq_some_iff.1 hu).1
   have := hat q (by simpa using hq)
   show W.cell? (x.add (i * 4 + q)) = some u
   rw [← Go.Deep.add_add, this, hu]
  ·simp only [List.mem_map, List.mem_range] at hy
   obtain ⟨i, hil, rfl⟩ := hy
   exact (hg i hil).2
set_option maxRecDepth 100000 in
theorem lifted (os : Os) (started : os.Started) (H : Type) (enc : TypeId × Value → H) :
  ReturnsInHanded {} Try.checked os 13 .any (Rows.fnExactSchemaTreeSpec.pre6 enc Try.prog Try.f13 Rows.fnExactSchemaTreeRow.domain false) (Rows.fnExactSchemaTreeSpec.post enc Try.prog Try.f13 false true false false) := by
 refine returnsInHanded_of_change_sized (C := Try.checked) own started (by kernel_rfl) Try.func13
  (ChangeSpec.witness6 (enc := enc) (C := Try.checked) false ⟨#[], #[.slice none 0 0], []⟩ 8 (by kernel_rfl) (by kernel_rfl) (by kernel_rfl) (by kernel_rfl)) ?_
 intro W base args ds gs before hval0 hW hcnd hsz0 _
 have hsz : (DataW.weightsEach Try.prog (Try.f13.params.toList ++ Rows.fnExactSchemaTreeSpec.plain.varTypes Try.prog) (ds ++ gs)).all (· ≤ reachBytes) = true := hsz0
 have hval : ∀ (j : Nat) t v, Try.f13.params[j]? = some t → args[j]? = some v → Value.okWide Try.prog W .any base t v := hval0
 have hW' := hW
 obtain ⟨p, q, hA0, hV, rfl, hfz, hnd⟩ := hW
 have hA : DataW.TrodAll enc Try.prog W 0 (fun _ => true) true Try.f13.params.toList args.toList ds p := hA0
 rw [Try.params13] at hA hval hsz
 obtain ⟨v0, vs0, d0, ds0, p0, q0, hargs, rfl, rfl, h0, r0⟩ := trodAll_cons hA
 obtain ⟨rfl, rfl, rfl⟩ := trodAll_nil r0
 obtain rfl : args = #[v0] := by cases args; simp_all
 obtain ⟨rfl, rfl⟩ := trodVars_none hV
 obtain ⟨a0, len0, cap0, rfl⟩ := okWide_slice Try.underlying22 (hval 0 22 v0 rfl rfl)
 have k0 := h0
 have lt0 : ∀ x ∈ p0, x.block < W.heap.size := by obtain ⟨m, hm⟩ := k0; exact DataW.trod_lt m _ _ _ hm
 obtain ⟨l0, rfl, hcap0, hread0, hsz0, hok0⟩ := rowC hsz (j := 0) rfl rfl h0
 have hlen0 : l0.length ≤ 5864062014805 := by have hr := reachBytes_lt; have := Nat.mul_le_mul_left l0.length bytesC; omega
 clear hA0 hval0 hsz0 hsz
 obtain ⟨k, hk⟩ := Pure.FnExactSchemaTree l0 hlen0 hok0
 refine (laws_FnExactSchemaTree.calls k a0 cap0 l0 true W hread0 hcap0 hk).mono fun e W' ⟨he, bel⟩ => ?_
 subst he
 exact ⟨_, rfl, _, _, _, [], _, [], hW', trodAll_mk1 (shut_bool Try.underlying4 _), (trodAll_cons_mk (Below.trod laidOut (by kernel_rfl) (of_decide_eq_true (by kernel_rfl)) k0 bel lt0) trodAll_mk0), rfl, bel.frame _, fun h => by cases h⟩
theorem over : Rows.fnExactSchemaTreeRow.holds Try.pinned (OpenSpec.ofChange Rows.fnExactSchemaTreeSpec) :=
 OpenClaim.holds_of_wide 13 Try.f13 rfl rfl rfl rfl rfl rfl rfl ⟨rfl, rfl, rfl, rfl, rfl⟩ rfl rfl rfl rfl rfl (by kernel_rfl) Try.func13 (by kernel_rfl)
  (of_decide_eq_true (by kernel_rfl)) (by unfold Func.isWrapper; first | (rw [if_pos (by decide +kernel)]; kernel_rfl) | (rw [if_neg (by decide +kernel)]; exact ⟨rfl, rfl⟩))
  (fun os started H enc _ => lifted os started H enc)
theorem proved : Rows.FnExactSchemaTreeSaid := over
#print axioms proved
end Go.Proofs.Ytjbghmdbceekiaa.fnExactSchemaTree
namespace Go.Proofs.Ytjbghmdbceekiaa
theorem fnExactSchemaTree_holds : Rows.FnExactSchemaTreeSaid := fnExactSchemaTree.proved
end Go.Proofs.Ytjbghmdbceekiaa
