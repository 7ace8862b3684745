/- The row of the law FnExactPlainPack: for all arguments the call returns true; no condition. -/
import Derived.Test.YtbiibjbhgeenoaaRows
import Derived.Test.YtbiibjbhgeenoaaPFnExactPlainPackx8
import Derived.Test.YtbiibjbhgeenoaaPureFnExactPlainPack
import Derived.Test.YtbiibjbhgeenoaaWSized
import Derived.WalkKit
import Derived.ProofKit
import Derived.OpenShut
import Derived.ShutString
import Derived.ChangeOld
import Derived.Below
import Derived.SizedLaws
import Derived.ChangeSame
import Derived.Deep.Slices
namespace Go.Proofs.Ytbiibjbhgeenoaa.fnExactPlainPack
open Go.ChangeShapes Go.WideShapes Go.ChangeAt Go.RowKit Go.Deep Go.Proofs.YtbiibjbhgeenoaaW Go.Proofs.YtbiibjbhgeenoaaW.PrintWords Go.Proofs.Ytbiibjbhgeenoaa.PFnExactPlainPack
open Go.ChangeMaps (open_string shut_string)
set_option linter.unusedVariables false
set_option linter.unusedSimpArgs false
theorem own : ownKnob Try.prog.godebug = none := by kernel_rfl
theorem laidOut : laidOutB Try.prog = true := by kernel_rfl
theorem cellsI : Try.prog.cellsOf 3 = 1 := by kernel_rfl
theorem cellsS : Try.prog.cellsOf 9 = 1 := by kernel_rfl
theorem cellsV : Try.prog.cellsOf 87 = 2 := by kernel_rfl
theorem bytesV : 24 ≤ Try.prog.bytesOf 87 := by decide +kernel
theorem lenV (cs : List Value) (h : cs.length = 2) : ∃ c0 c1 : Value, cs = [c0, c1] := by
  match cs, h with
  | [c0, c1], _ => exact ⟨c0, c1, rfl⟩
/-- An element's cells, as they are read. -/
theorem oneV {H : Type} {enc : TypeId × Value → H} {W : World} {base : Nat} {spare : Nat → Bool} {held : Bool} {fuel : Nat} {cs : List Value} {x : DataW H × List MemPlace} (h : DataW.trod enc Try.prog W base spare held fuel 87 cs = some x) :
    ∃ y : S87, cs = [.int .i64 y.f0, .string y.f1] ∧ (Lit.int .i64 y.f0).wf = true ∧ y.f1.size ≤ maxLen := by
  obtain ⟨xs, n, _, _, hlen, hxl, hf⟩ := DataW.trod_struct Try.underlying87 h
  have hxl' : xs.length = 2 := hxl
  obtain ⟨c0, c1, rfl⟩ := lenV cs (hlen.trans cellsV)
  · skip
    have f0 : DataW.trod enc Try.prog W base spare held n 3 ((List.drop 0 [c0, c1]).take (Try.prog.cellsOf 3)) = xs[0]? := hf 0 _ rfl
    rw [cellsI] at f0
    have f1 : DataW.trod enc Try.prog W base spare held n 9 ((List.drop 1 [c0, c1]).take (Try.prog.cellsOf 9)) = xs[1]? := hf 1 _ rfl
    rw [cellsS] at f1
    obtain ⟨s0, e0, _, w0⟩ := DataW.trod_int Try.underlying3 (f0.trans (List.getElem?_eq_getElem (by omega)))
    simp only [List.drop_succ_cons, List.drop_zero, List.take_succ_cons, List.take_zero, List.cons.injEq, and_true] at e0
    subst e0
    obtain ⟨s1, e1, _, w1⟩ := DataW.trod_string Try.underlying9 (f1.trans (List.getElem?_eq_getElem (by omega)))
    simp only [List.drop_succ_cons, List.drop_zero, List.take_succ_cons, List.take_zero, List.cons.injEq, and_true] at e1
    subst e1
    exact ⟨⟨s0, s1⟩, rfl, w0, w1⟩
/-- A slice of them, as a list; no longer than memory. -/
theorem rowV {H : Type} {enc : TypeId × Value → H} {W : World} {base : Nat} {spare : Nat → Bool} {held : Bool} {a : Option Addr} {len cap : Nat} {d : DataW H} {ps : List MemPlace} {ts : List TypeId} {ds : List (DataW H)} {j : Nat}
    (hsz : (DataW.weightsEach Try.prog ts ds).all (· ≤ reachBytes) = true) (ht : ts[j]? = some 64) (hd : ds[j]? = some d) (h : DataW.Trod enc Try.prog W base spare held 64 (.slice a len cap) d ps) :
    ∃ l : List S87, l.length = len ∧ len ≤ cap ∧ Kd.C k87 W a len l ∧ len * Try.prog.bytesOf 87 ≤ reachBytes ∧ ∀ y ∈ l, (Lit.int .i64 y.f0).wf = true ∧ y.f1.size ≤ maxLen := by
  obtain ⟨fuel, hf⟩ := h
  rcases open_slice Try.underlying64 hf with ⟨hcs, hx⟩ | ⟨x, l, c, m, n, D, Pl, hcs, _, hl, hm, hmm, hx, hi⟩
  · simp [Value.cells] at hcs
    obtain ⟨rfl, rfl, rfl⟩ := hcs
    exact ⟨[], rfl, Nat.le_refl _, ⟨rfl, by decide, fun h => absurd h (by decide)⟩, by omega, fun y hy => by cases hy⟩
  · simp [Value.cells] at hcs
    obtain ⟨rfl, rfl, rfl⟩ := hcs
    have hlm : len ≤ m := by rw [hmm]; split; exact hl; exact Nat.le_refl _
    have hE : ∀ i : Nat, i < len → ∃ y : S87, (W.cells? base (x.add (i * 2)) 2 = some [.int .i64 y.f0, .string y.f1]) ∧ (Lit.int .i64 y.f0).wf = true ∧ y.f1.size ≤ maxLen := by
      intro i him
      obtain ⟨cs', hc, ht'⟩ := hi i (by omega)
      obtain ⟨y, rfl, hy⟩ := oneV ht'
      rw [cellsV] at hc
      exact ⟨y, hc, hy⟩
    have hch : ∃ g : Nat → S87, ∀ i, i < len → (W.cells? base (x.add (i * 2)) 2 = some [.int .i64 (g i).f0, .string (g i).f1]) ∧ (Lit.int .i64 (g i).f0).wf = true ∧ (g i).f1.size ≤ maxLen := by
      refine ⟨fun i => if h : i < len then Classical.choose (hE i h) else z87, fun i hi => ?_⟩
      simp only [dif_pos hi]
      exact Classical.choose_spec (hE i hi)
    obtain ⟨g, hg⟩ := hch
    have hz := sized_slice hsz ht (show ds[j]? = some (.slice ((List.range len).map D) ((List.range (m - len)).map fun j => D (len + j))) from by rw [hd, (Prod.mk.inj hx).1]) Try.underlying64
    have hmaxl : maxLen = 9223372036854775807 := by decide
    refine ⟨(List.range len).map g, by simp, hl, ⟨by simp, by omega, fun hpos => ⟨x, rfl, fun i y hy => ?_⟩⟩, Nat.le_trans (Nat.mul_le_mul_right _ (by simp)) hz, fun y hy => ?_⟩
    · have hil : i < len := by have := (List.getElem?_eq_some_iff.1 hy).1; simpa using this
      have hy' : y = g i := by simpa [hil] using hy.symm
      subst hy'
      obtain ⟨_, hcl, hat⟩ := World.cells?_some (hg i hil).1
      refine ⟨_, rfl, k87_mk W (g i), fun q u hu => ?_⟩
      have hq := (List.getElem?_eq_some_iff.1 hu).1
      have := hat q (by simpa using hq)
      show W.cell? (x.add (i * 2 + q)) = some u
      rw [← Go.Deep.add_add, this, hu]
    · simp only [List.mem_map, List.mem_range] at hy
      obtain ⟨i, hil, rfl⟩ := hy
      exact (hg i hil).2
set_option maxRecDepth 100000 in
theorem lifted (os : Os) (started : os.Started) (H : Type) (enc : TypeId × Value → H) :
    ReturnsInHanded {} Try.checked os 12 .any (Rows.fnExactPlainPackSpec.pre6 enc Try.prog Try.f12 Rows.fnExactPlainPackRow.domain false) (Rows.fnExactPlainPackSpec.post enc Try.prog Try.f12 false true false false) := by
  refine returnsInHanded_of_change_sized (C := Try.checked) own started (by kernel_rfl) Try.func12
    (ChangeSpec.witness6 (enc := enc) (C := Try.checked) false ⟨#[], #[.int .i64 0, .slice none 0 0], []⟩ 8 (by kernel_rfl) (by kernel_rfl) (by kernel_rfl) (by kernel_rfl)) ?_
  intro W base args ds gs before hval0 hW hcnd hsz0 _
  have hsz : (DataW.weightsEach Try.prog (Try.f12.params.toList ++ Rows.fnExactPlainPackSpec.plain.varTypes Try.prog) (ds ++ gs)).all (· ≤ reachBytes) = true := hsz0
  have hval : ∀ (j : Nat) t v, Try.f12.params[j]? = some t → args[j]? = some v → Value.okWide Try.prog W .any base t v := hval0
  have hW' := hW
  obtain ⟨p, q, hA0, hV, rfl, hfz, hnd⟩ := hW
  have hA : DataW.TrodAll enc Try.prog W 0 (fun _ => true) true Try.f12.params.toList args.toList ds p := hA0
  rw [Try.params12] at hA hval hsz
  obtain ⟨v0, vs0, d0, ds0, p0, q0, hargs, rfl, rfl, h0, r0⟩ := trodAll_cons hA
  obtain ⟨v1, vs1, d1, ds1, p1, q1, rfl, rfl, rfl, h1, r1⟩ := trodAll_cons r0
  obtain ⟨rfl, rfl, rfl⟩ := trodAll_nil r1
  obtain rfl : args = #[v0, v1] := by cases args; simp_all
  obtain ⟨rfl, rfl⟩ := trodVars_none hV
  obtain ⟨a0, rfl, rfl, rfl, w0⟩ := open_int Try.underlying3 (hval 0 3 v0 rfl rfl) h0
  obtain ⟨a1, len1, cap1, rfl⟩ := okWide_slice Try.underlying64 (hval 1 64 v1 rfl rfl)
  have k1 := h1
  have lt1 : ∀ x ∈ p1, x.block < W.heap.size := by obtain ⟨m, hm⟩ := k1; exact DataW.trod_lt m _ _ _ hm
  obtain ⟨l1, rfl, hcap1, hread1, hsz1, hok1⟩ := rowV hsz (j := 1) rfl rfl h1
  have hlen1 : l1.length ≤ 5864062014805 := by have hr := reachBytes_lt; have := Nat.mul_le_mul_left l1.length bytesV; omega
  clear hA0 hval0 hsz0 hsz
  obtain ⟨k, hk⟩ := Pure.FnExactPlainPack a0 w0 l1 hlen1 hok1
  refine (laws_FnExactPlainPack.calls k a0 a1 cap1 l1 true W hread1 hcap1 hk).mono fun e W' ⟨he, bel⟩ => ?_
  subst he
  exact ⟨_, rfl, _, _, _, [], _, [], hW', trodAll_mk1 (shut_bool Try.underlying4 _), (trodAll_cons_mk (shut_int Try.underlying3 w0) (trodAll_cons_mk (Below.trod laidOut (by kernel_rfl) (of_decide_eq_true (by kernel_rfl)) k1 bel lt1) trodAll_mk0)), rfl, bel.frame _, fun h => by cases h⟩
theorem over : Rows.fnExactPlainPackRow.holds Try.pinned (OpenSpec.ofChange Rows.fnExactPlainPackSpec) :=
  OpenClaim.holds_of_wide 12 Try.f12 rfl rfl rfl rfl rfl rfl rfl ⟨rfl, rfl, rfl, rfl, rfl⟩ rfl rfl rfl rfl rfl (by kernel_rfl) Try.func12 (by kernel_rfl)
    (of_decide_eq_true (by kernel_rfl)) (by unfold Func.isWrapper; first | (rw [if_pos (by decide +kernel)]; kernel_rfl) | (rw [if_neg (by decide +kernel)]; exact ⟨rfl, rfl⟩))
    (fun os started H enc _ => lifted os started H enc)
theorem proved : Rows.FnExactPlainPackSaid := over
#print axioms proved
end Go.Proofs.Ytbiibjbhgeenoaa.fnExactPlainPack
namespace Go.Proofs.Ytbiibjbhgeenoaa
/-- The row, under a short name, for the claim. -/
theorem fnExactPlainPack_holds : Rows.FnExactPlainPackSaid := fnExactPlainPack.proved
end Go.Proofs.Ytbiibjbhgeenoaa
