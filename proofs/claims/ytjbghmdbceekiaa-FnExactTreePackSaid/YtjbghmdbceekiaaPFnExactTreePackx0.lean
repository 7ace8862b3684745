-- Written by a program of this seat's prover (wip/myprint.sh) over the loaded functions.
import Derived.Test.YtjbghmdbceekiaaProg
import Derived.Below
import Derived.Deep.Draws
import Derived.Deep.AppendLies
import Derived.Maps.AppendAt
import Derived.OwnWalk
import Derived.Laws.BytesArg
import Derived.Laws.MakeOwn
import Derived.Laws.OwnMore
import Derived.Deep.OwnRows
import Derived.Tactics
import Derived.Lib.ConvBytes
import Derived.Laws.Slices
import Derived.WalkKit
import Derived.KernelRfl
import Derived.RowKit3
import Derived.Deep.LoopGhost
import Derived.Deep.QuietTactic
import Derived.BigQuiet
import Derived.WideLaws
import Derived.Deep.DeepCutAuto
import Derived.Deep.CutBlock
import Derived.Deep.RegionHeld3
import Derived.Laws.Rows
import Derived.Lib.AppendStr
import Derived.ArgAppend
import Derived.Laws.IdiomCopy
import Derived.OrdersHeld
import Derived.Laws.BitsLemmas
import Derived.RowKit
import Derived.Test.YtjbghmdbceekiaaWWords
import Derived.Test.YtjbghmdbceekiaaWLast
import Derived.Test.YtjbghmdbceekiaaWTab
import Derived.Test.YtjbghmdbceekiaaWQPut
import Derived.Test.YtjbghmdbceekiaaWApart
import Derived.Test.YtjbghmdbceekiaaWArr
import Derived.Test.YtjbghmdbceekiaaWZeros
import Derived.Test.YtjbghmdbceekiaaWFoot
import Derived.Test.YtjbghmdbceekiaaWKept
import Derived.Test.YtjbghmdbceekiaaWShare
import Derived.Test.YtjbghmdbceekiaaWN
import Derived.Test.YtjbghmdbceekiaaWRepsOne
import Derived.Test.YtjbghmdbceekiaaWGuard
import Derived.Test.YtjbghmdbceekiaaWNEv
import Derived.Test.YtjbghmdbceekiaaWMore
namespace Go.Proofs.Ytjbghmdbceekiaa.PFnExactTreePack
open Go.RowKit Go.Proofs.YtjbghmdbceekiaaW.PrintWords Go.Proofs.YtjbghmdbceekiaaW.PrintLast Go.Proofs.YtjbghmdbceekiaaW.PrintMore
attribute [local go_sem] max2_int min2_int max_two min_two max_three min_three max_four min_four   -- for this text's walks alone
set_option linter.unusedVariables false
set_option linter.unusedSimpArgs false

theorem blk5_ {w : World} {g : Nat} {t : TypeId} {a0 a1 a2 a3 a4 : Value} (h : w.heap[g]? = some (.cells #[a0, a1, a2, a3, a4] t (0, 0))) : w.cell? ⟨g, 0, none⟩ = some a0 ∧ w.cell? ⟨g, 1, none⟩ = some a1 ∧ w.cell? ⟨g, 2, none⟩ = some a2 ∧ w.cell? ⟨g, 3, none⟩ = some a3 ∧ w.cell? ⟨g, 4, none⟩ = some a4 ∧ w.frozen? ⟨g, 0, none⟩ = false ∧ w.frozen? ⟨g, 1, none⟩ = false ∧ w.frozen? ⟨g, 2, none⟩ = false ∧ w.frozen? ⟨g, 3, none⟩ = false ∧ w.frozen? ⟨g, 4, none⟩ = false :=
 ⟨(blk_cell h 0).trans rfl, (blk_cell h 1).trans rfl, (blk_cell h 2).trans rfl, (blk_cell h 3).trans rfl, (blk_cell h 4).trans rfl, blk_frozen h 0, blk_frozen h 1, blk_frozen h 2, blk_frozen h 3, blk_frozen h 4⟩

section
variable {P : Program} {ops : Array Oper} {rest : List Oper} {o : Oper} {a : Act} {Q : Exit → Act → World → Prop}
end
section
variable {P : Program} {ops : Array Oper} {o : Oper} {a : Act} {Q : Exit → Act → World → Prop} {Kc : Act → World → Prop}
theorem append_str_step_ {w0 W : World} (base : Nat) (hw : Region.wanted o (yielded ops a.tmps) = true) (s x : Operand) (t u e : TypeId)
  (ho : o.op = .call { callee := .builtin .append, args := #[s, x], argTypes := #[t, u] })
  (ht : P.underlying t = some (.slice e)) (hu : P.underlying u = some .string) (hinfo : (P.info? e).map (fun i => (i.zero, i.size, i.bytes)) = some (some (.int .u8 0), 1, 1))
  (v : Value) (xs : List Int) (y : ByteArray) (hs : a.eval s = v) (hx : a.eval x = .string y)
  (HO : W.ownsRow base e 1 v xs.length (nums .u8 xs)) (HB : Below base w0 W) (hbase : base ≤ W.heap.size) (hl : xs.length + y.size ≤ 140737488355328)
  (h : ∀ v1 w1, w1.ownsRow base e 1 v1 (xs ++ bytesOf y).length (nums .u8 (xs ++ bytesOf y)) → Below base w0 w1 → W.grownBy w1 v.ownBlock → Kc (a.put o.dst v1) w1) :
  if Region.wanted o (yielded ops a.tmps) = true then Oper.wp P o a W Kc Q else Kc (a.put o.dst undef) W := by
 obtain ⟨i0, hi, hzz⟩ := Option.map_eq_some_iff.1 hinfo
 simp only [Prod.mk.injEq] at hzz
 obtain ⟨hz0, hz1, hz2⟩ := hzz
 obtain ⟨v1, w1, hr, h2, hg, _⟩ := Lib.run_append_own_string (P := P) W base t u o.type e i0 ht hu hi hz0 hz1 hz2 v xs.length (nums .u8 xs) HO y (by simp only [maxLen];omega) hl hbase
 have hl2 : (xs ++ bytesOf y).length = xs.length + y.size := by rw [List.length_append, bytesOf_length]
 have hc : nums .u8 (xs ++ bytesOf y) = nums .u8 xs ++ Lib.strCells y := by
  rw [nums_append]
  congr 1
  simp [nums, bytesOf, Lib.strCells]
 rw [if_pos hw]
 unfold Oper.wp execOp
 simp only [ho, resolve, invoke, builtin, Sem.run_bind, Sem.run_pure, Result.andThen_ok, List.map_toArray, List.map_cons, List.map_nil, hs, hx, hr]
 exact h v1 w1 (by rw [hl2, hc];exact h2) (HB.grown hg hbase (own_base HO)) hg
end
namespace Kd
def B (d : Kd Int) (_e : Nat) (w : World) (base : Nat) (ok : Nat → Prop) (v : Value) (xs : List Int) : Prop := ∃ g c, v = .slice (some ⟨g, 0, none⟩) xs.length c ∧ base ≤ g ∧ g < w.heap.size ∧ ok g ∧ xs.length ≤ c ∧ d.C w (some ⟨g, 0, none⟩) xs.length xs
section
variable {e : Nat} {w w1 W : World} {base base' : Nat} {ok ok' : Nat → Prop} {v u : Value} {xs : List Int}
theorem B_step (h : B (Kd.int .u8) e w base ok v xs) (hs : w.heap.size ≤ w1.heap.size) (hb : ∀ k, ok k → k < w.heap.size → w1.heap[k]? = w.heap[k]?) : B (Kd.int .u8) e w1 base ok v xs := by
 obtain ⟨g, c, rfl, h1, h2, h3, h4, h5⟩ := h
 refine ⟨g, c, rfl, h1, Nat.lt_of_lt_of_le h2 hs, h3, h4, h5.1, h5.2.1, fun h0 => ?_⟩
 obtain ⟨ad, e', hc⟩ := h5.2.2 h0
 refine ⟨ad, e', fun j p hj => ?_⟩
 obtain ⟨cs, hs', hK, hcell⟩ := hc j p hj
 obtain rfl : (⟨g, 0, none⟩ : Addr) = ad := by injection e'
 exact ⟨cs, hs', hK, fun i u hu => (World.cell?_of_block (by rw [add_block];exact hb g h3 h2)).trans (hcell i u hu)⟩
theorem B_below (h : B (Kd.int .u8) e w base ok v xs) (hb : Below w.heap.size w w1) : B (Kd.int .u8) e w1 base ok v xs := B_step h hb.size (fun k _ hk => hb.block k hk)
theorem B_alloc (h : B (Kd.int .u8) e w base ok v xs) (o : Obj) : B (Kd.int .u8) e (w.alloc o) base ok v xs := B_below h (below_alloc (Below.refl _ _) o)
theorem B_drewN (h : B (Kd.int .u8) e w base ok v xs) (m : Nat) : B (Kd.int .u8) e (w.drewN m) base ok v xs := B_below h (pw_below_drewN (Below.refl _ _) m)
theorem B_drew (h : B (Kd.int .u8) e w base ok v xs) : B (Kd.int .u8) e w.drew base ok v xs := B_below h (below_drew (Below.refl _ _))
theorem B_lower (h : B (Kd.int .u8) e w base ok v xs) (hb : base' ≤ base) : B (Kd.int .u8) e w base' ok v xs := by
 obtain ⟨g, c, h0, h1, h2⟩ := h;exact ⟨g, c, h0, Nat.le_trans hb h1, h2⟩
theorem B_mono (h : B (Kd.int .u8) e w base ok v xs) (hok : ∀ k, ok k → ok' k) : B (Kd.int .u8) e w base ok' v xs := by
 obtain ⟨g, c, h0, h1, h2, h3, h4⟩ := h;exact ⟨g, c, h0, h1, h2, hok g h3, h4⟩
theorem B_blk (h : B (Kd.int .u8) e w base ok v xs) : ∀ k, v.ownBlock = some k → base ≤ k ∧ k < w.heap.size ∧ ok k := by
 obtain ⟨g, c, rfl, h1, h2, h3, _⟩ := h
 intro k hk
 have : g = k := by simpa [Value.ownBlock] using hk
 subst this;exact ⟨h1, h2, h3⟩
theorem B_base (h : B (Kd.int .u8) e w base ok v xs) : ∀ k, v.ownBlock = some k → base ≤ k := fun k hk => (B_blk h k hk).1
theorem B_lt (h : B (Kd.int .u8) e w base ok v xs) : ∀ k, v.ownBlock = some k → k < w.heap.size := fun k hk => (B_blk h k hk).2.1
theorem B_and (h : B (Kd.int .u8) e w base ok v xs) (hn : ∀ k, v.ownBlock = some k → ok' k) : B (Kd.int .u8) e w base (fun k => ok k ∧ ok' k) v xs := by
 obtain ⟨g, c, rfl, h1, h2, h3, h4⟩ := h;exact ⟨g, c, rfl, h1, h2, ⟨h3, hn g rfl⟩, h4⟩
theorem B_new' (h : B (Kd.int .u8) e w1 W.heap.size ok v xs) (hlt : ∀ k, u.ownBlock = some k → k < W.heap.size) : B (Kd.int .u8) e w1 W.heap.size (fun k => ok k ∧ some k ≠ u.ownBlock) v xs :=
 B_and h (fun k hk he => by have h1 := hlt k he.symm;have h2 := B_base h k hk;omega)
theorem B_elder' (hu : B (Kd.int .u8) e W base ok u xs) (hbase : ∀ k, v.ownBlock = some k → W.heap.size ≤ k) (hb : Below W.heap.size W w1) : B (Kd.int .u8) e w1 base (fun k => ok k ∧ some k ≠ v.ownBlock) u xs :=
 B_below (B_and hu (fun k hk he => by have h1 := hbase k he.symm;have h2 := B_lt hu k hk;omega)) hb
theorem B_grown (h : B (Kd.int .u8) e w base ok v xs) {row : Option Nat} (hg : w.grownBy w1 row) (hok : ∀ k, ok k → some k ≠ row) : B (Kd.int .u8) e w1 base ok v xs := B_step h hg.size (fun k ho hk => hg.block k hk (hok k ho))
theorem B_after {v1 : Value} (h : B (Kd.int .u8) e W base (fun k => ok k ∧ some k ≠ v.ownBlock) u xs) (hg : W.grownBy w1 v.ownBlock) (hat : v1.ownBlock = v.ownBlock ∨ ∃ b, v1.ownBlock = some b ∧ W.heap.size ≤ b) : B (Kd.int .u8) e w1 base (fun k => ok k ∧ some k ≠ v1.ownBlock) u xs := by
 refine B_mono (B_grown (B_and h (ok' := fun k => k < W.heap.size) (B_lt h)) hg (fun k hk => hk.1.2)) (fun k hk => ⟨hk.1.1, ?_⟩)
 rcases hat with hat | ⟨b, hb, hle⟩
 ·rw [hat];exact hk.1.2
 ·rw [hb];intro he
  have h1 := hk.2
  have : k = b := by injection he
  omega
theorem B_slice (h : B (Kd.int .u8) e w base ok v xs) : ∃ A c, v = .slice A xs.length c := by
 obtain ⟨g, c, h0, _⟩ := h;exact ⟨_, c, h0⟩
theorem B_reads' {A : Option Addr} {n c : Nat} (h : B (Kd.int .u8) e w base ok (.slice A n c) xs) : n = xs.length ∧ n ≤ c ∧ (Kd.int .u8).C w A xs.length xs := by
 obtain ⟨g, c', h0, _, _, _, h4, h5⟩ := h
 injection h0 with a b c
 subst a;subst b;subst c
 exact ⟨rfl, h4, h5⟩
end
section
variable {P : Program} {ops : Array Oper} {rest : List Oper} {o : Oper} {a : Act} {Q : Exit → Act → World → Prop} {Kc : Act → World → Prop}
theorem B_made (W : World) (e : TypeId) (s : ByteArray) (ok : Nat → Prop) (hok : ok W.heap.size) (hsz : s.size ≤ 140737488355328) : B (Kd.int .u8) e (Lib.bytesWorld W e s) W.heap.size ok (.slice (some ⟨W.heap.size, 0, none⟩) s.size (grownCap W s.size 0 e)) (bytesOf s) := by
 refine ⟨W.heap.size, grownCap W s.size 0 e, by rw [bytesOf_length], Nat.le_refl _, by rw [Lib.bytesWorld_size];omega, hok, ?_, rfl, by rw [bytesOf_length];omega, fun h0 => ⟨_, rfl, fun j p hj => ?_⟩⟩
 ·rw [bytesOf_length];exact grownCap_ge W s.size 0 e
 have hjl : j < s.size := by have := (List.getElem?_eq_some_iff.1 hj).1;rwa [bytesOf_length] at this
 refine ⟨[.int .u8 p], rfl, rfl, fun i u hu => ?_⟩
 cases i with
 | succ i => simp at hu
 | zero =>
  obtain rfl : Value.int .u8 p = u := by simpa using hu
  have hb := Lib.bytesWorld_cell W e s j hjl
  have hp : p = ((s.data.toList.getD j 0).toNat : Int) := by
   unfold bytesOf at hj
   rw [List.getElem?_map, List.getElem?_eq_getElem (by rw [data_length];exact hjl)] at hj
   simp only [Option.map_some, Option.some.injEq] at hj
   rw [← hj, List.getD_eq_getElem?_getD, List.getElem?_eq_getElem (by rw [data_length];exact hjl)];rfl
  rw [hp]
  show (Lib.bytesWorld W e s).cell? ((⟨W.heap.size, 0, none⟩ : Addr).add (j * 1 + 0)) = _
  rw [show (⟨W.heap.size, 0, none⟩ : Addr).add (j * 1 + 0) = ⟨W.heap.size, j, none⟩ from by cases j <;> simp [Addr.add]]
  exact hb
theorem B_bytes_step {w0 W : World} (base : Nat) (hw : Region.wanted o (yielded ops a.tmps) = true) {N : Tmp} (_hd : o.dst = some N) (src dst e : TypeId) (x : Operand) (ho : o.op = .convert src dst x) (s : ByteArray) (hx : a.eval x = .string s) (ys : List Int) (hy : ys = bytesOf s)
  (hs : P.underlying src = some .string) (ht : P.underlying dst = some (.slice e)) (he : P.underlying e = some (.int .u8)) (hsz : s.size ≤ 140737488355328) {ok okp : Nat → Prop} (_hok : ∀ k, okp k → ok k) (hfresh : ok W.heap.size) (HB : Below base w0 W) (hbase : base ≤ W.heap.size)
  (h : ∀ v1 w1, B (Kd.int .u8) e w1 base ok v1 ys → Below base w0 w1 → W.grownBy w1 none → (∃ b, v1.ownBlock = some b ∧ W.heap.size ≤ b) → Kc (a.put o.dst v1) w1) : if Region.wanted o (yielded ops a.tmps) = true then Oper.wp P o a W Kc Q else Kc (a.put o.dst undef) W := by
 subst hy
 have hg : W.grownBy (Lib.bytesWorld W e s) none := ⟨rfl, rfl, rfl, by rw [Lib.bytesWorld_size];omega, fun k hk _ => Lib.bytesWorld_at_old W e s k hk⟩
 refine event_step (v := .slice (some ⟨W.heap.size, 0, none⟩) s.size (grownCap W s.size 0 e)) (w1 := Lib.bytesWorld W e s) hw ?_ (h _ _ (B_lower (B_made W e s ok hfresh hsz) hbase) (HB.grown hg hbase (by simp)) hg ⟨_, rfl, Nat.le_refl _⟩)
 simp [execOp, ho, hx, Lib.run_convert_string_bytes W src dst e s hs ht he]
end
end Kd
theorem setCell_drewN_ (w : World) (n : Nat) (a : Addr) (v : Value) : (w.drewN n).setCell a v = (w.setCell a v).drewN n := rfl
def errW : Option Int → Value
 | none => .nilIface
 | some c => .iface 0 (.int .i64 c)
theorem errW_none : errW none = .nilIface := rfl
theorem errW_some (c : Int) : errW (some c) = .iface 0 (.int .i64 c) := rfl

theorem info5 : (Try.prog.info? 5).map (fun i => (i.zero, i.size, i.bytes)) = some (some (.int .u8 0), 1, 1) := by kernel_rfl
theorem info74 : (Try.prog.info? 74).map (fun i => (i.zero, i.size, i.bytes)) = some (some (.agg #[(.int .i64 0), (.int .i64 0), (.int .i64 0), (.string ⟨#[]⟩), (.int .i64 0)]), 5, 48) := by kernel_rfl
-- the values' own types
structure S73 where
 f0 : Int
 f1 : Int
 f2 : Int
 f3 : ByteArray
 f4 : Int
def z73 : S73 := ⟨(0 : Int), (0 : Int), (0 : Int), (⟨#[]⟩ : ByteArray), (0 : Int)⟩
def k73 : Kd S73 := Kd.iso (Kd.pair (Kd.int .i64) (Kd.pair (Kd.int .i64) (Kd.pair (Kd.int .i64) (Kd.pair Kd.string (Kd.int .i64))))) (fun x : S73 => (x.f0, x.f1, x.f2, x.f3, x.f4))
theorem k73_open {w : World} {x : S73} {cs : List Value} (h : k73.K w x cs) : cs = [.int .i64 x.f0, .int .i64 x.f1, .int .i64 x.f2, .string x.f3, .int .i64 x.f4] := by
 obtain ⟨_, _, rfl, rfl, ⟨_, _, rfl, rfl, ⟨_, _, rfl, rfl, ⟨_, _, rfl, rfl, rfl⟩⟩⟩⟩ := h
 exact rfl
theorem k73_mk (w : World) (x : S73)  : k73.K w x [.int .i64 x.f0, .int .i64 x.f1, .int .i64 x.f2, .string x.f3, .int .i64 x.f4] := ⟨[.int .i64 x.f0], [.int .i64 x.f1, .int .i64 x.f2, .string x.f3, .int .i64 x.f4], rfl, rfl, ⟨[.int .i64 x.f1], [.int .i64 x.f2, .string x.f3, .int .i64 x.f4], rfl, rfl, ⟨[.int .i64 x.f2], [.string x.f3, .int .i64 x.f4], rfl, rfl, ⟨[.string x.f3], [.int .i64 x.f4], rfl, rfl, rfl⟩⟩⟩⟩
def rd_T73 (xs : List S73) (i : Int) : S73 := xs.getD i.toNat z73
theorem at_T73 {w : World} {A : Option Addr} {n : Nat} {xs : List S73} (h : Kd.C k73 w A n xs) (i : Int) (h0 : 0 ≤ i) (h1 : i < n) : ∃ ad , A = some ad ∧ w.cell? (ad.add (i.toNat * 5)) = some (.int .i64 (rd_T73 xs i).f0) ∧ w.cell? ⟨(ad.add (i.toNat * 5)).block, (ad.add (i.toNat * 5)).off + 1, none⟩ = some (.int .i64 (rd_T73 xs i).f1) ∧ w.cell? ⟨(ad.add (i.toNat * 5)).block, (ad.add (i.toNat * 5)).off + 2, none⟩ = some (.int .i64 (rd_T73 xs i).f2) ∧ w.cell? ⟨(ad.add (i.toNat * 5)).block, (ad.add (i.toNat * 5)).off + 3, none⟩ = some (.string (rd_T73 xs i).f3) ∧ w.cell? ⟨(ad.add (i.toNat * 5)).block, (ad.add (i.toNat * 5)).off + 4, none⟩ = some (.int .i64 (rd_T73 xs i).f4) := by
 obtain ⟨ad, c, e, _, hK, hc0⟩ := Kd.C_get h z73 i h0 h1
 have hc : ∀ j u, c[j]? = some u → w.cell? (ad.add (i.toNat * 5 + j)) = some u := hc0
 obtain rfl := k73_open hK
 exact ⟨ad, e, hc 0 _ rfl, by rw [← add_field _ _ 1 (by omega)];exact hc 1 _ rfl, by rw [← add_field _ _ 2 (by omega)];exact hc 2 _ rfl, by rw [← add_field _ _ 3 (by omega)];exact hc 3 _ rfl, by rw [← add_field _ _ 4 (by omega)];exact hc 4 _ rfl⟩

structure S74 where
 f0 : Int
 f1 : Int
 f2 : Int
 f3 : ByteArray
 f4 : Int
def z74 : S74 := ⟨(0 : Int), (0 : Int), (0 : Int), (⟨#[]⟩ : ByteArray), (0 : Int)⟩
def k74 : Kd S74 := Kd.iso (Kd.pair (Kd.int .i64) (Kd.pair (Kd.int .i64) (Kd.pair (Kd.int .i64) (Kd.pair Kd.string (Kd.int .i64))))) (fun x : S74 => (x.f0, x.f1, x.f2, x.f3, x.f4))
theorem k74_open {w : World} {x : S74} {cs : List Value} (h : k74.K w x cs) : cs = [.int .i64 x.f0, .int .i64 x.f1, .int .i64 x.f2, .string x.f3, .int .i64 x.f4] := by
 obtain ⟨_, _, rfl, rfl, ⟨_, _, rfl, rfl, ⟨_, _, rfl, rfl, ⟨_, _, rfl, rfl, rfl⟩⟩⟩⟩ := h
 exact rfl
theorem k74_openM {w : World} {base : Nat} {ok : Nat → Prop} {x : S74} {cs : List Value} (h : k74.M w base ok x cs) : cs = [.int .i64 x.f0, .int .i64 x.f1, .int .i64 x.f2, .string x.f3, .int .i64 x.f4] := by
 obtain ⟨_, _, rfl, rfl, ⟨_, _, rfl, rfl, ⟨_, _, rfl, rfl, ⟨_, _, rfl, rfl, rfl⟩⟩⟩⟩ := h
 exact rfl
theorem k74_mk (w : World) (x : S74)  : k74.K w x [.int .i64 x.f0, .int .i64 x.f1, .int .i64 x.f2, .string x.f3, .int .i64 x.f4] := ⟨[.int .i64 x.f0], [.int .i64 x.f1, .int .i64 x.f2, .string x.f3, .int .i64 x.f4], rfl, rfl, ⟨[.int .i64 x.f1], [.int .i64 x.f2, .string x.f3, .int .i64 x.f4], rfl, rfl, ⟨[.int .i64 x.f2], [.string x.f3, .int .i64 x.f4], rfl, rfl, ⟨[.string x.f3], [.int .i64 x.f4], rfl, rfl, rfl⟩⟩⟩⟩
theorem k74_mkM (w : World) (base : Nat) (ok : Nat → Prop) (x : S74)  : k74.M w base ok x [.int .i64 x.f0, .int .i64 x.f1, .int .i64 x.f2, .string x.f3, .int .i64 x.f4] := ⟨[.int .i64 x.f0], [.int .i64 x.f1, .int .i64 x.f2, .string x.f3, .int .i64 x.f4], rfl, rfl, ⟨[.int .i64 x.f1], [.int .i64 x.f2, .string x.f3, .int .i64 x.f4], rfl, rfl, ⟨[.int .i64 x.f2], [.string x.f3, .int .i64 x.f4], rfl, rfl, ⟨[.string x.f3], [.int .i64 x.f4], rfl, rfl, rfl⟩⟩⟩⟩
def rd_T74 (xs : List S74) (i : Int) : S74 := xs.getD i.toNat z74
theorem at_T74 {w : World} {A : Option Addr} {n : Nat} {xs : List S74} (h : Kd.C k74 w A n xs) (i : Int) (h0 : 0 ≤ i) (h1 : i < n) : ∃ ad , A = some ad ∧ w.cell? (ad.add (i.toNat * 5)) = some (.int .i64 (rd_T74 xs i).f0) ∧ w.cell? ⟨(ad.add (i.toNat * 5)).block, (ad.add (i.toNat * 5)).off + 1, none⟩ = some (.int .i64 (rd_T74 xs i).f1) ∧ w.cell? ⟨(ad.add (i.toNat * 5)).block, (ad.add (i.toNat * 5)).off + 2, none⟩ = some (.int .i64 (rd_T74 xs i).f2) ∧ w.cell? ⟨(ad.add (i.toNat * 5)).block, (ad.add (i.toNat * 5)).off + 3, none⟩ = some (.string (rd_T74 xs i).f3) ∧ w.cell? ⟨(ad.add (i.toNat * 5)).block, (ad.add (i.toNat * 5)).off + 4, none⟩ = some (.int .i64 (rd_T74 xs i).f4) := by
 obtain ⟨ad, c, e, _, hK, hc0⟩ := Kd.C_get h z74 i h0 h1
 have hc : ∀ j u, c[j]? = some u → w.cell? (ad.add (i.toNat * 5 + j)) = some u := hc0
 obtain rfl := k74_open hK
 exact ⟨ad, e, hc 0 _ rfl, by rw [← add_field _ _ 1 (by omega)];exact hc 1 _ rfl, by rw [← add_field _ _ 2 (by omega)];exact hc 2 _ rfl, by rw [← add_field _ _ 3 (by omega)];exact hc 3 _ rfl, by rw [← add_field _ _ 4 (by omega)];exact hc 4 _ rfl⟩

end Go.Proofs.Ytjbghmdbceekiaa.PFnExactTreePack
