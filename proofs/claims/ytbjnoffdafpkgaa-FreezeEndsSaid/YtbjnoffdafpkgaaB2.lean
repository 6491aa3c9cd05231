/- Parts. -/
import Derived.Test.YtbjnoffdafpkgaaB1
import Derived.Laws.EntriesVeiled
import Derived.Deep.DeepCutAuto
import Derived.Deep.CutBlock
namespace Go.Proofs.Ytbjnoffdafpkgaa
open Go.RowKit

/-- The result of a function that returns a new slice of ints. -/
def RetInts (xs : List Int) (w : World) (e : Ending) (w' : World) : Prop :=
  ∃ v, e = .returned v ∧ w'.ownsRow w.heap.size 3 1 v xs.length (xs.map (Value.int .i64)) ∧ Below w.heap.size w w'

set_option maxRecDepth 100000 in
set_option maxHeartbeats 400000 in
theorem parts_none (w : World) (v : TabV) (t : Tab) (ty : Int) (hn : t.types.length ≤ 9223372036854775807) (hx : exI t.types.length ty = false) :
    Calls Try.prog 14 #[.agg (v.cells t), .int .i64 ty] w (RetInts [] w) := by
  unfold TabV.cells
  go_enter Try.func14, Try.ntmps14
  go_wp2_with fail
  refine (parts1_any _ w.heap.size t.types.length v.tc v.ta ty hn ?_).mono ?_
  · go_simp
  rintro e w1 ⟨rfl, rfl⟩
  go_wp2
  go_ret
  exact ⟨_, rfl, World.ownsRow_nil _ _ _ _, (((Below.refl _ _).alloc (Nat.le_refl _) _).alloc (by simp) _).alloc (by simp; omega) _⟩

theorem wp_gen {P : Program} {c : Code} {Q : Exit → Act → World → Prop} {a : Act} {W : World} (h : ∀ w5, w5 = W → Code.wp P c Q a w5) : Code.wp P c Q a W := h W rfl

/-- The environment of Parts behind its variables; N: the heap's size at the call. -/
structure PEnv (w0 : World) (v : TabV) (t : Tab) (k : Nat) (x : TyRow) (xs : List Int) (w : World) : Prop where
  fits : Fits (w0.heap.size + 6) (w0.heap.size + 3) t.types.length k w w0.heap.size (w0.heap.size + 2) (w0.heap.size + 1) xs
  add : w.cell? ⟨w0.heap.size + 4, 0, none⟩ = some (.func (.func 25) #[] #[.pointer (some ⟨w0.heap.size + 2, 0, none⟩), .pointer (some ⟨w0.heap.size + 1, 0, none⟩), .pointer (some ⟨w0.heap.size + 3, 0, none⟩)])
  subs : w.cell? ⟨w0.heap.size, 1, none⟩ = some (.slice v.sa t.subs.length v.sc)
  row : w.heap[w0.heap.size + 5]? = some (.cells x.cells.toArray 51 (0, 0))
  below : Below w0.heap.size w0 w

theorem But.toBelow {B0 B L : Nat} {w w' : World} (h : But B L w w') (h1 : B0 ≤ B) (h2 : B0 ≤ L) : Below B0 w w' := ⟨h.os, h.tape, h.output, h.size, fun k hk => h.block k (by omega) (by omega)⟩

theorem PEnv.next {w0 w w' : World} {v : TabV} {t : Tab} {k : Nat} {x : TyRow} {xs xs' : List Int} (h : PEnv w0 v t k x xs w) (hp : PList w' (w0.heap.size + 6) (w0.heap.size + 3) xs') (hb : But (w0.heap.size + 6) (w0.heap.size + 3) w w') : PEnv w0 v t k x xs' w' := by
  obtain ⟨⟨a, c, f1, f2, f3, f4, f5, f6, f7, f8, f9, f10, f11⟩, h2, h3, h4, h5⟩ := h
  refine ⟨⟨a, c, (hb.cell (by simp) (by simp)).trans f1, (hb.cell (by simp) (by simp)).trans f2, (hb.cell (by simp) (by simp)).trans f3, f4, f5, f6, f7, f8, f9, f10, hp⟩, (hb.cell (by simp) (by simp)).trans h2, (hb.cell (by simp) (by simp)).trans h3, (hb.block _ (by omega) (by omega)).trans h4, h5.trans (hb.toBelow (by omega) (by omega))⟩

/-- The parts of a type, before they are sorted. -/
def rawI (t : Tab) (k : Nat) (x : TyRow) : List Int :=
  if x.kind == 2 || x.kind == 3 then addI t.types.length k x.parent []
  else if x.kind == 4 then subI t.types.length k t.subs x.elem (subI t.types.length k t.subs x.index [])
  else if x.kind == 5 then x.comps.foldl (fun l c => subI t.types.length k t.subs c.sub l) (subI t.types.length k t.subs x.disc [])
  else []

#print axioms parts_none
end Go.Proofs.Ytbjnoffdafpkgaa
