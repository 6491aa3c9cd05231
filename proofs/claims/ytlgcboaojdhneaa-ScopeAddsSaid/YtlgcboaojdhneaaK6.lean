/- Tables and places in boxes. -/
import Derived.Test.YtlgcboaojdhneaaE6
import Derived.Test.YtlgcboaojdhneaaO1
import Derived.BigQuiet
import Derived.ChangeMaps5
import Derived.Deep.RegionWith
import Derived.Deep.RegionHeld3
namespace Go.Proofs.Ytlgcboaojdhneaa
open Go.RowKit

/-- A table in a box, with all that it reads. -/
structure TabBox (w : World) (B : Nat) (v : TabV) (t : Tab) : Prop where
  box : w.heap[B]? = some (.cells (v.cells t) 28 (0, 0))
  tab : TabIn w v t
theorem TabBox.kept {w w' : World} {B : Nat} {v : TabV} {t : Tab} (h : TabBox w B v t) (hk : Kept [] w w') : TabBox w' B v t := ⟨hk.obj h.box (by simp), h.tab.kept hk⟩
theorem TabBox.cells {w : World} {B : Nat} {v : TabV} {t : Tab} (h : TabBox w B v t) : w.cell? ⟨B, 0, none⟩ = some (.slice v.ta t.types.length v.tc) ∧ w.cell? ⟨B, 1, none⟩ = some (.slice v.sa t.subs.length v.sc) ∧ w.cell? ⟨B, 2, none⟩ = some (.slice v.ea t.ents.length v.ec) ∧ w.cell? ⟨B, 3, none⟩ = some (.slice v.ga v.gn v.gc) ∧ w.cell? ⟨B, 4, none⟩ = some (.slice v.ia v.im v.ic) := by
  have c : ∀ j, w.cell? ⟨B, j, none⟩ = (v.cells t)[j]? := fun j => cell_of_row _ _ _ _ _ _ h.box
  exact ⟨c 0, c 1, c 2, c 3, c 4⟩
/-- What lies at higher addresses does not matter: the same words over the cells' own form. -/
theorem TabIn.block {w w' : World} {B : Nat} {v : TabV} {t : Tab} (h : TabIn w v t) (hB : w.heap.size ≤ B) {w0 : World} (h0 : Kept [] w w0) (hk : Kept [B] w0 w') : TabIn w' v t := h.kept (h0.above hk (by simp; omega))
/-- A place in a box, with all that it reads. -/
structure WhBox (w : World) (B : Nat) (h : WhV) : Prop where
  box : w.heap[B]? = some (.cells h.cells.toArray 31 (0, 0))
  wh : WhIn w h
theorem WhBox.kept {w w' : World} {B : Nat} {h : WhV} (hb : WhBox w B h) (hk : Kept [] w w') : WhBox w' B h := ⟨hk.obj hb.box (by simp), hb.wh.kept hk⟩
theorem WhBox.cells {w : World} {B : Nat} {h : WhV} (hb : WhBox w B h) : w.cell? ⟨B, 0, none⟩ = some (.int .i64 h.region) ∧ w.cell? ⟨B, 1, none⟩ = some (.int .i64 h.after) ∧ w.cell? ⟨B, 2, none⟩ = some (.slice h.ua h.units.length h.uc) ∧ w.cell? ⟨B, 3, none⟩ = some (.slice h.sa h.uses.length h.sc) := by
  have c : ∀ j, w.cell? ⟨B, j, none⟩ = h.cells.toArray[j]? := fun j => cell_of_row _ _ _ _ _ _ hb.box
  exact ⟨c 0, c 1, c 2, c 3⟩
theorem row_frozen {w : World} {B : Nat} {c : Array Value} {ty : TypeId} (h : w.heap[B]? = some (.cells c ty (0, 0))) (j : Nat) : w.frozen? ⟨B, j, none⟩ = false := frozen_of_row _ _ j _ _ h

/-- A table and a place stored cell by cell. -/
theorem cut_stored {W : World} {B B1 : Nat} (hne : B ≠ B1) {v : TabV} {t t' : Tab} {h h' : WhV} (hb : W.heap[B]? = some (.cells (v.cells t) 28 (0, 0))) (hb1 : W.heap[B1]? = some (.cells h.cells.toArray 31 (0, 0)))
    (x0 x1 x2 x3 x4 y0 y1 y2 y3 : Value) (hx : v.cells t' = #[x0, x1, x2, x3, x4]) (hy : h'.cells.toArray = #[y0, y1, y2, y3]) {W' : World}
    (hW : W' = (((((((((W.setCell ⟨B, 0, none⟩ x0).setCell ⟨B, 1, none⟩ x1).setCell ⟨B, 2, none⟩ x2).setCell ⟨B, 3, none⟩ x3).setCell ⟨B, 4, none⟩ x4).setCell ⟨B1, 0, none⟩ y0).setCell ⟨B1, 1, none⟩ y1).setCell ⟨B1, 2, none⟩ y2).setCell ⟨B1, 3, none⟩ y3)) :
    W'.heap[B]? = some (.cells (v.cells t') 28 (0, 0)) ∧ W'.heap[B1]? = some (.cells h'.cells.toArray 31 (0, 0)) ∧ Kept [B, B1] W W' := by
  subst hW
  have h0 : VRow W B 28 (v.cells t).toList := hb
  have g0 : VRow W B1 31 h.cells := hb1
  refine ⟨?_, ?_, ?_⟩
  · rw [hx]
    exact (((((((((h0.set 0 x0).set 1 x1).set 2 x2).set 3 x3).set 4 x4).other ⟨B1, 0, none⟩ y0 hne).other ⟨B1, 1, none⟩ y1 hne).other ⟨B1, 2, none⟩ y2 hne).other ⟨B1, 3, none⟩ y3 hne)
  · rw [hy]
    exact ((((((((g0.other ⟨B, 0, none⟩ x0 hne.symm).other ⟨B, 1, none⟩ x1 hne.symm).other ⟨B, 2, none⟩ x2 hne.symm).other ⟨B, 3, none⟩ x3 hne.symm).other ⟨B, 4, none⟩ x4 hne.symm).set 0 y0).set 1 y1).set 2 y2).set 3 y3
  · exact (((((((Kept.setCell _ _ _ (by simp)).trans (Kept.setCell _ _ _ (by simp))).trans (Kept.setCell _ _ _ (by simp))).trans (Kept.setCell _ _ _ (by simp))).trans (Kept.setCell _ _ _ (by simp))).trans (Kept.setCell _ _ _ (by simp))).trans (Kept.setCell _ _ _ (by simp))).trans ((Kept.setCell _ _ _ (by simp)).trans (Kept.setCell _ _ _ (by simp)))
theorem cutH_uses (h : WhV) : (cutH h).uses.length ≤ 20 := by simp [cutH, List.length_take]; omega
theorem cutT_ents (t : Tab) : (cutT t).ents.length ≤ 120 := by simp [cutT, List.length_take]; omega
theorem intsC_shape {w : World} {v : Value} {xs : List Int} (h : IntsC w v xs) : ∃ A c, v = .slice A xs.length c := by
  obtain ⟨a, c, e, _⟩ := h
  exact ⟨a, c, e⟩
theorem sameI_self (l : List Int) : sameI l l = true := by simp [sameI]
set_option maxRecDepth 100000 in
/-- A string argument. -/
theorem str_open {H : Type} {enc : TypeId × Value → H} {w : World} {base : Nat} {sp : Nat → Bool} {held : Bool} {r : Reach} {b0 : Nat} {v : Value} {d : DataW H} {ps : List MemPlace} (hd : DataW.Trod enc Try.prog w base sp held 9 v d ps) (hs : SzD Try.prog 9 d) (hval : Value.okWide Try.prog w r b0 9 v) :
    ∃ s : ByteArray, v = .string s ∧ s.size ≤ 140737488355328 := by
  obtain ⟨s, rfl, rfl, rfl, _⟩ := ChangeMaps.open_string Try.underlying9 hval hd
  refine ⟨s, rfl, ?_⟩
  have h := SzD.str hs
  rw [Array.length_toList] at h
  exact reach_ok h
end Go.Proofs.Ytlgcboaojdhneaa
