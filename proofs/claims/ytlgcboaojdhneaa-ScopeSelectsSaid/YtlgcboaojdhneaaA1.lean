/- row, overloadable, typed. -/
import Derived.Test.YtlgcboaojdhneaaK1
import Derived.Deep.DeepCutAuto
import Derived.Deep.CutBlock
import Derived.Laws.EntriesVeiled
import Derived.Deep.QuietTactic
import Derived.BigQuiet
import Derived.StillTailTactics
import Derived.Deep.LoopGhost
import Derived.WalkSmall
namespace Go.Proofs.Ytlgcboaojdhneaa
open Go.RowKit

def rowR (t : Tab) (e : Int) : Option EntV := if e < 0 then none else t.ents[e.toNat]?
def rowE (t : Tab) (e : Int) : EntV := (rowR t e).getD zeroE
/-- A row, and whether it exists. -/
def RetRow (x : EntV) (b : Bool) (w : World) (e : Ending) (w' : World) : Prop := e = .returned (.tuple #[.agg x.cells.toArray, .bool b]) ∧ Kept [] w w'

theorem EntV.range {w : World} {b : Nat} {x : EntV} (h : w.heap[b]? = some (.cells x.cells.toArray 43 (0, 0))) : w.rangeAt b 0 x.cells := fun j u hu => by
  rw [Nat.zero_add, cell_of_row _ _ _ _ _ _ h]
  simpa using hu

theorem results39_of {w : World} {B : Nat} {x : EntV} {b : Bool} {tmps : Array Value} (h4 : tmps.getD 4 undef = .pointer (some ⟨B, 0, none⟩)) (h5 : tmps.getD 5 undef = .bool b) (hr : w.rangeAt B 0 x.cells) :
    (results Try.f39 tmps).run Try.prog w = .ok (.tuple #[.agg x.cells.toArray, .bool b]) w := by
  simp only [Array.getD_eq_getD_getElem?] at h4 h5
  simp [results, Try.results39, h4, h5, asAddr, Sem.run_bind, run_loadVar_mid w B 0 43 x.cells _ hr Try.underlying43 rfl (Try.info43 x)]

set_option maxRecDepth 100000 in
set_option maxHeartbeats 1000000 in
theorem row_any (w : World) (v : TabV) (t : Tab) (e : Int) (hT : TabIn w v t) :
    Calls Try.prog 39 #[.agg (v.cells t), .int .i64 e] w (RetRow (rowE t e) (rowR t e).isSome w) := by
  unfold rowE
  have HT := Lib.hid hT
  have q1 := hT.el
  have q2 := hT.em
  clear hT
  unfold TabV.cells
  go_enter Try.func39, Try.ntmps39
  by_cases h0 : e < 0
  · have HR : Hid (rowR t e = none) := by simp [Hid, rowR, h0]
    go_wp2_with (refine wpList_store_new rfl 43 (.tmp 4) (.tmp 16) rfl _ zeroE.cells.toArray (w.heap.size + 1) rfl (by simp) rfl (Try.info43 _) rfl (EntV.one _) ?_)
    refine bodyPost_ret (results39_of (x := zeroE) rfl rfl (EntV.range (obj_new (o := .cells zeroE.cells.toArray 43) (by simp)))) rfl ?_
    rw [HR.out]
    exact ⟨rfl, (Kept.alloc _ _ _).trans (Kept.alloc _ _ _)⟩
  · obtain ⟨n, rfl⟩ := Int.eq_ofNat_of_zero_le (by omega : 0 ≤ e)
    by_cases h1 : n < t.ents.length
    · obtain ⟨x, hx⟩ : ∃ x, t.ents[n]? = some x := ⟨_, List.getElem?_eq_getElem h1⟩
      have HR : Hid (rowR t (n : Int) = some x) := by
        rw [Hid, rowR, if_neg (by omega)]
        simpa using hx
      obtain ⟨b, o, ha, hr⟩ := HT.out.es.some_ hx
      have HROW := Lib.hid (hr n x hx)
      rw [ha]
      clear hr hx ha
      go_wp2_with (refine wpList_load_mid rfl 43 (.tmp 21) rfl b (o + n * 22) rfl x.cells _ (World.rangeAt_alloc (World.rangeAt_alloc HROW.out _) _) Try.underlying43 rfl (Try.info43 x) ?_)
      refine bodyPost_ret (results39_of (x := x) rfl rfl (EntV.range (obj_new (by simp)))) rfl ?_
      rw [HR.out]
      exact ⟨rfl, (Kept.alloc _ _ _).trans (Kept.alloc _ _ _)⟩
    · have HR : Hid (rowR t (n : Int) = none) := by
        rw [Hid, rowR, if_neg (by omega)]
        simp; omega
      go_wp2_with (refine wpList_store_new rfl 43 (.tmp 4) (.tmp 16) rfl _ zeroE.cells.toArray (w.heap.size + 1) rfl (by simp) rfl (Try.info43 _) rfl (EntV.one _) ?_)
      refine bodyPost_ret (results39_of (x := zeroE) rfl rfl (EntV.range (obj_new (o := .cells zeroE.cells.toArray 43) (by simp)))) rfl ?_
      rw [HR.out]
      exact ⟨rfl, (Kept.alloc _ _ _).trans (Kept.alloc _ _ _)⟩
end Go.Proofs.Ytlgcboaojdhneaa
